/- Walk: gazetteerlaw48.UniteParts. -/
import Derived.Test.YtkfococpanailaaGreatDoorGB31
import Derived.Test.YtkfococpanailaaGreatDoorGB08
import Derived.Test.YtkfococpanailaaGreatDoorGB35
namespace Go.Proofs.YtkfococpanailaaGreatDoor
open Go.RowKit Go.Gz Go.Shelf

set_option maxRecDepth 100000
set_option maxHeartbeats 32000000 in
theorem uparts48 (a b k : Items) (hxa : ∀ x ∈ a, x.2.length ≤ 9223372036854775807) (hxb : ∀ x ∈ b, x.2.length ≤ 9223372036854775807) (hxk : ∀ x ∈ k, x.2.length ≤ 9223372036854775807) (Aa : Option Addr) (ca : Nat) (Ab : Option Addr) (cb : Nat) (Ak : Option Addr) (ck : Nat) (w : World) (hra : Rd w 2 Aa a.length ca (itV a)) (hrb : Rd w 2 Ab b.length cb (itV b)) (hrk : Rd w 2 Ak k.length ck (itV k)) :
    Calls Tryz.prog 5 #[.slice Aa a.length ca, .slice Ab b.length cb, .slice Ak k.length ck] w fun e w' => e = .returned (.bool true) ∧ Up w w' := by
  have OVa : ∀ w, Rd w 2 Aa a.length ca (itV a) → Hid (Calls Tryz.prog 18 #[.slice Aa a.length ca, .int .i64 50, .int .i64 3000] w (OverEnd (a.length ≤ 50 ∧ sumL a ≤ 3000) w)) := fun w hr => Lib.hid (over12_any a 50 3000 (by decide) hxa Aa ca w hr)
  have OVb : ∀ w, Rd w 2 Ab b.length cb (itV b) → Hid (Calls Tryz.prog 18 #[.slice Ab b.length cb, .int .i64 50, .int .i64 3000] w (OverEnd (b.length ≤ 50 ∧ sumL b ≤ 3000) w)) := fun w hr => Lib.hid (over12_any b 50 3000 (by decide) hxb Ab cb w hr)
  have OVk : ∀ w, Rd w 2 Ak k.length ck (itV k) → Hid (Calls Tryz.prog 18 #[.slice Ak k.length ck, .int .i64 50, .int .i64 3000] w (OverEnd (k.length ≤ 50 ∧ sumL k ≤ 3000) w)) := fun w hr => Lib.hid (over12_any k 50 3000 (by decide) hxk Ak ck w hr)
  have AW := fun w => Lib.hid (awake48 w)
  have HRA := Lib.hid hra
  have HRB := Lib.hid hrb
  have HRK := Lib.hid hrk
  have HU := Lib.hid (Up.refl w)
  clear hra hrb hrk hxa hxb hxk
  go_enter Tryz.func5, Tryz.ntmps5
  go_wp2_with fail
  with_reducible refine (OVa _ HRA.out).out.mono ?_
  rintro e w1 ⟨b1, rfl, hb, rfl⟩
  cases b1 with
  | true =>
    go_wp2_with fail
    with_reducible refine (AW _).out.mono ?_
    rintro e w2 ⟨rfl, hu2⟩
    go_wp2_with fail
    go_ret
    exact ⟨rfl, HU.out.trans hu2⟩
  | false =>
  obtain ⟨hla, _⟩ := hb rfl
  clear hb OVa
  go_wp2_with fail
  with_reducible refine (OVb _ HRB.out).out.mono ?_
  rintro e w1 ⟨b1, rfl, hb, rfl⟩
  cases b1 with
  | true =>
    go_wp2_with fail
    with_reducible refine (AW _).out.mono ?_
    rintro e w2 ⟨rfl, hu2⟩
    go_wp2_with fail
    go_ret
    exact ⟨rfl, HU.out.trans hu2⟩
  | false =>
  obtain ⟨hlb, _⟩ := hb rfl
  clear hb OVb
  go_wp2_with fail
  with_reducible refine (OVk _ HRK.out).out.mono ?_
  rintro e w1 ⟨b1, rfl, hb, rfl⟩
  cases b1 with
  | true =>
    go_wp2_with fail
    with_reducible refine (AW _).out.mono ?_
    rintro e w2 ⟨rfl, hu2⟩
    go_wp2_with fail
    go_ret
    exact ⟨rfl, HU.out.trans hu2⟩
  | false =>
  obtain ⟨hlk, _⟩ := hb rfl
  clear hb OVk
  have OWa := fun w hr => Lib.hid (own12_any a (by omega) Aa ca w hr)
  have OWb := fun w hr => Lib.hid (own12_any b (by omega) Ab cb w hr)
  have OWk := fun w hr => Lib.hid (own12_any k (by omega) Ak ck w hr)
  unfold OwnEnd at OWa OWb OWk
  have ga := good_own a (by omega)
  have gb := good_own b (by omega)
  have gk := good_own k (by omega)
  have la := own_len a
  have lb := own_len b
  have lk := own_len k
  generalize ownL a = L at *
  generalize ownL b = M at *
  generalize ownL k = N at *
  have sl := some_len L M false
  have sl2 := some_len L M true
  have ol := over_len_le L M
  have ol2 := over_len_le M N
  have s3 := some_len (someL L M false) (someL L M true) false
  have s4 := some_len (someL L M false) M false
  have s5 := some_len (overL L M) N false
  have s6 := some_len M N false
  have s7 := some_len L (overL M N) false
  have s8 := some_len L L false
  have gS := good_some ga M false
  have gT := good_some ga M true
  have gV := good_over ga gb (by omega)
  have gR := good_over gb gk (by omega)
  have ON : ∀ A1 c1 A2 c2 w, Rd w 2 A1 L.length c1 (itV L) → Rd w 2 A2 M.length c2 (itV M) → Hid (Calls Tryz.prog 25 #[.agg #[.slice A1 L.length c1], .agg #[.slice A2 M.length c2]] w (ChaE w (someL L M false))) := fun A1 c1 A2 c2 w h1 h2 => Lib.hid (only48_any L M ga ga.len gb.srt (by omega) A1 c1 A2 c2 w h1 h2)
  have BO := fun A1 c1 A2 c2 w h1 h2 => Lib.hid (both48_any L M ga ga.len gb.srt (by omega) A1 c1 A2 c2 w h1 h2)
  have V1 := fun A1 c1 A2 c2 w h1 h2 => Lib.hid (over48_ok (someL L M false) (someL L M true) gS gT (by omega) A1 c1 A2 c2 w h1 h2)
  have V2 := fun A1 c1 A2 c2 w h1 h2 => Lib.hid (over48_ok L M ga gb (by omega) A1 c1 A2 c2 w h1 h2)
  have V3 := fun A1 c1 A2 c2 w h1 h2 => Lib.hid (over48_ok (someL L M false) M gS gb (by omega) A1 c1 A2 c2 w h1 h2)
  have V4 := fun A1 c1 A2 c2 w h1 h2 => Lib.hid (over48_ok (overL L M) N gV gk (by omega) A1 c1 A2 c2 w h1 h2)
  have V5 := fun A1 c1 A2 c2 w h1 h2 => Lib.hid (over48_ok M N gb gk (by omega) A1 c1 A2 c2 w h1 h2)
  have V6 := fun A1 c1 A2 c2 w h1 h2 => Lib.hid (over48_ok L (overL M N) ga gR (by omega) A1 c1 A2 c2 w h1 h2)
  have V7 := fun A1 c1 A2 c2 w h1 h2 => Lib.hid (over48_ok L L ga ga (by omega) A1 c1 A2 c2 w h1 h2)
  rw [over_parts ga.srt] at V1
  rw [over_only ga.srt gb.srt] at V3
  rw [← over_assoc ga.srt gb.srt gk.srt] at V6
  rw [over_self ga.srt] at V7
  have gW := over_len_le (overL L M) N
  have e1 : IntKind.i64.wrap (((someL L M false).length : Int) + ((someL L M true).length : Int)) = (L.length : Int) := by
    have := some_sum L M
    rw [IntWalk.i64_in _ (by omega)]; omega
  have e2 : IntKind.i64.wrap (((someL L M false).length : Int) + (M.length : Int)) = ((overL L M).length : Int) := by
    have := over_len ga.srt gb.srt
    rw [IntWalk.i64_in _ (by omega)]; omega
  have SM := fun (S : Items) (hS : S.length ≤ 1000000) A1 c1 A2 c2 w h1 h2 => Lib.hid (same_any S hS A1 c1 A2 c2 w h1 h2)
  have LN := fun A (n : Nat) c w => Lib.hid (len_any A n c w)
  unfold OfEnd at V1 V2 V3 V4 V5 V6 V7
  unfold ChaE at ON BO
  clear ga gb gk gS gT gV gR
  generalize overL (overL L M) N = W at *
  generalize overL L M = V at *
  generalize overL M N = R at *
  generalize someL L M false = S at *
  generalize someL L M true = T at *
  go_wp2_with fail
  with_reducible refine (OWa _ HRA.out).out.mono ?_
  rintro e y1 ⟨A1, c1, _, _, rfl, r1, s1, hu⟩
  have hn := new1 y1 26 (.slice A1 L.length c1)
  have hv := hu.trans hn.1
  replace HRA := Lib.hid (HRA.out.up hv)
  replace HRB := Lib.hid (HRB.out.up hv)
  replace HRK := Lib.hid (HRK.out.up hv)
  replace HU := Lib.hid (HU.out.trans hv)
  have kc := hn.2.1
  have HC := Lib.hid (r1.up hn.1)
  clear hu hv hn r1 s1 OWa
  go_wp2_with fail
  with_reducible refine (OWb _ HRB.out).out.mono ?_
  rintro e y2 ⟨A2, c2, _, _, rfl, r1, s1, hu⟩
  have hn := new1 y2 26 (.slice A2 M.length c2)
  have hv := hu.trans hn.1
  replace kc := hv.cell kc
  replace HRA := Lib.hid (HRA.out.up hv)
  replace HRB := Lib.hid (HRB.out.up hv)
  replace HRK := Lib.hid (HRK.out.up hv)
  replace HC := Lib.hid (HC.out.up hv)
  replace HU := Lib.hid (HU.out.trans hv)
  have kd := hn.2.1
  have HD := Lib.hid (r1.up hn.1)
  clear hu hv hn r1 s1 OWb
  go_wp2_with fail
  with_reducible refine (OWk _ HRK.out).out.mono ?_
  rintro e y3 ⟨A3, c3, _, _, rfl, r1, s1, hu⟩
  have hn := new1 y3 26 (.slice A3 N.length c3)
  have hv := hu.trans hn.1
  replace kc := hv.cell kc
  replace kd := hv.cell kd
  replace HRA := Lib.hid (HRA.out.up hv)
  replace HRB := Lib.hid (HRB.out.up hv)
  replace HRK := Lib.hid (HRK.out.up hv)
  replace HC := Lib.hid (HC.out.up hv)
  replace HD := Lib.hid (HD.out.up hv)
  replace HU := Lib.hid (HU.out.trans hv)
  have kx := hn.2.1
  have HX := Lib.hid (r1.up hn.1)
  clear hu hv hn r1 s1 OWk
  clear HRA HRB HRK
  obtain ⟨X, hX⟩ : ∃ X, y3.alloc (.cells #[.slice A3 N.length c3] 26) = X := ⟨_, rfl⟩
  have HR1 := HC
  have HR2 := HD
  replace ON := ON A1 c1 A2 c2
  replace BO := BO A1 c1 A2 c2
  rw [hX] at HR1 HR2 kc kd kx HU HC HD HX
  go_wp2_with fail
  (try rw [hX])
  apply merge6 (F := fun A5 c5 A6 c6 p q Y => Up X Y ∧ Y.heap[p]? = some (.cells #[.slice A5 S.length c5] 26 (0, 0)) ∧ Y.heap[q]? = some (.cells #[.slice A6 T.length c6] 26 (0, 0)) ∧ Rd Y 2 A5 S.length c5 (itV S) ∧ Rd Y 2 A6 T.length c6 (itV T) ∧ p ≠ q)
  · intro FIN
    have MK := Lib.hid (fun w' (h : Up X w') => (⟨h.cell kc, h.cell kd⟩ : w'.cell? ⟨y1.heap.size, 0, none⟩ = some (.slice A1 L.length c1) ∧ w'.cell? ⟨y2.heap.size, 0, none⟩ = some (.slice A2 M.length c2)))
    refine wp_region_held_drew (S := fun w' => w'.cell? ⟨y1.heap.size, 0, none⟩ = some (.slice A1 L.length c1) ∧ w'.cell? ⟨y2.heap.size, 0, none⟩ = some (.slice A2 M.length c2)) (by kernel_rfl) (MK.out _ (Up.refl _).drew) (fun hHeld => ?_)
    have hU := (Up.refl X).drew
    generalize X.drew = y0 at *
    first
      | (refine wpAnyH_take (i := 0) (oi := ⟨_, _, _, _, _, _⟩) (v := undef) rfl (by kernel_rfl) (by kernel_rfl) (by kernel_rfl) (fun _ _ _ h => h) (Or.inr ⟨by rfl, rfl⟩) (by assumption) ?_; (try simp only [Act.put, List.setIfIT.lengthounds_toArray, List.set_cons_zero, List.set_cons_succ]))
      | (refine wpAnyH_take (i := 0) (oi := ⟨_, _, _, _, _, _⟩) (v := ?_) rfl (by kernel_rfl) (by kernel_rfl) (by kernel_rfl) (fun _ _ _ h => h) (Or.inl ⟨by rfl, ?_⟩) (by assumption) ?_
         rotate_left
         focus (intro w hSw; (try dsimp only at hSw); go_simp; first | done | with_reducible rfl)
         (try simp only [Act.put, List.setIfIT.lengthounds_toArray, List.set_cons_zero, List.set_cons_succ]))
    first
      | (refine wpAnyH_take (i := 1) (oi := ⟨_, _, _, _, _, _⟩) (v := undef) rfl (by kernel_rfl) (by kernel_rfl) (by kernel_rfl) (fun _ _ _ h => h) (Or.inr ⟨by rfl, rfl⟩) (by assumption) ?_; (try simp only [Act.put, List.setIfIT.lengthounds_toArray, List.set_cons_zero, List.set_cons_succ]))
      | (refine wpAnyH_take (i := 1) (oi := ⟨_, _, _, _, _, _⟩) (v := ?_) rfl (by kernel_rfl) (by kernel_rfl) (by kernel_rfl) (fun _ _ _ h => h) (Or.inl ⟨by rfl, ?_⟩) (by assumption) ?_
         rotate_left
         focus (intro w hSw; (try dsimp only at hSw); go_simp; first | done | with_reducible rfl)
         (try simp only [Act.put, List.setIfIT.lengthounds_toArray, List.set_cons_zero, List.set_cons_succ]))
    first
      | (refine wpAnyH_take (i := 3) (oi := ⟨_, _, _, _, _, _⟩) (v := undef) rfl (by kernel_rfl) (by kernel_rfl) (by kernel_rfl) (fun _ _ _ h => h) (Or.inr ⟨by rfl, rfl⟩) (by assumption) ?_; (try simp only [Act.put, List.setIfIT.lengthounds_toArray, List.set_cons_zero, List.set_cons_succ]))
      | (refine wpAnyH_take (i := 3) (oi := ⟨_, _, _, _, _, _⟩) (v := ?_) rfl (by kernel_rfl) (by kernel_rfl) (by kernel_rfl) (fun _ _ _ h => h) (Or.inl ⟨by rfl, ?_⟩) (by assumption) ?_
         rotate_left
         focus (intro w hSw; (try dsimp only at hSw); go_simp; first | done | with_reducible rfl)
         (try simp only [Act.put, List.setIfIT.lengthounds_toArray, List.set_cons_zero, List.set_cons_succ]))
    first
      | (refine wpAnyH_take (i := 4) (oi := ⟨_, _, _, _, _, _⟩) (v := undef) rfl (by kernel_rfl) (by kernel_rfl) (by kernel_rfl) (fun _ _ _ h => h) (Or.inr ⟨by rfl, rfl⟩) (by assumption) ?_; (try simp only [Act.put, List.setIfIT.lengthounds_toArray, List.set_cons_zero, List.set_cons_succ]))
      | (refine wpAnyH_take (i := 4) (oi := ⟨_, _, _, _, _, _⟩) (v := ?_) rfl (by kernel_rfl) (by kernel_rfl) (by kernel_rfl) (fun _ _ _ h => h) (Or.inl ⟨by rfl, ?_⟩) (by assumption) ?_
         rotate_left
         focus (intro w hSw; (try dsimp only at hSw); go_simp; first | done | with_reducible rfl)
         (try simp only [Act.put, List.setIfIT.lengthounds_toArray, List.set_cons_zero, List.set_cons_succ]))
    refine wpAnyH_ready (rs := [2, 6, 7]) (by kernel_rfl) (by simp) ?_
    refine AllReadyH.cons (o := ⟨_, _, _, _, _, _⟩) rfl (fun K hK => ?_) (AllReadyH.cons (o := ⟨_, _, _, _, _, _⟩) rfl (fun K hK => ?_) (AllReadyH.cons (o := ⟨_, _, _, _, _, _⟩) rfl (fun K hK => ?_) AllReadyH.nil))
    · go_simp
      go_at_call 25
      with_reducible refine (ON _ (HR1.out.up hU) (HR2.out.up hU)).out.mono ?_
      rintro e y1 ⟨A5, c5, rfl, R5, hu⟩
      refine hK.out _ _ (MK.out _ (hU.trans hu)) (fun hHeld => ?_)
      clear hK K
      (try simp only [Act.put, List.setIfIT.lengthounds_toArray, List.set_cons_zero, List.set_cons_succ])
      replace hU := hU.trans hu
      clear hu
      refine wpAnyH_ready (rs := [5, 6, 7]) (by kernel_rfl) (by simp) ?_
      refine AllReadyH.cons (o := ⟨_, _, _, _, _, _⟩) rfl (fun K hK => ?_) (AllReadyH.cons (o := ⟨_, _, _, _, _, _⟩) rfl (fun K hK => ?_) (AllReadyH.cons (o := ⟨_, _, _, _, _, _⟩) rfl (fun K hK => ?_) AllReadyH.nil))
      · go_simp
        go_at_call 27
        with_reducible refine (BO _ (HR1.out.up hU) (HR2.out.up hU)).out.mono ?_
        rintro e y2 ⟨A6, c6, rfl, R6, hu⟩
        refine hK.out _ _ (MK.out _ (hU.trans hu)) (fun hHeld => ?_)
        clear hK K
        (try simp only [Act.put, List.setIfIT.lengthounds_toArray, List.set_cons_zero, List.set_cons_succ])
        replace hU := hU.trans hu
        replace R5 := R5.up hu
        clear hu
        refine wpAnyH_ready (rs := [6, 7]) (by kernel_rfl) (by simp) ?_
        refine AllReadyH.cons (o := ⟨_, _, _, _, _, _⟩) rfl (fun K hK => ?_) (AllReadyH.cons (o := ⟨_, _, _, _, _, _⟩) rfl (fun K hK => ?_) AllReadyH.nil)
        · go_simp
          refine hK.out _ _ (MK.out _ (hU.alloc _)) (fun hHeld => ?_)
          clear hK K
          (try simp only [Act.put, List.setIfIT.lengthounds_toArray, List.set_cons_zero, List.set_cons_succ])
          have hB_p := heap_alloc_new y2 (.cells #[.slice none 0 0] 26)
          have ha := (Up.refl y2).alloc (.cells #[.slice none 0 0] 26)
          have hq_p := hU.le
          replace hU := hU.trans ha
          replace R5 := R5.up ha
          replace R6 := R6.up ha
          generalize y2.alloc (.cells #[.slice none 0 0] 26) = z3 at *
          generalize y2.heap.size = q_p at *
          clear ha
          refine wpAnyH_ready (rs := [7]) (by kernel_rfl) (by simp) ?_
          refine AllReadyH.cons (o := ⟨_, _, _, _, _, _⟩) rfl (fun K hK => ?_) AllReadyH.nil
          go_simp
          refine hK.out _ _ (MK.out _ (hU.alloc _)) (fun hHeld => ?_)
          clear hK K
          (try simp only [Act.put, List.setIfIT.lengthounds_toArray, List.set_cons_zero, List.set_cons_succ])
          have hB_q := heap_alloc_new z3 (.cells #[.slice none 0 0] 26)
          have ha := (Up.refl z3).alloc (.cells #[.slice none 0 0] 26)
          have hq_q := hU.le
          have hne_p_q : q_p ≠ z3.heap.size := by have := (Array.getElem?_eq_some_iff.1 hB_p).1; omega
          replace hU := hU.trans ha
          replace R5 := R5.up ha
          replace R6 := R6.up ha
          replace hB_p := ha.obj hB_p
          generalize z3.alloc (.cells #[.slice none 0 0] 26) = z4 at *
          generalize z3.heap.size = q_q at *
          clear ha
          refine wpAnyH_ready (rs := [8]) (by kernel_rfl) (by simp) ?_
          refine AllReadyH.cons (o := ⟨_, _, _, _, _, _⟩) rfl (fun K hK => ?_) AllReadyH.nil
          obtain ⟨k_p, z_p⟩ := blk_one hB_p
          go_simp
          refine hK.out _ _ (MK.out _ (hU.set (p := ⟨q_p, 0, none⟩) hq_p _)) (fun hHeld => ?_)
          clear hK K k_p z_p
          (try simp only [Act.put, List.setIfIT.lengthounds_toArray, List.set_cons_zero, List.set_cons_succ])
          replace hU := hU.set (p := ⟨q_p, 0, none⟩) hq_p (.slice A5 S.length c5)
          replace R5 := R5.far hB_p (.slice A5 S.length c5)
          replace R6 := R6.far hB_p (.slice A5 S.length c5)
          replace hB_q := (Below.heap_setCell _ ⟨q_p, 0, none⟩ (.slice A5 S.length c5) q_q (by simp; omega)).trans hB_q
          replace hB_p := heap_setCell_same _ q_p 0 _ _ (.slice A5 S.length c5) hB_p
          generalize World.setCell _ ⟨q_p, 0, none⟩ (.slice A5 S.length c5) = s5 at *
          refine wpAnyH_ready (rs := [9]) (by kernel_rfl) (by simp) ?_
          refine AllReadyH.cons (o := ⟨_, _, _, _, _, _⟩) rfl (fun K hK => ?_) AllReadyH.nil
          obtain ⟨k_q, z_q⟩ := blk_one hB_q
          go_simp
          refine hK.out _ _ (MK.out _ (hU.set (p := ⟨q_q, 0, none⟩) hq_q _)) (fun hHeld => ?_)
          clear hK K k_q z_q
          (try simp only [Act.put, List.setIfIT.lengthounds_toArray, List.set_cons_zero, List.set_cons_succ])
          replace hU := hU.set (p := ⟨q_q, 0, none⟩) hq_q (.slice A6 T.length c6)
          replace R5 := R5.far hB_q (.slice A6 T.length c6)
          replace R6 := R6.far hB_q (.slice A6 T.length c6)
          replace hB_p := (Below.heap_setCell _ ⟨q_q, 0, none⟩ (.slice A6 T.length c6) q_p (by simp; omega)).trans hB_p
          replace hB_q := heap_setCell_same _ q_q 0 _ _ (.slice A6 T.length c6) hB_q
          generalize World.setCell _ ⟨q_q, 0, none⟩ (.slice A6 T.length c6) = s6 at *
          refine wpAnyH_done (by kernel_rfl) ?_ _
          exact FIN A5 c5 A6 c6 q_p q_q s6 ⟨hU, hB_p, hB_q, R5, R6, hne_p_q⟩
        · go_simp
          refine hK.out _ _ (MK.out _ (hU.alloc _)) (fun hHeld => ?_)
          clear hK K
          (try simp only [Act.put, List.setIfIT.lengthounds_toArray, List.set_cons_zero, List.set_cons_succ])
          have hB_q := heap_alloc_new y2 (.cells #[.slice none 0 0] 26)
          have ha := (Up.refl y2).alloc (.cells #[.slice none 0 0] 26)
          have hq_q := hU.le
          replace hU := hU.trans ha
          replace R5 := R5.up ha
          replace R6 := R6.up ha
          generalize y2.alloc (.cells #[.slice none 0 0] 26) = z3 at *
          generalize y2.heap.size = q_q at *
          clear ha
          refine wpAnyH_ready (rs := [6]) (by kernel_rfl) (by simp) ?_
          refine AllReadyH.cons (o := ⟨_, _, _, _, _, _⟩) rfl (fun K hK => ?_) AllReadyH.nil
          go_simp
          refine hK.out _ _ (MK.out _ (hU.alloc _)) (fun hHeld => ?_)
          clear hK K
          (try simp only [Act.put, List.setIfIT.lengthounds_toArray, List.set_cons_zero, List.set_cons_succ])
          have hB_p := heap_alloc_new z3 (.cells #[.slice none 0 0] 26)
          have ha := (Up.refl z3).alloc (.cells #[.slice none 0 0] 26)
          have hq_p := hU.le
          have hne_q_p : q_q ≠ z3.heap.size := by have := (Array.getElem?_eq_some_iff.1 hB_q).1; omega
          replace hU := hU.trans ha
          replace R5 := R5.up ha
          replace R6 := R6.up ha
          replace hB_q := ha.obj hB_q
          generalize z3.alloc (.cells #[.slice none 0 0] 26) = z4 at *
          generalize z3.heap.size = q_p at *
          clear ha
          refine wpAnyH_ready (rs := [8]) (by kernel_rfl) (by simp) ?_
          refine AllReadyH.cons (o := ⟨_, _, _, _, _, _⟩) rfl (fun K hK => ?_) AllReadyH.nil
          obtain ⟨k_p, z_p⟩ := blk_one hB_p
          go_simp
          refine hK.out _ _ (MK.out _ (hU.set (p := ⟨q_p, 0, none⟩) hq_p _)) (fun hHeld => ?_)
          clear hK K k_p z_p
          (try simp only [Act.put, List.setIfIT.lengthounds_toArray, List.set_cons_zero, List.set_cons_succ])
          replace hU := hU.set (p := ⟨q_p, 0, none⟩) hq_p (.slice A5 S.length c5)
          replace R5 := R5.far hB_p (.slice A5 S.length c5)
          replace R6 := R6.far hB_p (.slice A5 S.length c5)
          replace hB_q := (Below.heap_setCell _ ⟨q_p, 0, none⟩ (.slice A5 S.length c5) q_q (by simp; omega)).trans hB_q
          replace hB_p := heap_setCell_same _ q_p 0 _ _ (.slice A5 S.length c5) hB_p
          generalize World.setCell _ ⟨q_p, 0, none⟩ (.slice A5 S.length c5) = s5 at *
          refine wpAnyH_ready (rs := [9]) (by kernel_rfl) (by simp) ?_
          refine AllReadyH.cons (o := ⟨_, _, _, _, _, _⟩) rfl (fun K hK => ?_) AllReadyH.nil
          obtain ⟨k_q, z_q⟩ := blk_one hB_q
          go_simp
          refine hK.out _ _ (MK.out _ (hU.set (p := ⟨q_q, 0, none⟩) hq_q _)) (fun hHeld => ?_)
          clear hK K k_q z_q
          (try simp only [Act.put, List.setIfIT.lengthounds_toArray, List.set_cons_zero, List.set_cons_succ])
          replace hU := hU.set (p := ⟨q_q, 0, none⟩) hq_q (.slice A6 T.length c6)
          replace R5 := R5.far hB_q (.slice A6 T.length c6)
          replace R6 := R6.far hB_q (.slice A6 T.length c6)
          replace hB_p := (Below.heap_setCell _ ⟨q_q, 0, none⟩ (.slice A6 T.length c6) q_p (by simp; omega)).trans hB_p
          replace hB_q := heap_setCell_same _ q_q 0 _ _ (.slice A6 T.length c6) hB_q
          generalize World.setCell _ ⟨q_q, 0, none⟩ (.slice A6 T.length c6) = s6 at *
          refine wpAnyH_done (by kernel_rfl) ?_ _
          exact FIN A5 c5 A6 c6 q_p q_q s6 ⟨hU, hB_p, hB_q, R5, R6, hne_q_p.symm⟩
      · go_simp
        refine hK.out _ _ (MK.out _ (hU.alloc _)) (fun hHeld => ?_)
        clear hK K
        (try simp only [Act.put, List.setIfIT.lengthounds_toArray, List.set_cons_zero, List.set_cons_succ])
        have hB_p := heap_alloc_new y1 (.cells #[.slice none 0 0] 26)
        have ha := (Up.refl y1).alloc (.cells #[.slice none 0 0] 26)
        have hq_p := hU.le
        replace hU := hU.trans ha
        replace R5 := R5.up ha
        generalize y1.alloc (.cells #[.slice none 0 0] 26) = z2 at *
        generalize y1.heap.size = q_p at *
        clear ha
        refine wpAnyH_ready (rs := [5, 7]) (by kernel_rfl) (by simp) ?_
        refine AllReadyH.cons (o := ⟨_, _, _, _, _, _⟩) rfl (fun K hK => ?_) (AllReadyH.cons (o := ⟨_, _, _, _, _, _⟩) rfl (fun K hK => ?_) AllReadyH.nil)
        · go_simp
          go_at_call 27
          with_reducible refine (BO _ (HR1.out.up hU) (HR2.out.up hU)).out.mono ?_
          rintro e y3 ⟨A6, c6, rfl, R6, hu⟩
          refine hK.out _ _ (MK.out _ (hU.trans hu)) (fun hHeld => ?_)
          clear hK K
          (try simp only [Act.put, List.setIfIT.lengthounds_toArray, List.set_cons_zero, List.set_cons_succ])
          replace hU := hU.trans hu
          replace R5 := R5.up hu
          replace hB_p := hu.obj hB_p
          clear hu
          refine wpAnyH_ready (rs := [7]) (by kernel_rfl) (by simp) ?_
          refine AllReadyH.cons (o := ⟨_, _, _, _, _, _⟩) rfl (fun K hK => ?_) AllReadyH.nil
          go_simp
          refine hK.out _ _ (MK.out _ (hU.alloc _)) (fun hHeld => ?_)
          clear hK K
          (try simp only [Act.put, List.setIfIT.lengthounds_toArray, List.set_cons_zero, List.set_cons_succ])
          have hB_q := heap_alloc_new y3 (.cells #[.slice none 0 0] 26)
          have ha := (Up.refl y3).alloc (.cells #[.slice none 0 0] 26)
          have hq_q := hU.le
          have hne_p_q : q_p ≠ y3.heap.size := by have := (Array.getElem?_eq_some_iff.1 hB_p).1; omega
          replace hU := hU.trans ha
          replace R5 := R5.up ha
          replace hB_p := ha.obj hB_p
          replace R6 := R6.up ha
          generalize y3.alloc (.cells #[.slice none 0 0] 26) = z4 at *
          generalize y3.heap.size = q_q at *
          clear ha
          refine wpAnyH_ready (rs := [8]) (by kernel_rfl) (by simp) ?_
          refine AllReadyH.cons (o := ⟨_, _, _, _, _, _⟩) rfl (fun K hK => ?_) AllReadyH.nil
          obtain ⟨k_p, z_p⟩ := blk_one hB_p
          go_simp
          refine hK.out _ _ (MK.out _ (hU.set (p := ⟨q_p, 0, none⟩) hq_p _)) (fun hHeld => ?_)
          clear hK K k_p z_p
          (try simp only [Act.put, List.setIfIT.lengthounds_toArray, List.set_cons_zero, List.set_cons_succ])
          replace hU := hU.set (p := ⟨q_p, 0, none⟩) hq_p (.slice A5 S.length c5)
          replace R5 := R5.far hB_p (.slice A5 S.length c5)
          replace R6 := R6.far hB_p (.slice A5 S.length c5)
          replace hB_q := (Below.heap_setCell _ ⟨q_p, 0, none⟩ (.slice A5 S.length c5) q_q (by simp; omega)).trans hB_q
          replace hB_p := heap_setCell_same _ q_p 0 _ _ (.slice A5 S.length c5) hB_p
          generalize World.setCell _ ⟨q_p, 0, none⟩ (.slice A5 S.length c5) = s5 at *
          refine wpAnyH_ready (rs := [9]) (by kernel_rfl) (by simp) ?_
          refine AllReadyH.cons (o := ⟨_, _, _, _, _, _⟩) rfl (fun K hK => ?_) AllReadyH.nil
          obtain ⟨k_q, z_q⟩ := blk_one hB_q
          go_simp
          refine hK.out _ _ (MK.out _ (hU.set (p := ⟨q_q, 0, none⟩) hq_q _)) (fun hHeld => ?_)
          clear hK K k_q z_q
          (try simp only [Act.put, List.setIfIT.lengthounds_toArray, List.set_cons_zero, List.set_cons_succ])
          replace hU := hU.set (p := ⟨q_q, 0, none⟩) hq_q (.slice A6 T.length c6)
          replace R5 := R5.far hB_q (.slice A6 T.length c6)
          replace hB_p := (Below.heap_setCell _ ⟨q_q, 0, none⟩ (.slice A6 T.length c6) q_p (by simp; omega)).trans hB_p
          replace R6 := R6.far hB_q (.slice A6 T.length c6)
          replace hB_q := heap_setCell_same _ q_q 0 _ _ (.slice A6 T.length c6) hB_q
          generalize World.setCell _ ⟨q_q, 0, none⟩ (.slice A6 T.length c6) = s6 at *
          refine wpAnyH_done (by kernel_rfl) ?_ _
          exact FIN A5 c5 A6 c6 q_p q_q s6 ⟨hU, hB_p, hB_q, R5, R6, hne_p_q⟩
        · go_simp
          refine hK.out _ _ (MK.out _ (hU.alloc _)) (fun hHeld => ?_)
          clear hK K
          (try simp only [Act.put, List.setIfIT.lengthounds_toArray, List.set_cons_zero, List.set_cons_succ])
          have hB_q := heap_alloc_new z2 (.cells #[.slice none 0 0] 26)
          have ha := (Up.refl z2).alloc (.cells #[.slice none 0 0] 26)
          have hq_q := hU.le
          have hne_p_q : q_p ≠ z2.heap.size := by have := (Array.getElem?_eq_some_iff.1 hB_p).1; omega
          replace hU := hU.trans ha
          replace R5 := R5.up ha
          replace hB_p := ha.obj hB_p
          generalize z2.alloc (.cells #[.slice none 0 0] 26) = z3 at *
          generalize z2.heap.size = q_q at *
          clear ha
          refine wpAnyH_ready (rs := [5]) (by kernel_rfl) (by simp) ?_
          refine AllReadyH.cons (o := ⟨_, _, _, _, _, _⟩) rfl (fun K hK => ?_) AllReadyH.nil
          go_simp
          go_at_call 27
          with_reducible refine (BO _ (HR1.out.up hU) (HR2.out.up hU)).out.mono ?_
          rintro e y4 ⟨A6, c6, rfl, R6, hu⟩
          refine hK.out _ _ (MK.out _ (hU.trans hu)) (fun hHeld => ?_)
          clear hK K
          (try simp only [Act.put, List.setIfIT.lengthounds_toArray, List.set_cons_zero, List.set_cons_succ])
          replace hU := hU.trans hu
          replace R5 := R5.up hu
          replace hB_p := hu.obj hB_p
          replace hB_q := hu.obj hB_q
          clear hu
          refine wpAnyH_ready (rs := [8]) (by kernel_rfl) (by simp) ?_
          refine AllReadyH.cons (o := ⟨_, _, _, _, _, _⟩) rfl (fun K hK => ?_) AllReadyH.nil
          obtain ⟨k_p, z_p⟩ := blk_one hB_p
          go_simp
          refine hK.out _ _ (MK.out _ (hU.set (p := ⟨q_p, 0, none⟩) hq_p _)) (fun hHeld => ?_)
          clear hK K k_p z_p
          (try simp only [Act.put, List.setIfIT.lengthounds_toArray, List.set_cons_zero, List.set_cons_succ])
          replace hU := hU.set (p := ⟨q_p, 0, none⟩) hq_p (.slice A5 S.length c5)
          replace R5 := R5.far hB_p (.slice A5 S.length c5)
          replace hB_q := (Below.heap_setCell _ ⟨q_p, 0, none⟩ (.slice A5 S.length c5) q_q (by simp; omega)).trans hB_q
          replace R6 := R6.far hB_p (.slice A5 S.length c5)
          replace hB_p := heap_setCell_same _ q_p 0 _ _ (.slice A5 S.length c5) hB_p
          generalize World.setCell _ ⟨q_p, 0, none⟩ (.slice A5 S.length c5) = s5 at *
          refine wpAnyH_ready (rs := [9]) (by kernel_rfl) (by simp) ?_
          refine AllReadyH.cons (o := ⟨_, _, _, _, _, _⟩) rfl (fun K hK => ?_) AllReadyH.nil
          obtain ⟨k_q, z_q⟩ := blk_one hB_q
          go_simp
          refine hK.out _ _ (MK.out _ (hU.set (p := ⟨q_q, 0, none⟩) hq_q _)) (fun hHeld => ?_)
          clear hK K k_q z_q
          (try simp only [Act.put, List.setIfIT.lengthounds_toArray, List.set_cons_zero, List.set_cons_succ])
          replace hU := hU.set (p := ⟨q_q, 0, none⟩) hq_q (.slice A6 T.length c6)
          replace R5 := R5.far hB_q (.slice A6 T.length c6)
          replace hB_p := (Below.heap_setCell _ ⟨q_q, 0, none⟩ (.slice A6 T.length c6) q_p (by simp; omega)).trans hB_p
          replace R6 := R6.far hB_q (.slice A6 T.length c6)
          replace hB_q := heap_setCell_same _ q_q 0 _ _ (.slice A6 T.length c6) hB_q
          generalize World.setCell _ ⟨q_q, 0, none⟩ (.slice A6 T.length c6) = s6 at *
          refine wpAnyH_done (by kernel_rfl) ?_ _
          exact FIN A5 c5 A6 c6 q_p q_q s6 ⟨hU, hB_p, hB_q, R5, R6, hne_p_q⟩
      · go_simp
        refine hK.out _ _ (MK.out _ (hU.alloc _)) (fun hHeld => ?_)
        clear hK K
        (try simp only [Act.put, List.setIfIT.lengthounds_toArray, List.set_cons_zero, List.set_cons_succ])
        have hB_q := heap_alloc_new y1 (.cells #[.slice none 0 0] 26)
        have ha := (Up.refl y1).alloc (.cells #[.slice none 0 0] 26)
        have hq_q := hU.le
        replace hU := hU.trans ha
        replace R5 := R5.up ha
        generalize y1.alloc (.cells #[.slice none 0 0] 26) = z2 at *
        generalize y1.heap.size = q_q at *
        clear ha
        refine wpAnyH_ready (rs := [5, 6]) (by kernel_rfl) (by simp) ?_
        refine AllReadyH.cons (o := ⟨_, _, _, _, _, _⟩) rfl (fun K hK => ?_) (AllReadyH.cons (o := ⟨_, _, _, _, _, _⟩) rfl (fun K hK => ?_) AllReadyH.nil)
        · go_simp
          go_at_call 27
          with_reducible refine (BO _ (HR1.out.up hU) (HR2.out.up hU)).out.mono ?_
          rintro e y3 ⟨A6, c6, rfl, R6, hu⟩
          refine hK.out _ _ (MK.out _ (hU.trans hu)) (fun hHeld => ?_)
          clear hK K
          (try simp only [Act.put, List.setIfIT.lengthounds_toArray, List.set_cons_zero, List.set_cons_succ])
          replace hU := hU.trans hu
          replace R5 := R5.up hu
          replace hB_q := hu.obj hB_q
          clear hu
          refine wpAnyH_ready (rs := [6]) (by kernel_rfl) (by simp) ?_
          refine AllReadyH.cons (o := ⟨_, _, _, _, _, _⟩) rfl (fun K hK => ?_) AllReadyH.nil
          go_simp
          refine hK.out _ _ (MK.out _ (hU.alloc _)) (fun hHeld => ?_)
          clear hK K
          (try simp only [Act.put, List.setIfIT.lengthounds_toArray, List.set_cons_zero, List.set_cons_succ])
          have hB_p := heap_alloc_new y3 (.cells #[.slice none 0 0] 26)
          have ha := (Up.refl y3).alloc (.cells #[.slice none 0 0] 26)
          have hq_p := hU.le
          have hne_q_p : q_q ≠ y3.heap.size := by have := (Array.getElem?_eq_some_iff.1 hB_q).1; omega
          replace hU := hU.trans ha
          replace R5 := R5.up ha
          replace hB_q := ha.obj hB_q
          replace R6 := R6.up ha
          generalize y3.alloc (.cells #[.slice none 0 0] 26) = z4 at *
          generalize y3.heap.size = q_p at *
          clear ha
          refine wpAnyH_ready (rs := [8]) (by kernel_rfl) (by simp) ?_
          refine AllReadyH.cons (o := ⟨_, _, _, _, _, _⟩) rfl (fun K hK => ?_) AllReadyH.nil
          obtain ⟨k_p, z_p⟩ := blk_one hB_p
          go_simp
          refine hK.out _ _ (MK.out _ (hU.set (p := ⟨q_p, 0, none⟩) hq_p _)) (fun hHeld => ?_)
          clear hK K k_p z_p
          (try simp only [Act.put, List.setIfIT.lengthounds_toArray, List.set_cons_zero, List.set_cons_succ])
          replace hU := hU.set (p := ⟨q_p, 0, none⟩) hq_p (.slice A5 S.length c5)
          replace R5 := R5.far hB_p (.slice A5 S.length c5)
          replace hB_q := (Below.heap_setCell _ ⟨q_p, 0, none⟩ (.slice A5 S.length c5) q_q (by simp; omega)).trans hB_q
          replace R6 := R6.far hB_p (.slice A5 S.length c5)
          replace hB_p := heap_setCell_same _ q_p 0 _ _ (.slice A5 S.length c5) hB_p
          generalize World.setCell _ ⟨q_p, 0, none⟩ (.slice A5 S.length c5) = s5 at *
          refine wpAnyH_ready (rs := [9]) (by kernel_rfl) (by simp) ?_
          refine AllReadyH.cons (o := ⟨_, _, _, _, _, _⟩) rfl (fun K hK => ?_) AllReadyH.nil
          obtain ⟨k_q, z_q⟩ := blk_one hB_q
          go_simp
          refine hK.out _ _ (MK.out _ (hU.set (p := ⟨q_q, 0, none⟩) hq_q _)) (fun hHeld => ?_)
          clear hK K k_q z_q
          (try simp only [Act.put, List.setIfIT.lengthounds_toArray, List.set_cons_zero, List.set_cons_succ])
          replace hU := hU.set (p := ⟨q_q, 0, none⟩) hq_q (.slice A6 T.length c6)
          replace R5 := R5.far hB_q (.slice A6 T.length c6)
          replace R6 := R6.far hB_q (.slice A6 T.length c6)
          replace hB_p := (Below.heap_setCell _ ⟨q_q, 0, none⟩ (.slice A6 T.length c6) q_p (by simp; omega)).trans hB_p
          replace hB_q := heap_setCell_same _ q_q 0 _ _ (.slice A6 T.length c6) hB_q
          generalize World.setCell _ ⟨q_q, 0, none⟩ (.slice A6 T.length c6) = s6 at *
          refine wpAnyH_done (by kernel_rfl) ?_ _
          exact FIN A5 c5 A6 c6 q_p q_q s6 ⟨hU, hB_p, hB_q, R5, R6, hne_q_p.symm⟩
        · go_simp
          refine hK.out _ _ (MK.out _ (hU.alloc _)) (fun hHeld => ?_)
          clear hK K
          (try simp only [Act.put, List.setIfIT.lengthounds_toArray, List.set_cons_zero, List.set_cons_succ])
          have hB_p := heap_alloc_new z2 (.cells #[.slice none 0 0] 26)
          have ha := (Up.refl z2).alloc (.cells #[.slice none 0 0] 26)
          have hq_p := hU.le
          have hne_q_p : q_q ≠ z2.heap.size := by have := (Array.getElem?_eq_some_iff.1 hB_q).1; omega
          replace hU := hU.trans ha
          replace R5 := R5.up ha
          replace hB_q := ha.obj hB_q
          generalize z2.alloc (.cells #[.slice none 0 0] 26) = z3 at *
          generalize z2.heap.size = q_p at *
          clear ha
          refine wpAnyH_ready (rs := [5]) (by kernel_rfl) (by simp) ?_
          refine AllReadyH.cons (o := ⟨_, _, _, _, _, _⟩) rfl (fun K hK => ?_) AllReadyH.nil
          go_simp
          go_at_call 27
          with_reducible refine (BO _ (HR1.out.up hU) (HR2.out.up hU)).out.mono ?_
          rintro e y4 ⟨A6, c6, rfl, R6, hu⟩
          refine hK.out _ _ (MK.out _ (hU.trans hu)) (fun hHeld => ?_)
          clear hK K
          (try simp only [Act.put, List.setIfIT.lengthounds_toArray, List.set_cons_zero, List.set_cons_succ])
          replace hU := hU.trans hu
          replace R5 := R5.up hu
          replace hB_q := hu.obj hB_q
          replace hB_p := hu.obj hB_p
          clear hu
          refine wpAnyH_ready (rs := [8]) (by kernel_rfl) (by simp) ?_
          refine AllReadyH.cons (o := ⟨_, _, _, _, _, _⟩) rfl (fun K hK => ?_) AllReadyH.nil
          obtain ⟨k_p, z_p⟩ := blk_one hB_p
          go_simp
          refine hK.out _ _ (MK.out _ (hU.set (p := ⟨q_p, 0, none⟩) hq_p _)) (fun hHeld => ?_)
          clear hK K k_p z_p
          (try simp only [Act.put, List.setIfIT.lengthounds_toArray, List.set_cons_zero, List.set_cons_succ])
          replace hU := hU.set (p := ⟨q_p, 0, none⟩) hq_p (.slice A5 S.length c5)
          replace R5 := R5.far hB_p (.slice A5 S.length c5)
          replace hB_q := (Below.heap_setCell _ ⟨q_p, 0, none⟩ (.slice A5 S.length c5) q_q (by simp; omega)).trans hB_q
          replace R6 := R6.far hB_p (.slice A5 S.length c5)
          replace hB_p := heap_setCell_same _ q_p 0 _ _ (.slice A5 S.length c5) hB_p
          generalize World.setCell _ ⟨q_p, 0, none⟩ (.slice A5 S.length c5) = s5 at *
          refine wpAnyH_ready (rs := [9]) (by kernel_rfl) (by simp) ?_
          refine AllReadyH.cons (o := ⟨_, _, _, _, _, _⟩) rfl (fun K hK => ?_) AllReadyH.nil
          obtain ⟨k_q, z_q⟩ := blk_one hB_q
          go_simp
          refine hK.out _ _ (MK.out _ (hU.set (p := ⟨q_q, 0, none⟩) hq_q _)) (fun hHeld => ?_)
          clear hK K k_q z_q
          (try simp only [Act.put, List.setIfIT.lengthounds_toArray, List.set_cons_zero, List.set_cons_succ])
          replace hU := hU.set (p := ⟨q_q, 0, none⟩) hq_q (.slice A6 T.length c6)
          replace R5 := R5.far hB_q (.slice A6 T.length c6)
          replace hB_p := (Below.heap_setCell _ ⟨q_q, 0, none⟩ (.slice A6 T.length c6) q_p (by simp; omega)).trans hB_p
          replace R6 := R6.far hB_q (.slice A6 T.length c6)
          replace hB_q := heap_setCell_same _ q_q 0 _ _ (.slice A6 T.length c6) hB_q
          generalize World.setCell _ ⟨q_q, 0, none⟩ (.slice A6 T.length c6) = s6 at *
          refine wpAnyH_done (by kernel_rfl) ?_ _
          exact FIN A5 c5 A6 c6 q_p q_q s6 ⟨hU, hB_p, hB_q, R5, R6, hne_q_p.symm⟩
    · go_simp
      refine hK.out _ _ (MK.out _ (hU.alloc _)) (fun hHeld => ?_)
      clear hK K
      (try simp only [Act.put, List.setIfIT.lengthounds_toArray, List.set_cons_zero, List.set_cons_succ])
      have hB_p := heap_alloc_new y0 (.cells #[.slice none 0 0] 26)
      have ha := (Up.refl y0).alloc (.cells #[.slice none 0 0] 26)
      have hq_p := hU.le
      replace hU := hU.trans ha
      generalize y0.alloc (.cells #[.slice none 0 0] 26) = z1 at *
      generalize y0.heap.size = q_p at *
      clear ha
      refine wpAnyH_ready (rs := [2, 7]) (by kernel_rfl) (by simp) ?_
      refine AllReadyH.cons (o := ⟨_, _, _, _, _, _⟩) rfl (fun K hK => ?_) (AllReadyH.cons (o := ⟨_, _, _, _, _, _⟩) rfl (fun K hK => ?_) AllReadyH.nil)
      · go_simp
        go_at_call 25
        with_reducible refine (ON _ (HR1.out.up hU) (HR2.out.up hU)).out.mono ?_
        rintro e y2 ⟨A5, c5, rfl, R5, hu⟩
        refine hK.out _ _ (MK.out _ (hU.trans hu)) (fun hHeld => ?_)
        clear hK K
        (try simp only [Act.put, List.setIfIT.lengthounds_toArray, List.set_cons_zero, List.set_cons_succ])
        replace hU := hU.trans hu
        replace hB_p := hu.obj hB_p
        clear hu
        refine wpAnyH_ready (rs := [5, 7]) (by kernel_rfl) (by simp) ?_
        refine AllReadyH.cons (o := ⟨_, _, _, _, _, _⟩) rfl (fun K hK => ?_) (AllReadyH.cons (o := ⟨_, _, _, _, _, _⟩) rfl (fun K hK => ?_) AllReadyH.nil)
        · go_simp
          go_at_call 27
          with_reducible refine (BO _ (HR1.out.up hU) (HR2.out.up hU)).out.mono ?_
          rintro e y3 ⟨A6, c6, rfl, R6, hu⟩
          refine hK.out _ _ (MK.out _ (hU.trans hu)) (fun hHeld => ?_)
          clear hK K
          (try simp only [Act.put, List.setIfIT.lengthounds_toArray, List.set_cons_zero, List.set_cons_succ])
          replace hU := hU.trans hu
          replace hB_p := hu.obj hB_p
          replace R5 := R5.up hu
          clear hu
          refine wpAnyH_ready (rs := [7]) (by kernel_rfl) (by simp) ?_
          refine AllReadyH.cons (o := ⟨_, _, _, _, _, _⟩) rfl (fun K hK => ?_) AllReadyH.nil
          go_simp
          refine hK.out _ _ (MK.out _ (hU.alloc _)) (fun hHeld => ?_)
          clear hK K
          (try simp only [Act.put, List.setIfIT.lengthounds_toArray, List.set_cons_zero, List.set_cons_succ])
          have hB_q := heap_alloc_new y3 (.cells #[.slice none 0 0] 26)
          have ha := (Up.refl y3).alloc (.cells #[.slice none 0 0] 26)
          have hq_q := hU.le
          have hne_p_q : q_p ≠ y3.heap.size := by have := (Array.getElem?_eq_some_iff.1 hB_p).1; omega
          replace hU := hU.trans ha
          replace hB_p := ha.obj hB_p
          replace R5 := R5.up ha
          replace R6 := R6.up ha
          generalize y3.alloc (.cells #[.slice none 0 0] 26) = z4 at *
          generalize y3.heap.size = q_q at *
          clear ha
          refine wpAnyH_ready (rs := [8]) (by kernel_rfl) (by simp) ?_
          refine AllReadyH.cons (o := ⟨_, _, _, _, _, _⟩) rfl (fun K hK => ?_) AllReadyH.nil
          obtain ⟨k_p, z_p⟩ := blk_one hB_p
          go_simp
          refine hK.out _ _ (MK.out _ (hU.set (p := ⟨q_p, 0, none⟩) hq_p _)) (fun hHeld => ?_)
          clear hK K k_p z_p
          (try simp only [Act.put, List.setIfIT.lengthounds_toArray, List.set_cons_zero, List.set_cons_succ])
          replace hU := hU.set (p := ⟨q_p, 0, none⟩) hq_p (.slice A5 S.length c5)
          replace R5 := R5.far hB_p (.slice A5 S.length c5)
          replace R6 := R6.far hB_p (.slice A5 S.length c5)
          replace hB_q := (Below.heap_setCell _ ⟨q_p, 0, none⟩ (.slice A5 S.length c5) q_q (by simp; omega)).trans hB_q
          replace hB_p := heap_setCell_same _ q_p 0 _ _ (.slice A5 S.length c5) hB_p
          generalize World.setCell _ ⟨q_p, 0, none⟩ (.slice A5 S.length c5) = s5 at *
          refine wpAnyH_ready (rs := [9]) (by kernel_rfl) (by simp) ?_
          refine AllReadyH.cons (o := ⟨_, _, _, _, _, _⟩) rfl (fun K hK => ?_) AllReadyH.nil
          obtain ⟨k_q, z_q⟩ := blk_one hB_q
          go_simp
          refine hK.out _ _ (MK.out _ (hU.set (p := ⟨q_q, 0, none⟩) hq_q _)) (fun hHeld => ?_)
          clear hK K k_q z_q
          (try simp only [Act.put, List.setIfIT.lengthounds_toArray, List.set_cons_zero, List.set_cons_succ])
          replace hU := hU.set (p := ⟨q_q, 0, none⟩) hq_q (.slice A6 T.length c6)
          replace hB_p := (Below.heap_setCell _ ⟨q_q, 0, none⟩ (.slice A6 T.length c6) q_p (by simp; omega)).trans hB_p
          replace R5 := R5.far hB_q (.slice A6 T.length c6)
          replace R6 := R6.far hB_q (.slice A6 T.length c6)
          replace hB_q := heap_setCell_same _ q_q 0 _ _ (.slice A6 T.length c6) hB_q
          generalize World.setCell _ ⟨q_q, 0, none⟩ (.slice A6 T.length c6) = s6 at *
          refine wpAnyH_done (by kernel_rfl) ?_ _
          exact FIN A5 c5 A6 c6 q_p q_q s6 ⟨hU, hB_p, hB_q, R5, R6, hne_p_q⟩
        · go_simp
          refine hK.out _ _ (MK.out _ (hU.alloc _)) (fun hHeld => ?_)
          clear hK K
          (try simp only [Act.put, List.setIfIT.lengthounds_toArray, List.set_cons_zero, List.set_cons_succ])
          have hB_q := heap_alloc_new y2 (.cells #[.slice none 0 0] 26)
          have ha := (Up.refl y2).alloc (.cells #[.slice none 0 0] 26)
          have hq_q := hU.le
          have hne_p_q : q_p ≠ y2.heap.size := by have := (Array.getElem?_eq_some_iff.1 hB_p).1; omega
          replace hU := hU.trans ha
          replace hB_p := ha.obj hB_p
          replace R5 := R5.up ha
          generalize y2.alloc (.cells #[.slice none 0 0] 26) = z3 at *
          generalize y2.heap.size = q_q at *
          clear ha
          refine wpAnyH_ready (rs := [5]) (by kernel_rfl) (by simp) ?_
          refine AllReadyH.cons (o := ⟨_, _, _, _, _, _⟩) rfl (fun K hK => ?_) AllReadyH.nil
          go_simp
          go_at_call 27
          with_reducible refine (BO _ (HR1.out.up hU) (HR2.out.up hU)).out.mono ?_
          rintro e y4 ⟨A6, c6, rfl, R6, hu⟩
          refine hK.out _ _ (MK.out _ (hU.trans hu)) (fun hHeld => ?_)
          clear hK K
          (try simp only [Act.put, List.setIfIT.lengthounds_toArray, List.set_cons_zero, List.set_cons_succ])
          replace hU := hU.trans hu
          replace hB_p := hu.obj hB_p
          replace R5 := R5.up hu
          replace hB_q := hu.obj hB_q
          clear hu
          refine wpAnyH_ready (rs := [8]) (by kernel_rfl) (by simp) ?_
          refine AllReadyH.cons (o := ⟨_, _, _, _, _, _⟩) rfl (fun K hK => ?_) AllReadyH.nil
          obtain ⟨k_p, z_p⟩ := blk_one hB_p
          go_simp
          refine hK.out _ _ (MK.out _ (hU.set (p := ⟨q_p, 0, none⟩) hq_p _)) (fun hHeld => ?_)
          clear hK K k_p z_p
          (try simp only [Act.put, List.setIfIT.lengthounds_toArray, List.set_cons_zero, List.set_cons_succ])
          replace hU := hU.set (p := ⟨q_p, 0, none⟩) hq_p (.slice A5 S.length c5)
          replace R5 := R5.far hB_p (.slice A5 S.length c5)
          replace hB_q := (Below.heap_setCell _ ⟨q_p, 0, none⟩ (.slice A5 S.length c5) q_q (by simp; omega)).trans hB_q
          replace R6 := R6.far hB_p (.slice A5 S.length c5)
          replace hB_p := heap_setCell_same _ q_p 0 _ _ (.slice A5 S.length c5) hB_p
          generalize World.setCell _ ⟨q_p, 0, none⟩ (.slice A5 S.length c5) = s5 at *
          refine wpAnyH_ready (rs := [9]) (by kernel_rfl) (by simp) ?_
          refine AllReadyH.cons (o := ⟨_, _, _, _, _, _⟩) rfl (fun K hK => ?_) AllReadyH.nil
          obtain ⟨k_q, z_q⟩ := blk_one hB_q
          go_simp
          refine hK.out _ _ (MK.out _ (hU.set (p := ⟨q_q, 0, none⟩) hq_q _)) (fun hHeld => ?_)
          clear hK K k_q z_q
          (try simp only [Act.put, List.setIfIT.lengthounds_toArray, List.set_cons_zero, List.set_cons_succ])
          replace hU := hU.set (p := ⟨q_q, 0, none⟩) hq_q (.slice A6 T.length c6)
          replace hB_p := (Below.heap_setCell _ ⟨q_q, 0, none⟩ (.slice A6 T.length c6) q_p (by simp; omega)).trans hB_p
          replace R5 := R5.far hB_q (.slice A6 T.length c6)
          replace R6 := R6.far hB_q (.slice A6 T.length c6)
          replace hB_q := heap_setCell_same _ q_q 0 _ _ (.slice A6 T.length c6) hB_q
          generalize World.setCell _ ⟨q_q, 0, none⟩ (.slice A6 T.length c6) = s6 at *
          refine wpAnyH_done (by kernel_rfl) ?_ _
          exact FIN A5 c5 A6 c6 q_p q_q s6 ⟨hU, hB_p, hB_q, R5, R6, hne_p_q⟩
      · go_simp
        refine hK.out _ _ (MK.out _ (hU.alloc _)) (fun hHeld => ?_)
        clear hK K
        (try simp only [Act.put, List.setIfIT.lengthounds_toArray, List.set_cons_zero, List.set_cons_succ])
        have hB_q := heap_alloc_new z1 (.cells #[.slice none 0 0] 26)
        have ha := (Up.refl z1).alloc (.cells #[.slice none 0 0] 26)
        have hq_q := hU.le
        have hne_p_q : q_p ≠ z1.heap.size := by have := (Array.getElem?_eq_some_iff.1 hB_p).1; omega
        replace hU := hU.trans ha
        replace hB_p := ha.obj hB_p
        generalize z1.alloc (.cells #[.slice none 0 0] 26) = z2 at *
        generalize z1.heap.size = q_q at *
        clear ha
        refine wpAnyH_ready (rs := [2]) (by kernel_rfl) (by simp) ?_
        refine AllReadyH.cons (o := ⟨_, _, _, _, _, _⟩) rfl (fun K hK => ?_) AllReadyH.nil
        go_simp
        go_at_call 25
        with_reducible refine (ON _ (HR1.out.up hU) (HR2.out.up hU)).out.mono ?_
        rintro e y3 ⟨A5, c5, rfl, R5, hu⟩
        refine hK.out _ _ (MK.out _ (hU.trans hu)) (fun hHeld => ?_)
        clear hK K
        (try simp only [Act.put, List.setIfIT.lengthounds_toArray, List.set_cons_zero, List.set_cons_succ])
        replace hU := hU.trans hu
        replace hB_p := hu.obj hB_p
        replace hB_q := hu.obj hB_q
        clear hu
        refine wpAnyH_ready (rs := [5]) (by kernel_rfl) (by simp) ?_
        refine AllReadyH.cons (o := ⟨_, _, _, _, _, _⟩) rfl (fun K hK => ?_) AllReadyH.nil
        go_simp
        go_at_call 27
        with_reducible refine (BO _ (HR1.out.up hU) (HR2.out.up hU)).out.mono ?_
        rintro e y4 ⟨A6, c6, rfl, R6, hu⟩
        refine hK.out _ _ (MK.out _ (hU.trans hu)) (fun hHeld => ?_)
        clear hK K
        (try simp only [Act.put, List.setIfIT.lengthounds_toArray, List.set_cons_zero, List.set_cons_succ])
        replace hU := hU.trans hu
        replace hB_p := hu.obj hB_p
        replace hB_q := hu.obj hB_q
        replace R5 := R5.up hu
        clear hu
        refine wpAnyH_ready (rs := [8]) (by kernel_rfl) (by simp) ?_
        refine AllReadyH.cons (o := ⟨_, _, _, _, _, _⟩) rfl (fun K hK => ?_) AllReadyH.nil
        obtain ⟨k_p, z_p⟩ := blk_one hB_p
        go_simp
        refine hK.out _ _ (MK.out _ (hU.set (p := ⟨q_p, 0, none⟩) hq_p _)) (fun hHeld => ?_)
        clear hK K k_p z_p
        (try simp only [Act.put, List.setIfIT.lengthounds_toArray, List.set_cons_zero, List.set_cons_succ])
        replace hU := hU.set (p := ⟨q_p, 0, none⟩) hq_p (.slice A5 S.length c5)
        replace hB_q := (Below.heap_setCell _ ⟨q_p, 0, none⟩ (.slice A5 S.length c5) q_q (by simp; omega)).trans hB_q
        replace R5 := R5.far hB_p (.slice A5 S.length c5)
        replace R6 := R6.far hB_p (.slice A5 S.length c5)
        replace hB_p := heap_setCell_same _ q_p 0 _ _ (.slice A5 S.length c5) hB_p
        generalize World.setCell _ ⟨q_p, 0, none⟩ (.slice A5 S.length c5) = s5 at *
        refine wpAnyH_ready (rs := [9]) (by kernel_rfl) (by simp) ?_
        refine AllReadyH.cons (o := ⟨_, _, _, _, _, _⟩) rfl (fun K hK => ?_) AllReadyH.nil
        obtain ⟨k_q, z_q⟩ := blk_one hB_q
        go_simp
        refine hK.out _ _ (MK.out _ (hU.set (p := ⟨q_q, 0, none⟩) hq_q _)) (fun hHeld => ?_)
        clear hK K k_q z_q
        (try simp only [Act.put, List.setIfIT.lengthounds_toArray, List.set_cons_zero, List.set_cons_succ])
        replace hU := hU.set (p := ⟨q_q, 0, none⟩) hq_q (.slice A6 T.length c6)
        replace hB_p := (Below.heap_setCell _ ⟨q_q, 0, none⟩ (.slice A6 T.length c6) q_p (by simp; omega)).trans hB_p
        replace R5 := R5.far hB_q (.slice A6 T.length c6)
        replace R6 := R6.far hB_q (.slice A6 T.length c6)
        replace hB_q := heap_setCell_same _ q_q 0 _ _ (.slice A6 T.length c6) hB_q
        generalize World.setCell _ ⟨q_q, 0, none⟩ (.slice A6 T.length c6) = s6 at *
        refine wpAnyH_done (by kernel_rfl) ?_ _
        exact FIN A5 c5 A6 c6 q_p q_q s6 ⟨hU, hB_p, hB_q, R5, R6, hne_p_q⟩
    · go_simp
      refine hK.out _ _ (MK.out _ (hU.alloc _)) (fun hHeld => ?_)
      clear hK K
      (try simp only [Act.put, List.setIfIT.lengthounds_toArray, List.set_cons_zero, List.set_cons_succ])
      have hB_q := heap_alloc_new y0 (.cells #[.slice none 0 0] 26)
      have ha := (Up.refl y0).alloc (.cells #[.slice none 0 0] 26)
      have hq_q := hU.le
      replace hU := hU.trans ha
      generalize y0.alloc (.cells #[.slice none 0 0] 26) = z1 at *
      generalize y0.heap.size = q_q at *
      clear ha
      refine wpAnyH_ready (rs := [2, 6]) (by kernel_rfl) (by simp) ?_
      refine AllReadyH.cons (o := ⟨_, _, _, _, _, _⟩) rfl (fun K hK => ?_) (AllReadyH.cons (o := ⟨_, _, _, _, _, _⟩) rfl (fun K hK => ?_) AllReadyH.nil)
      · go_simp
        go_at_call 25
        with_reducible refine (ON _ (HR1.out.up hU) (HR2.out.up hU)).out.mono ?_
        rintro e y2 ⟨A5, c5, rfl, R5, hu⟩
        refine hK.out _ _ (MK.out _ (hU.trans hu)) (fun hHeld => ?_)
        clear hK K
        (try simp only [Act.put, List.setIfIT.lengthounds_toArray, List.set_cons_zero, List.set_cons_succ])
        replace hU := hU.trans hu
        replace hB_q := hu.obj hB_q
        clear hu
        refine wpAnyH_ready (rs := [5, 6]) (by kernel_rfl) (by simp) ?_
        refine AllReadyH.cons (o := ⟨_, _, _, _, _, _⟩) rfl (fun K hK => ?_) (AllReadyH.cons (o := ⟨_, _, _, _, _, _⟩) rfl (fun K hK => ?_) AllReadyH.nil)
        · go_simp
          go_at_call 27
          with_reducible refine (BO _ (HR1.out.up hU) (HR2.out.up hU)).out.mono ?_
          rintro e y3 ⟨A6, c6, rfl, R6, hu⟩
          refine hK.out _ _ (MK.out _ (hU.trans hu)) (fun hHeld => ?_)
          clear hK K
          (try simp only [Act.put, List.setIfIT.lengthounds_toArray, List.set_cons_zero, List.set_cons_succ])
          replace hU := hU.trans hu
          replace hB_q := hu.obj hB_q
          replace R5 := R5.up hu
          clear hu
          refine wpAnyH_ready (rs := [6]) (by kernel_rfl) (by simp) ?_
          refine AllReadyH.cons (o := ⟨_, _, _, _, _, _⟩) rfl (fun K hK => ?_) AllReadyH.nil
          go_simp
          refine hK.out _ _ (MK.out _ (hU.alloc _)) (fun hHeld => ?_)
          clear hK K
          (try simp only [Act.put, List.setIfIT.lengthounds_toArray, List.set_cons_zero, List.set_cons_succ])
          have hB_p := heap_alloc_new y3 (.cells #[.slice none 0 0] 26)
          have ha := (Up.refl y3).alloc (.cells #[.slice none 0 0] 26)
          have hq_p := hU.le
          have hne_q_p : q_q ≠ y3.heap.size := by have := (Array.getElem?_eq_some_iff.1 hB_q).1; omega
          replace hU := hU.trans ha
          replace hB_q := ha.obj hB_q
          replace R5 := R5.up ha
          replace R6 := R6.up ha
          generalize y3.alloc (.cells #[.slice none 0 0] 26) = z4 at *
          generalize y3.heap.size = q_p at *
          clear ha
          refine wpAnyH_ready (rs := [8]) (by kernel_rfl) (by simp) ?_
          refine AllReadyH.cons (o := ⟨_, _, _, _, _, _⟩) rfl (fun K hK => ?_) AllReadyH.nil
          obtain ⟨k_p, z_p⟩ := blk_one hB_p
          go_simp
          refine hK.out _ _ (MK.out _ (hU.set (p := ⟨q_p, 0, none⟩) hq_p _)) (fun hHeld => ?_)
          clear hK K k_p z_p
          (try simp only [Act.put, List.setIfIT.lengthounds_toArray, List.set_cons_zero, List.set_cons_succ])
          replace hU := hU.set (p := ⟨q_p, 0, none⟩) hq_p (.slice A5 S.length c5)
          replace hB_q := (Below.heap_setCell _ ⟨q_p, 0, none⟩ (.slice A5 S.length c5) q_q (by simp; omega)).trans hB_q
          replace R5 := R5.far hB_p (.slice A5 S.length c5)
          replace R6 := R6.far hB_p (.slice A5 S.length c5)
          replace hB_p := heap_setCell_same _ q_p 0 _ _ (.slice A5 S.length c5) hB_p
          generalize World.setCell _ ⟨q_p, 0, none⟩ (.slice A5 S.length c5) = s5 at *
          refine wpAnyH_ready (rs := [9]) (by kernel_rfl) (by simp) ?_
          refine AllReadyH.cons (o := ⟨_, _, _, _, _, _⟩) rfl (fun K hK => ?_) AllReadyH.nil
          obtain ⟨k_q, z_q⟩ := blk_one hB_q
          go_simp
          refine hK.out _ _ (MK.out _ (hU.set (p := ⟨q_q, 0, none⟩) hq_q _)) (fun hHeld => ?_)
          clear hK K k_q z_q
          (try simp only [Act.put, List.setIfIT.lengthounds_toArray, List.set_cons_zero, List.set_cons_succ])
          replace hU := hU.set (p := ⟨q_q, 0, none⟩) hq_q (.slice A6 T.length c6)
          replace R5 := R5.far hB_q (.slice A6 T.length c6)
          replace R6 := R6.far hB_q (.slice A6 T.length c6)
          replace hB_p := (Below.heap_setCell _ ⟨q_q, 0, none⟩ (.slice A6 T.length c6) q_p (by simp; omega)).trans hB_p
          replace hB_q := heap_setCell_same _ q_q 0 _ _ (.slice A6 T.length c6) hB_q
          generalize World.setCell _ ⟨q_q, 0, none⟩ (.slice A6 T.length c6) = s6 at *
          refine wpAnyH_done (by kernel_rfl) ?_ _
          exact FIN A5 c5 A6 c6 q_p q_q s6 ⟨hU, hB_p, hB_q, R5, R6, hne_q_p.symm⟩
        · go_simp
          refine hK.out _ _ (MK.out _ (hU.alloc _)) (fun hHeld => ?_)
          clear hK K
          (try simp only [Act.put, List.setIfIT.lengthounds_toArray, List.set_cons_zero, List.set_cons_succ])
          have hB_p := heap_alloc_new y2 (.cells #[.slice none 0 0] 26)
          have ha := (Up.refl y2).alloc (.cells #[.slice none 0 0] 26)
          have hq_p := hU.le
          have hne_q_p : q_q ≠ y2.heap.size := by have := (Array.getElem?_eq_some_iff.1 hB_q).1; omega
          replace hU := hU.trans ha
          replace hB_q := ha.obj hB_q
          replace R5 := R5.up ha
          generalize y2.alloc (.cells #[.slice none 0 0] 26) = z3 at *
          generalize y2.heap.size = q_p at *
          clear ha
          refine wpAnyH_ready (rs := [5]) (by kernel_rfl) (by simp) ?_
          refine AllReadyH.cons (o := ⟨_, _, _, _, _, _⟩) rfl (fun K hK => ?_) AllReadyH.nil
          go_simp
          go_at_call 27
          with_reducible refine (BO _ (HR1.out.up hU) (HR2.out.up hU)).out.mono ?_
          rintro e y4 ⟨A6, c6, rfl, R6, hu⟩
          refine hK.out _ _ (MK.out _ (hU.trans hu)) (fun hHeld => ?_)
          clear hK K
          (try simp only [Act.put, List.setIfIT.lengthounds_toArray, List.set_cons_zero, List.set_cons_succ])
          replace hU := hU.trans hu
          replace hB_q := hu.obj hB_q
          replace R5 := R5.up hu
          replace hB_p := hu.obj hB_p
          clear hu
          refine wpAnyH_ready (rs := [8]) (by kernel_rfl) (by simp) ?_
          refine AllReadyH.cons (o := ⟨_, _, _, _, _, _⟩) rfl (fun K hK => ?_) AllReadyH.nil
          obtain ⟨k_p, z_p⟩ := blk_one hB_p
          go_simp
          refine hK.out _ _ (MK.out _ (hU.set (p := ⟨q_p, 0, none⟩) hq_p _)) (fun hHeld => ?_)
          clear hK K k_p z_p
          (try simp only [Act.put, List.setIfIT.lengthounds_toArray, List.set_cons_zero, List.set_cons_succ])
          replace hU := hU.set (p := ⟨q_p, 0, none⟩) hq_p (.slice A5 S.length c5)
          replace hB_q := (Below.heap_setCell _ ⟨q_p, 0, none⟩ (.slice A5 S.length c5) q_q (by simp; omega)).trans hB_q
          replace R5 := R5.far hB_p (.slice A5 S.length c5)
          replace R6 := R6.far hB_p (.slice A5 S.length c5)
          replace hB_p := heap_setCell_same _ q_p 0 _ _ (.slice A5 S.length c5) hB_p
          generalize World.setCell _ ⟨q_p, 0, none⟩ (.slice A5 S.length c5) = s5 at *
          refine wpAnyH_ready (rs := [9]) (by kernel_rfl) (by simp) ?_
          refine AllReadyH.cons (o := ⟨_, _, _, _, _, _⟩) rfl (fun K hK => ?_) AllReadyH.nil
          obtain ⟨k_q, z_q⟩ := blk_one hB_q
          go_simp
          refine hK.out _ _ (MK.out _ (hU.set (p := ⟨q_q, 0, none⟩) hq_q _)) (fun hHeld => ?_)
          clear hK K k_q z_q
          (try simp only [Act.put, List.setIfIT.lengthounds_toArray, List.set_cons_zero, List.set_cons_succ])
          replace hU := hU.set (p := ⟨q_q, 0, none⟩) hq_q (.slice A6 T.length c6)
          replace R5 := R5.far hB_q (.slice A6 T.length c6)
          replace hB_p := (Below.heap_setCell _ ⟨q_q, 0, none⟩ (.slice A6 T.length c6) q_p (by simp; omega)).trans hB_p
          replace R6 := R6.far hB_q (.slice A6 T.length c6)
          replace hB_q := heap_setCell_same _ q_q 0 _ _ (.slice A6 T.length c6) hB_q
          generalize World.setCell _ ⟨q_q, 0, none⟩ (.slice A6 T.length c6) = s6 at *
          refine wpAnyH_done (by kernel_rfl) ?_ _
          exact FIN A5 c5 A6 c6 q_p q_q s6 ⟨hU, hB_p, hB_q, R5, R6, hne_q_p.symm⟩
      · go_simp
        refine hK.out _ _ (MK.out _ (hU.alloc _)) (fun hHeld => ?_)
        clear hK K
        (try simp only [Act.put, List.setIfIT.lengthounds_toArray, List.set_cons_zero, List.set_cons_succ])
        have hB_p := heap_alloc_new z1 (.cells #[.slice none 0 0] 26)
        have ha := (Up.refl z1).alloc (.cells #[.slice none 0 0] 26)
        have hq_p := hU.le
        have hne_q_p : q_q ≠ z1.heap.size := by have := (Array.getElem?_eq_some_iff.1 hB_q).1; omega
        replace hU := hU.trans ha
        replace hB_q := ha.obj hB_q
        generalize z1.alloc (.cells #[.slice none 0 0] 26) = z2 at *
        generalize z1.heap.size = q_p at *
        clear ha
        refine wpAnyH_ready (rs := [2]) (by kernel_rfl) (by simp) ?_
        refine AllReadyH.cons (o := ⟨_, _, _, _, _, _⟩) rfl (fun K hK => ?_) AllReadyH.nil
        go_simp
        go_at_call 25
        with_reducible refine (ON _ (HR1.out.up hU) (HR2.out.up hU)).out.mono ?_
        rintro e y3 ⟨A5, c5, rfl, R5, hu⟩
        refine hK.out _ _ (MK.out _ (hU.trans hu)) (fun hHeld => ?_)
        clear hK K
        (try simp only [Act.put, List.setIfIT.lengthounds_toArray, List.set_cons_zero, List.set_cons_succ])
        replace hU := hU.trans hu
        replace hB_q := hu.obj hB_q
        replace hB_p := hu.obj hB_p
        clear hu
        refine wpAnyH_ready (rs := [5]) (by kernel_rfl) (by simp) ?_
        refine AllReadyH.cons (o := ⟨_, _, _, _, _, _⟩) rfl (fun K hK => ?_) AllReadyH.nil
        go_simp
        go_at_call 27
        with_reducible refine (BO _ (HR1.out.up hU) (HR2.out.up hU)).out.mono ?_
        rintro e y4 ⟨A6, c6, rfl, R6, hu⟩
        refine hK.out _ _ (MK.out _ (hU.trans hu)) (fun hHeld => ?_)
        clear hK K
        (try simp only [Act.put, List.setIfIT.lengthounds_toArray, List.set_cons_zero, List.set_cons_succ])
        replace hU := hU.trans hu
        replace hB_q := hu.obj hB_q
        replace hB_p := hu.obj hB_p
        replace R5 := R5.up hu
        clear hu
        refine wpAnyH_ready (rs := [8]) (by kernel_rfl) (by simp) ?_
        refine AllReadyH.cons (o := ⟨_, _, _, _, _, _⟩) rfl (fun K hK => ?_) AllReadyH.nil
        obtain ⟨k_p, z_p⟩ := blk_one hB_p
        go_simp
        refine hK.out _ _ (MK.out _ (hU.set (p := ⟨q_p, 0, none⟩) hq_p _)) (fun hHeld => ?_)
        clear hK K k_p z_p
        (try simp only [Act.put, List.setIfIT.lengthounds_toArray, List.set_cons_zero, List.set_cons_succ])
        replace hU := hU.set (p := ⟨q_p, 0, none⟩) hq_p (.slice A5 S.length c5)
        replace hB_q := (Below.heap_setCell _ ⟨q_p, 0, none⟩ (.slice A5 S.length c5) q_q (by simp; omega)).trans hB_q
        replace R5 := R5.far hB_p (.slice A5 S.length c5)
        replace R6 := R6.far hB_p (.slice A5 S.length c5)
        replace hB_p := heap_setCell_same _ q_p 0 _ _ (.slice A5 S.length c5) hB_p
        generalize World.setCell _ ⟨q_p, 0, none⟩ (.slice A5 S.length c5) = s5 at *
        refine wpAnyH_ready (rs := [9]) (by kernel_rfl) (by simp) ?_
        refine AllReadyH.cons (o := ⟨_, _, _, _, _, _⟩) rfl (fun K hK => ?_) AllReadyH.nil
        obtain ⟨k_q, z_q⟩ := blk_one hB_q
        go_simp
        refine hK.out _ _ (MK.out _ (hU.set (p := ⟨q_q, 0, none⟩) hq_q _)) (fun hHeld => ?_)
        clear hK K k_q z_q
        (try simp only [Act.put, List.setIfIT.lengthounds_toArray, List.set_cons_zero, List.set_cons_succ])
        replace hU := hU.set (p := ⟨q_q, 0, none⟩) hq_q (.slice A6 T.length c6)
        replace hB_p := (Below.heap_setCell _ ⟨q_q, 0, none⟩ (.slice A6 T.length c6) q_p (by simp; omega)).trans hB_p
        replace R5 := R5.far hB_q (.slice A6 T.length c6)
        replace R6 := R6.far hB_q (.slice A6 T.length c6)
        replace hB_q := heap_setCell_same _ q_q 0 _ _ (.slice A6 T.length c6) hB_q
        generalize World.setCell _ ⟨q_q, 0, none⟩ (.slice A6 T.length c6) = s6 at *
        refine wpAnyH_done (by kernel_rfl) ?_ _
        exact FIN A5 c5 A6 c6 q_p q_q s6 ⟨hU, hB_p, hB_q, R5, R6, hne_q_p.symm⟩
  clear hX HR1 HR2 ON BO
  intro A5 c5 A6 c6 p q Y hF
  obtain ⟨hY, hp, hq, r5, r6, _⟩ := hF
  replace kc := hY.cell kc
  replace kd := hY.cell kd
  replace kx := hY.cell kx
  replace HC := Lib.hid (HC.out.up hY)
  replace HD := Lib.hid (HD.out.up hY)
  replace HX := Lib.hid (HX.out.up hY)
  replace HU := Lib.hid (HU.out.trans hY)
  have kp := (blk_one hp).1
  have kq := (blk_one hq).1
  have HO := Lib.hid r5
  have HT := Lib.hid r6
  clear hp hq r5 r6 hY
  go_wp2_with fail
  with_reducible refine (V1 _ _ _ _ _ HO.out HT.out).out.mono ?_
  rintro e y4 ⟨A7, c7, rfl, r7, hu⟩
  have hn := new1 y4 26 (.slice A7 L.length c7)
  have hv := hu.trans hn.1
  replace kc := hv.cell kc
  replace kd := hv.cell kd
  replace kx := hv.cell kx
  replace kp := hv.cell kp
  replace kq := hv.cell kq
  replace HC := Lib.hid (HC.out.up hv)
  replace HD := Lib.hid (HD.out.up hv)
  replace HX := Lib.hid (HX.out.up hv)
  replace HO := Lib.hid (HO.out.up hv)
  replace HT := Lib.hid (HT.out.up hv)
  replace HU := Lib.hid (HU.out.trans hv)
  have k15 := hn.2.1
  have H15 := Lib.hid (r7.up hn.1)
  clear hu hn hv r7 V1
  go_wp2_with fail
  with_reducible refine (V2 _ _ _ _ _ HC.out HD.out).out.mono ?_
  rintro e y5 ⟨A8, c8, rfl, r8, hu⟩
  have hn := new1 y5 26 (.slice A8 V.length c8)
  have hv := hu.trans hn.1
  replace kc := hv.cell kc
  replace kd := hv.cell kd
  replace kx := hv.cell kx
  replace kp := hv.cell kp
  replace kq := hv.cell kq
  replace k15 := hv.cell k15
  replace HC := Lib.hid (HC.out.up hv)
  replace HD := Lib.hid (HD.out.up hv)
  replace HX := Lib.hid (HX.out.up hv)
  replace HO := Lib.hid (HO.out.up hv)
  replace HT := Lib.hid (HT.out.up hv)
  replace H15 := Lib.hid (H15.out.up hv)
  replace HU := Lib.hid (HU.out.trans hv)
  have k17 := hn.2.1
  have H17 := Lib.hid (r8.up hn.1)
  clear hu hn hv r8 V2
  go_wp2_with fail
  with_reducible refine (V3 _ _ _ _ _ HO.out HD.out).out.mono ?_
  rintro e y6 ⟨A9, c9, rfl, r9, hu⟩
  have hn := new1 y6 26 (.slice A9 V.length c9)
  have hv := hu.trans hn.1
  replace kc := hv.cell kc
  replace kd := hv.cell kd
  replace kx := hv.cell kx
  replace kp := hv.cell kp
  replace kq := hv.cell kq
  replace k15 := hv.cell k15
  replace k17 := hv.cell k17
  replace HC := Lib.hid (HC.out.up hv)
  replace HD := Lib.hid (HD.out.up hv)
  replace HX := Lib.hid (HX.out.up hv)
  replace HO := Lib.hid (HO.out.up hv)
  replace HT := Lib.hid (HT.out.up hv)
  replace H15 := Lib.hid (H15.out.up hv)
  replace H17 := Lib.hid (H17.out.up hv)
  replace HU := Lib.hid (HU.out.trans hv)
  have k19 := hn.2.1
  have H19 := Lib.hid (r9.up hn.1)
  clear hu hn hv r9 V3
  go_wp2_with fail
  have MK := Lib.hid (fun w' (h : Up (y6.alloc (.cells #[.slice A9 V.length c9] 26)) w') => (⟨h.cell kc, h.cell kd, h.cell kx, h.cell kp, h.cell kq, h.cell k15, h.cell k17, h.cell k19⟩ : w'.cell? ⟨y1.heap.size, 0, none⟩ = some (.slice A1 L.length c1) ∧ w'.cell? ⟨y2.heap.size, 0, none⟩ = some (.slice A2 M.length c2) ∧ w'.cell? ⟨y3.heap.size, 0, none⟩ = some (.slice A3 N.length c3) ∧ w'.cell? ⟨p, 0, none⟩ = some (.slice A5 S.length c5) ∧ w'.cell? ⟨q, 0, none⟩ = some (.slice A6 T.length c6) ∧ w'.cell? ⟨y4.heap.size, 0, none⟩ = some (.slice A7 L.length c7) ∧ w'.cell? ⟨y5.heap.size, 0, none⟩ = some (.slice A8 V.length c8) ∧ w'.cell? ⟨y6.heap.size, 0, none⟩ = some (.slice A9 V.length c9)))
  refine wp_region_held_drew (S := fun w' => w'.cell? ⟨y1.heap.size, 0, none⟩ = some (.slice A1 L.length c1) ∧ w'.cell? ⟨y2.heap.size, 0, none⟩ = some (.slice A2 M.length c2) ∧ w'.cell? ⟨y3.heap.size, 0, none⟩ = some (.slice A3 N.length c3) ∧ w'.cell? ⟨p, 0, none⟩ = some (.slice A5 S.length c5) ∧ w'.cell? ⟨q, 0, none⟩ = some (.slice A6 T.length c6) ∧ w'.cell? ⟨y4.heap.size, 0, none⟩ = some (.slice A7 L.length c7) ∧ w'.cell? ⟨y5.heap.size, 0, none⟩ = some (.slice A8 V.length c8) ∧ w'.cell? ⟨y6.heap.size, 0, none⟩ = some (.slice A9 V.length c9)) (by kernel_rfl) (MK.out _ (Up.refl _).drew) (fun hHeld => ?_)
  have hU := (Up.refl (y6.alloc (.cells #[.slice A9 V.length c9] 26))).drew
  have RC := HC.out.up hU
  have R15 := H15.out.up hU
  have R17 := H17.out.up hU
  have R19 := H19.out.up hU
  clear kc kd kx kp kq k15 k17 k19
  generalize World.drew (y6.alloc (.cells #[.slice A9 V.length c9] 26)) = y0 at *
  first | refine tku 0 rfl ?_ | refine tkv 0 rfl ?_
  (try simp only [Act.put, tz1, tz2, tz3])
  first | refine tku 1 rfl ?_ | refine tkv 1 rfl ?_
  (try simp only [Act.put, tz1, tz2, tz3])
  first | refine tku 2 rfl ?_ | refine tkv 2 rfl ?_
  (try simp only [Act.put, tz1, tz2, tz3])
  first | refine tku 3 rfl ?_ | refine tkv 3 rfl ?_
  (try simp only [Act.put, tz1, tz2, tz3])
  first | refine tku 4 rfl ?_ | refine tkv 4 rfl ?_
  (try simp only [Act.put, tz1, tz2, tz3])
  first | refine tku 5 rfl ?_ | refine tkv 5 rfl ?_
  (try simp only [Act.put, tz1, tz2, tz3])
  first | refine tku 6 rfl ?_ | refine tkv 6 rfl ?_
  (try simp only [Act.put, tz1, tz2, tz3])
  first | refine tku 7 rfl ?_ | refine tkv 7 rfl ?_
  (try simp only [Act.put, tz1, tz2, tz3])
  first | refine tku 8 rfl ?_ | refine tkv 8 rfl ?_
  (try simp only [Act.put, tz1, tz2, tz3])
  first | refine tku 9 rfl ?_ | refine tkv 9 rfl ?_
  (try simp only [Act.put, tz1, tz2, tz3])
  first | refine tku 10 rfl ?_ | refine tkv 10 rfl ?_
  (try simp only [Act.put, tz1, tz2, tz3])
  first | refine tku 11 rfl ?_ | refine tkv 11 rfl ?_
  (try simp only [Act.put, tz1, tz2, tz3])
  first | refine tku 12 rfl ?_ | refine tkv 12 rfl ?_
  (try simp only [Act.put, tz1, tz2, tz3])
  refine wpAnyH_ready (rs := [13]) (by kernel_rfl) (by simp) ?_
  refine AllReadyH.cons (o := ⟨_, _, _, _, _, _⟩) rfl (fun K hK => ?_) AllReadyH.nil
  go_simp
  go_at_call 29
  with_reducible refine (SM L (by omega) _ _ _ _ _ R15 RC).out.mono ?_
  rintro e y1 ⟨rfl, hu⟩
  refine hK.out _ _ (MK.out _ (hU.trans hu)) (fun hHeld => ?_)
  clear hK K
  (try simp only [Act.put, tz1, tz2, tz3])
  replace hU := hU.trans hu
  replace RC := RC.up hu
  replace R15 := R15.up hu
  replace R17 := R17.up hu
  replace R19 := R19.up hu
  clear hu
  first | refine tku 14 rfl ?_ | refine tkv 14 rfl ?_
  (try simp only [Act.put, tz1, tz2, tz3])
  first | refine tku 15 rfl ?_ | refine tkv 15 rfl ?_
  (try simp only [Act.put, tz1, tz2, tz3])
  first | refine tku 16 rfl ?_ | refine tkv 16 rfl ?_
  (try simp only [Act.put, tz1, tz2, tz3])
  first | refine tku 17 rfl ?_ | refine tkv 17 rfl ?_
  (try simp only [Act.put, tz1, tz2, tz3])
  first | refine tku 19 rfl ?_ | refine tkv 19 rfl ?_
  (try simp only [Act.put, tz1, tz2, tz3])
  first | refine tku 22 rfl ?_ | refine tkv 22 rfl ?_
  (try simp only [Act.put, tz1, tz2, tz3])
  refine wpAnyH_ready (rs := [18]) (by kernel_rfl) (by simp) ?_
  refine AllReadyH.cons (o := ⟨_, _, _, _, _, _⟩) rfl (fun K hK => ?_) AllReadyH.nil
  go_simp
  go_at_call 14
  with_reducible refine (LN _ _ _ _).out.mono ?_
  rintro e y2 ⟨rfl, hu⟩
  refine hK.out _ _ (MK.out _ (hU.trans hu)) (fun hHeld => ?_)
  clear hK K
  (try simp only [Act.put, tz1, tz2, tz3])
  replace hU := hU.trans hu
  replace RC := RC.up hu
  replace R15 := R15.up hu
  replace R17 := R17.up hu
  replace R19 := R19.up hu
  clear hu
  refine wpAnyH_ready (rs := [20]) (by kernel_rfl) (by simp) ?_
  refine AllReadyH.cons (o := ⟨_, _, _, _, _, _⟩) rfl (fun K hK => ?_) AllReadyH.nil
  go_simp
  go_at_call 14
  with_reducible refine (LN _ _ _ _).out.mono ?_
  rintro e y3 ⟨rfl, hu⟩
  refine hK.out _ _ (MK.out _ (hU.trans hu)) (fun hHeld => ?_)
  clear hK K
  (try simp only [Act.put, tz1, tz2, tz3])
  replace hU := hU.trans hu
  replace RC := RC.up hu
  replace R15 := R15.up hu
  replace R17 := R17.up hu
  replace R19 := R19.up hu
  clear hu
  first | refine tku 21 rfl ?_ | refine tkv 21 rfl ?_
  (try simp only [Act.put, tz1, tz2, tz3])
  refine wpAnyH_ready (rs := [23]) (by kernel_rfl) (by simp) ?_
  refine AllReadyH.cons (o := ⟨_, _, _, _, _, _⟩) rfl (fun K hK => ?_) AllReadyH.nil
  go_simp
  go_at_call 14
  with_reducible refine (LN _ _ _ _).out.mono ?_
  rintro e y4 ⟨rfl, hu⟩
  refine hK.out _ _ (MK.out _ (hU.trans hu)) (fun hHeld => ?_)
  clear hK K
  (try simp only [Act.put, tz1, tz2, tz3])
  replace hU := hU.trans hu
  replace RC := RC.up hu
  replace R15 := R15.up hu
  replace R17 := R17.up hu
  replace R19 := R19.up hu
  clear hu
  first | refine tku 24 rfl ?_ | refine tkv 24 rfl ?_
  (try simp only [Act.put, tz1, tz2, tz3])
  first | refine tku 25 rfl ?_ | refine tkv 25 rfl ?_
  (try simp only [Act.put, tz1, tz2, tz3])
  first | refine tku 26 rfl ?_ | refine tkv 26 rfl ?_
  (try simp only [Act.put, tz1, tz2, tz3])
  first | refine tku 27 rfl ?_ | refine tkv 27 rfl ?_
  (try simp only [Act.put, tz1, tz2, tz3])
  first | refine tku 28 rfl ?_ | refine tkv 28 rfl ?_
  (try simp only [Act.put, tz1, tz2, tz3])
  refine wpAnyH_ready (rs := [29]) (by kernel_rfl) (by simp) ?_
  refine AllReadyH.cons (o := ⟨_, _, _, _, _, _⟩) rfl (fun K hK => ?_) AllReadyH.nil
  go_simp
  go_at_call 29
  with_reducible refine (SM V (by omega) _ _ _ _ _ R17 R19).out.mono ?_
  rintro e y5 ⟨rfl, hu⟩
  refine hK.out _ _ (MK.out _ (hU.trans hu)) (fun hHeld => ?_)
  clear hK K
  (try simp only [Act.put, tz1, tz2, tz3])
  replace hU := hU.trans hu
  replace RC := RC.up hu
  replace R15 := R15.up hu
  replace R17 := R17.up hu
  replace R19 := R19.up hu
  clear hu
  first | refine tku 30 rfl ?_ | refine tkv 30 rfl ?_
  (try simp only [Act.put, tz1, tz2, tz3])
  first | refine tku 31 rfl ?_ | refine tkv 31 rfl ?_
  (try simp only [Act.put, tz1, tz2, tz3])
  first | refine tku 32 rfl ?_ | refine tkv 32 rfl ?_
  (try simp only [Act.put, tz1, tz2, tz3])
  first | refine tku 33 rfl ?_ | refine tkv 33 rfl ?_
  (try simp only [Act.put, tz1, tz2, tz3])
  first | refine tku 35 rfl ?_ | refine tkv 35 rfl ?_
  (try simp only [Act.put, tz1, tz2, tz3])
  first | refine tku 37 rfl ?_ | refine tkv 37 rfl ?_
  (try simp only [Act.put, tz1, tz2, tz3])
  refine wpAnyH_ready (rs := [34]) (by kernel_rfl) (by simp) ?_
  refine AllReadyH.cons (o := ⟨_, _, _, _, _, _⟩) rfl (fun K hK => ?_) AllReadyH.nil
  go_simp
  go_at_call 14
  with_reducible refine (LN _ _ _ _).out.mono ?_
  rintro e y6 ⟨rfl, hu⟩
  refine hK.out _ _ (MK.out _ (hU.trans hu)) (fun hHeld => ?_)
  clear hK K
  (try simp only [Act.put, tz1, tz2, tz3])
  replace hU := hU.trans hu
  replace RC := RC.up hu
  replace R15 := R15.up hu
  replace R17 := R17.up hu
  replace R19 := R19.up hu
  clear hu
  refine wpAnyH_ready (rs := [36]) (by kernel_rfl) (by simp) ?_
  refine AllReadyH.cons (o := ⟨_, _, _, _, _, _⟩) rfl (fun K hK => ?_) AllReadyH.nil
  go_simp
  go_at_call 14
  with_reducible refine (LN _ _ _ _).out.mono ?_
  rintro e y7 ⟨rfl, hu⟩
  refine hK.out _ _ (MK.out _ (hU.trans hu)) (fun hHeld => ?_)
  clear hK K
  (try simp only [Act.put, tz1, tz2, tz3])
  replace hU := hU.trans hu
  replace RC := RC.up hu
  replace R15 := R15.up hu
  replace R17 := R17.up hu
  replace R19 := R19.up hu
  clear hu
  refine wpAnyH_ready (rs := [38]) (by kernel_rfl) (by simp) ?_
  refine AllReadyH.cons (o := ⟨_, _, _, _, _, _⟩) rfl (fun K hK => ?_) AllReadyH.nil
  go_simp
  go_at_call 14
  with_reducible refine (LN _ _ _ _).out.mono ?_
  rintro e y8 ⟨rfl, hu⟩
  refine hK.out _ _ (MK.out _ (hU.trans hu)) (fun hHeld => ?_)
  clear hK K
  (try simp only [Act.put, tz1, tz2, tz3])
  replace hU := hU.trans hu
  replace RC := RC.up hu
  replace R15 := R15.up hu
  replace R17 := R17.up hu
  replace R19 := R19.up hu
  clear hu
  first | refine tku 39 rfl ?_ | refine tkv 39 rfl ?_
  (try simp only [Act.put, tz1, tz2, tz3])
  first | refine tku 40 rfl ?_ | refine tkv 40 rfl ?_
  (try simp only [Act.put, tz1, tz2, tz3])
  first | refine tku 41 rfl ?_ | refine tkv 41 rfl ?_
  (try simp only [Act.put, tz1, tz2, tz3])
  refine wpAnyH_done (by kernel_rfl) ?_ _
  obtain ⟨kc, kd, kx, kp, kq, k15, k17, k19⟩ := hHeld
  clear RC R15 R17 R19 MK e1 e2 k15 k19 kp kq H15 H19 HO HT
  replace HC := Lib.hid (HC.out.up hU)
  replace HD := Lib.hid (HD.out.up hU)
  replace HX := Lib.hid (HX.out.up hU)
  replace H17 := Lib.hid (H17.out.up hU)
  replace HU := Lib.hid (HU.out.trans hU)
  clear hU
  go_wp2_with fail
  with_reducible refine (V4 _ _ _ _ _ H17.out HX.out).out.mono ?_
  rintro e y21 ⟨B1, d1, rfl, r1, hu⟩
  have hn := new1 y21 26 (.slice B1 W.length d1)
  have hv := hu.trans hn.1
  replace kc := hv.cell kc
  replace kd := hv.cell kd
  replace kx := hv.cell kx
  replace k17 := hv.cell k17
  replace HC := Lib.hid (HC.out.up hv)
  replace HD := Lib.hid (HD.out.up hv)
  replace HX := Lib.hid (HX.out.up hv)
  replace H17 := Lib.hid (H17.out.up hv)
  replace HU := Lib.hid (HU.out.trans hv)
  have k21 := hn.2.1
  have H21 := Lib.hid (r1.up hn.1)
  clear hu hn hv r1 V4
  go_wp2_with fail
  with_reducible refine (V5 _ _ _ _ _ HD.out HX.out).out.mono ?_
  rintro e y22 ⟨B2, d2, rfl, r2, hu⟩
  have hn := new1 y22 26 (.slice B2 R.length d2)
  have hv := hu.trans hn.1
  replace kc := hv.cell kc
  replace kd := hv.cell kd
  replace kx := hv.cell kx
  replace k17 := hv.cell k17
  replace k21 := hv.cell k21
  replace HC := Lib.hid (HC.out.up hv)
  replace HD := Lib.hid (HD.out.up hv)
  replace HX := Lib.hid (HX.out.up hv)
  replace H17 := Lib.hid (H17.out.up hv)
  replace H21 := Lib.hid (H21.out.up hv)
  replace HU := Lib.hid (HU.out.trans hv)
  have k23 := hn.2.1
  have H23 := Lib.hid (r2.up hn.1)
  clear hu hn hv r2 V5
  go_wp2_with fail
  with_reducible refine (V6 _ _ _ _ _ HC.out H23.out).out.mono ?_
  rintro e y23 ⟨B3, d3, rfl, r3, hu⟩
  have hn := new1 y23 26 (.slice B3 W.length d3)
  have hv := hu.trans hn.1
  replace kc := hv.cell kc
  replace kd := hv.cell kd
  replace kx := hv.cell kx
  replace k17 := hv.cell k17
  replace k21 := hv.cell k21
  replace k23 := hv.cell k23
  replace HC := Lib.hid (HC.out.up hv)
  replace HD := Lib.hid (HD.out.up hv)
  replace HX := Lib.hid (HX.out.up hv)
  replace H17 := Lib.hid (H17.out.up hv)
  replace H21 := Lib.hid (H21.out.up hv)
  replace H23 := Lib.hid (H23.out.up hv)
  replace HU := Lib.hid (HU.out.trans hv)
  have k25 := hn.2.1
  have H25 := Lib.hid (r3.up hn.1)
  clear hu hn hv r3 V6
  go_wp2_with fail
  with_reducible refine (V7 _ _ _ _ _ HC.out HC.out).out.mono ?_
  rintro e y24 ⟨B4, d4, rfl, r4, hu⟩
  have hn := new1 y24 26 (.slice B4 L.length d4)
  have hv := hu.trans hn.1
  replace kc := hv.cell kc
  replace kd := hv.cell kd
  replace kx := hv.cell kx
  replace k17 := hv.cell k17
  replace k21 := hv.cell k21
  replace k23 := hv.cell k23
  replace k25 := hv.cell k25
  replace HC := Lib.hid (HC.out.up hv)
  replace HD := Lib.hid (HD.out.up hv)
  replace HX := Lib.hid (HX.out.up hv)
  replace H17 := Lib.hid (H17.out.up hv)
  replace H21 := Lib.hid (H21.out.up hv)
  replace H23 := Lib.hid (H23.out.up hv)
  replace H25 := Lib.hid (H25.out.up hv)
  replace HU := Lib.hid (HU.out.trans hv)
  have k27 := hn.2.1
  have H27 := Lib.hid (r4.up hn.1)
  clear hu hn hv r4 V7
  go_wp2_with fail
  with_reducible refine (SM W (by omega) _ _ _ _ _ H21.out H25.out).out.mono ?_
  rintro e y25 ⟨rfl, hu⟩
  replace kc := hu.cell kc
  replace kd := hu.cell kd
  replace kx := hu.cell kx
  replace k17 := hu.cell k17
  replace k21 := hu.cell k21
  replace k23 := hu.cell k23
  replace k25 := hu.cell k25
  replace k27 := hu.cell k27
  replace HC := Lib.hid (HC.out.up hu)
  replace HD := Lib.hid (HD.out.up hu)
  replace HX := Lib.hid (HX.out.up hu)
  replace H17 := Lib.hid (H17.out.up hu)
  replace H21 := Lib.hid (H21.out.up hu)
  replace H23 := Lib.hid (H23.out.up hu)
  replace H25 := Lib.hid (H25.out.up hu)
  replace H27 := Lib.hid (H27.out.up hu)
  replace HU := Lib.hid (HU.out.trans hu)
  clear hu
  go_wp2_with fail
  with_reducible refine (SM L (by omega) _ _ _ _ _ H27.out HC.out).out.mono ?_
  rintro e y26 ⟨rfl, hu⟩
  replace kc := hu.cell kc
  replace kd := hu.cell kd
  replace kx := hu.cell kx
  replace k17 := hu.cell k17
  replace k21 := hu.cell k21
  replace k23 := hu.cell k23
  replace k25 := hu.cell k25
  replace k27 := hu.cell k27
  replace HC := Lib.hid (HC.out.up hu)
  replace HD := Lib.hid (HD.out.up hu)
  replace HX := Lib.hid (HX.out.up hu)
  replace H17 := Lib.hid (H17.out.up hu)
  replace H21 := Lib.hid (H21.out.up hu)
  replace H23 := Lib.hid (H23.out.up hu)
  replace H25 := Lib.hid (H25.out.up hu)
  replace H27 := Lib.hid (H27.out.up hu)
  replace HU := Lib.hid (HU.out.trans hu)
  clear hu
  go_wp2_with fail
  with_reducible refine (AW _).out.mono ?_
  rintro e w2 ⟨rfl, hu2⟩
  go_wp2_with fail
  go_ret
  exact ⟨rfl, HU.out.trans hu2⟩
end Go.Proofs.YtkfococpanailaaGreatDoor
