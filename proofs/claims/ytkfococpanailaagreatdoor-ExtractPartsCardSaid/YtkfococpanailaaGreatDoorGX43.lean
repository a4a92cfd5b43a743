/- Walk: gazetteerlaw38.ExtractParts. -/
import Derived.Test.YtkfococpanailaaGreatDoorGX42
import Derived.Test.YtkfococpanailaaGreatDoorGX12
import Derived.Test.YtkfococpanailaaGreatDoorGX10
import Derived.Test.YtkfococpanailaaGreatDoorGX09
namespace Go.Proofs.YtkfococpanailaaGreatDoor
open Go.RowKit Go.Gz Go.Shelf

set_option maxRecDepth 100000
theorem merge10 {P F : Option Addr → Nat → Option Addr → Nat → Option Addr → Nat → Option Addr → Nat → Nat → Nat → World → Prop} {G : Prop}
    (h1 : (∀ a b c d a' b' c' d' e f Y, F a b c d a' b' c' d' e f Y → P a b c d a' b' c' d' e f Y) → G) (h2 : ∀ a b c d a' b' c' d' e f Y, F a b c d a' b' c' d' e f Y → P a b c d a' b' c' d' e f Y) : G := h1 h2
theorem merge9 {P F : Option Addr → Nat → Option Addr → Nat → Option Addr → Nat → Option Addr → Nat → Nat → World → Prop} {G : Prop}
    (h1 : (∀ a b c d a' b' c' d' e Y, F a b c d a' b' c' d' e Y → P a b c d a' b' c' d' e Y) → G) (h2 : ∀ a b c d a' b' c' d' e Y, F a b c d a' b' c' d' e Y → P a b c d a' b' c' d' e Y) : G := h1 h2
set_option maxHeartbeats 32000000 in
theorem xparts38 (l : Items) (a b : Rcs) (hxl : ∀ x ∈ l, x.2.length ≤ 9223372036854775807) (Al : Option Addr) (cl : Nat) (Aa : Option Addr) (ca : Nat) (Ab : Option Addr) (cb : Nat) (w : World) (hrl : Rd w 2 Al l.length cl (itV l)) (hra : Rd w 5 Aa a.length ca (rcV a)) (hrb : Rd w 5 Ab b.length cb (rcV b)) :
    Calls Tryz.prog 11 #[.slice Al l.length cl, .slice Aa a.length ca, .slice Ab b.length cb] w fun e w' => e = .returned (.bool true) ∧ Up w w' := by
  have OV : ∀ w, Rd w 2 Al l.length cl (itV l) → Hid (Calls Tryz.prog 18 #[.slice Al l.length cl, .int .i64 60, .int .i64 3000] w (OverEnd (l.length ≤ 60 ∧ sumL l ≤ 3000) w)) := fun w hr => Lib.hid (over12_any l 60 3000 (by decide) hxl Al cl w hr)
  have AW := fun w => Lib.hid (awake38 w)
  obtain ⟨i0, hi, hz0, hz1, hz2⟩ := info_parts infoRc
  have HRL := Lib.hid hrl
  have HRA := Lib.hid hra
  have HRB := Lib.hid hrb
  have HU := Lib.hid (Up.refl w)
  clear hra hrb hrl hxl
  go_enter Tryz.func11, Tryz.ntmps11
  go_wp2_with fail
  with_reducible refine (OV _ HRL.out).out.mono ?_
  rintro e w1 ⟨b1, rfl, hb, rfl⟩
  cases b1 with
  | true =>
    go_wp2_with fail
    with_reducible refine (AW _).out.mono ?_
    rintro e w2 ⟨rfl, hu2⟩
    go_wp2_with fail
    go_ret
    exact ⟨rfl, hu2⟩
  | false =>
  obtain ⟨hll, _⟩ := hb rfl
  clear hb OV
  by_cases ha8 : (8 : Int) < (a.length : Int)
  · go_wp2_with fail
    with_reducible refine (AW _).out.mono ?_
    rintro e w2 ⟨rfl, hu2⟩
    go_wp2_with fail
    go_ret
    exact ⟨rfl, hu2⟩
  by_cases hb8 : (8 : Int) < (b.length : Int)
  · go_wp2_with fail
    with_reducible refine (AW _).out.mono ?_
    rintro e w2 ⟨rfl, hu2⟩
    go_wp2_with fail
    go_ret
    exact ⟨rfl, hu2⟩
  have OW := fun w hr => Lib.hid (own12_any l (by omega) Al cl w hr)
  unfold OwnEnd at OW
  have gl := good_own l (by omega)
  have la := own_len l
  generalize ownL l = L at *
  have RA := fun w hr => Lib.hid (rects_any a (by omega) Aa ca w hr)
  have RB := fun w hr => Lib.hid (rects_any b (by omega) Ab cb w hr)
  have XA := fun A1 c1 A2 c2 w h1 h2 => Lib.hid (eof_any L gl a (by omega) A1 c1 A2 c2 w h1 h2)
  have XB := fun A1 c1 A2 c2 w h1 h2 => Lib.hid (eof_any L gl b (by omega) A1 c1 A2 c2 w h1 h2)
  have XC := fun A1 c1 A2 c2 w h1 h2 => Lib.hid (eof_any L gl (a ++ b) (by rw [List.length_append]; omega) A1 c1 A2 c2 w h1 h2)
  have XAB := fun A1 c1 A2 c2 w h1 h2 => Lib.hid (eof_any (keepL L (anyR a)) (good_keep gl _) b (by omega) A1 c1 A2 c2 w h1 h2)
  have XBA := fun A1 c1 A2 c2 w h1 h2 => Lib.hid (eof_any (keepL L (anyR b)) (good_keep gl _) a (by omega) A1 c1 A2 c2 w h1 h2)
  have XAA := fun A1 c1 A2 c2 w h1 h2 => Lib.hid (eof_any (keepL L (anyR a)) (good_keep gl _) a (by omega) A1 c1 A2 c2 w h1 h2)
  rw [keep_self] at XAA
  rw [keep_comm] at XBA
  simp only [List.length_append] at XC
  have kl1 := keep_len L (anyR a)
  have kl2 := keep_len L (anyR b)
  have kl4 := keep_len (keepL L (anyR a)) (anyR b)
  have kl3 := keep_or_len L (anyR a) (anyR b) (anyR (a ++ b)) (any_app a b)
  have GS : ∀ k (hk : k < L.length), getL (keepL L (anyR a)) L[k].1 = if itR (anyR a) L[k] = true then some L[k].2 else none := fun k hk => get_keep gl.srt _ hk
  have GT : ∀ k (hk : k < L.length), getL (keepL L (anyR b)) L[k].1 = if itR (anyR b) L[k] = true then some L[k].2 else none := fun k hk => get_keep gl.srt _ hk
  have GB : ∀ k (hk : k < L.length), getL (keepL L (anyR (a ++ b))) L[k].1 = if (itR (anyR a) L[k] || itR (anyR b) L[k]) = true then some L[k].2 else none := fun k hk => by
    rw [get_keep gl.srt _ hk]; unfold itR; rw [any_app]
  have gs := good_keep gl (anyR a)
  have gt := good_keep gl (anyR b)
  have gb := good_keep gl (anyR (a ++ b))
  unfold ChaE at XA XB XC XAB XBA XAA
  unfold RcsE at RA RB
  have SM := fun (S : Items) (hS : S.length ≤ 1000000) A1 c1 A2 c2 w h1 h2 => Lib.hid (same_any S hS A1 c1 A2 c2 w h1 h2)
  generalize keepL (keepL L (anyR a)) (anyR b) = D at *
  generalize keepL L (anyR a) = S at *
  generalize keepL L (anyR b) = T at *
  generalize keepL L (anyR (a ++ b)) = B at *
  have LN := fun A (n : Nat) c w => Lib.hid (len_any A n c w)
  go_wp2_with fail
  with_reducible refine (OW _ HRL.out).out.mono ?_
  rintro e v1 ⟨A1, c1, _, _, rfl, r1, s1, hu⟩
  have hn := new1 v1 26 (.slice A1 L.length c1)
  have hv := hu.trans hn.1
  replace HRL := Lib.hid (HRL.out.up hv)
  replace HRA := Lib.hid (HRA.out.up hv)
  replace HRB := Lib.hid (HRB.out.up hv)
  replace HU := Lib.hid (HU.out.trans hv)
  have kc := hn.2.1
  have HC := Lib.hid (r1.up hn.1)
  clear hu hv hn r1 s1 OW
  clear HRL
  obtain ⟨X, hX⟩ : ∃ X, v1.alloc (.cells #[.slice A1 L.length c1] 26) = X := ⟨_, rfl⟩
  rw [hX] at kc HU HC HRA HRB
  go_wp2_with fail
  (try rw [hX])
  apply merge10 (F := fun A5 c5 A6 c6 _ _ _ _ p q Y => Up X Y ∧ Y.heap[p]? = some (.cells #[.slice A5 S.length c5] 26 (0, 0)) ∧ Y.heap[q]? = some (.cells #[.slice A6 T.length c6] 26 (0, 0)) ∧ Rd Y 2 A5 S.length c5 (itV S) ∧ Rd Y 2 A6 T.length c6 (itV T) ∧ p ≠ q)
  · intro FIN
    have MK := Lib.hid (fun w' (h : Up X w') => (h.cell kc : w'.cell? ⟨v1.heap.size, 0, none⟩ = some (.slice A1 L.length c1)))
    refine wp_region_held_drew (S := fun w' => w'.cell? ⟨v1.heap.size, 0, none⟩ = some (.slice A1 L.length c1)) (by kernel_rfl) (MK.out _ (Up.refl _).drew) (fun hHeld => ?_)
    have hU := (Up.refl X).drew
    generalize X.drew = y0 at *
    refine tk 0 rfl ?_
    (try simp only [Act.put, tz1, tz2, tz3])
    refine tk 1 rfl ?_
    (try simp only [Act.put, tz1, tz2, tz3])
    refine tk 4 rfl ?_
    (try simp only [Act.put, tz1, tz2, tz3])
    refine tk 5 rfl ?_
    (try simp only [Act.put, tz1, tz2, tz3])
    refine wpAnyH_ready (rs := [2, 8, 9]) (by kernel_rfl) (by simp) ?_
    refine AllReadyH.cons (o := ⟨_, _, _, _, _, _⟩) rfl (fun K hK => ?_) (AllReadyH.cons (o := ⟨_, _, _, _, _, _⟩) rfl (fun K hK => ?_) (AllReadyH.cons (o := ⟨_, _, _, _, _, _⟩) rfl (fun K hK => ?_) AllReadyH.nil))
    · go_simp
      go_at_call 36
      with_reducible refine (RA _ (HRA.out.up hU)).out.mono ?_
      rintro e y1 ⟨_, rfl, ho, hu⟩
      obtain ⟨A3, c3, rfl, R3⟩ := Rd.of_own ho
      clear ho
      refine hK.out _ _ (MK.out _ (hU.trans hu)) (fun hHeld => ?_)
      clear hK K
      (try simp only [Act.put, tz1, tz2, tz3])
      replace hU := hU.trans hu
      clear hu
      refine wpAnyH_ready (rs := [3, 8, 9]) (by kernel_rfl) (by simp) ?_
      refine AllReadyH.cons (o := ⟨_, _, _, _, _, _⟩) rfl (fun K hK => ?_) (AllReadyH.cons (o := ⟨_, _, _, _, _, _⟩) rfl (fun K hK => ?_) (AllReadyH.cons (o := ⟨_, _, _, _, _, _⟩) rfl (fun K hK => ?_) AllReadyH.nil))
      · go_simp
        go_at_call 35
        with_reducible refine (XA _ _ _ _ _ (HC.out.up hU) R3).out.mono ?_
        rintro e y2 ⟨A5, c5, rfl, R5, hu⟩
        clear R3
        refine hK.out _ _ (MK.out _ (hU.trans hu)) (fun hHeld => ?_)
        clear hK K
        (try simp only [Act.put, tz1, tz2, tz3])
        replace hU := hU.trans hu
        clear hu
        refine wpAnyH_ready (rs := [6, 8, 9]) (by kernel_rfl) (by simp) ?_
        refine AllReadyH.cons (o := ⟨_, _, _, _, _, _⟩) rfl (fun K hK => ?_) (AllReadyH.cons (o := ⟨_, _, _, _, _, _⟩) rfl (fun K hK => ?_) (AllReadyH.cons (o := ⟨_, _, _, _, _, _⟩) rfl (fun K hK => ?_) AllReadyH.nil))
        · go_simp
          go_at_call 36
          with_reducible refine (RB _ (HRB.out.up hU)).out.mono ?_
          rintro e y3 ⟨_, rfl, ho, hu⟩
          obtain ⟨A4, c4, rfl, R4⟩ := Rd.of_own ho
          clear ho
          refine hK.out _ _ (MK.out _ (hU.trans hu)) (fun hHeld => ?_)
          clear hK K
          (try simp only [Act.put, tz1, tz2, tz3])
          replace hU := hU.trans hu
          replace R5 := R5.up hu
          clear hu
          refine wpAnyH_ready (rs := [7, 8, 9]) (by kernel_rfl) (by simp) ?_
          refine AllReadyH.cons (o := ⟨_, _, _, _, _, _⟩) rfl (fun K hK => ?_) (AllReadyH.cons (o := ⟨_, _, _, _, _, _⟩) rfl (fun K hK => ?_) (AllReadyH.cons (o := ⟨_, _, _, _, _, _⟩) rfl (fun K hK => ?_) AllReadyH.nil))
          · go_simp
            go_at_call 35
            with_reducible refine (XB _ _ _ _ _ (HC.out.up hU) R4).out.mono ?_
            rintro e y4 ⟨A6, c6, rfl, R6, hu⟩
            clear R4
            refine hK.out _ _ (MK.out _ (hU.trans hu)) (fun hHeld => ?_)
            clear hK K
            (try simp only [Act.put, tz1, tz2, tz3])
            replace hU := hU.trans hu
            replace R5 := R5.up hu
            clear hu
            refine rd2 8 9 rfl rfl (fun K hK => ?_) (fun K hK => ?_)
            · go_simp
              refine hK.out _ _ (MK.out _ (hU.alloc _)) (fun hHeld => ?_)
              clear hK K
              (try simp only [Act.put, tz1, tz2, tz3])
              have hB_p := heap_alloc_new y4 (.cells #[.slice none 0 0] 26)
              have ha := (Up.refl y4).alloc (.cells #[.slice none 0 0] 26)
              have hq_p := hU.le
              replace hU := hU.trans ha
              replace R5 := R5.up ha
              replace R6 := R6.up ha
              generalize y4.alloc (.cells #[.slice none 0 0] 26) = z5 at *
              generalize y4.heap.size = q_p at *
              clear ha
              refine rd1 9 rfl (fun K hK => ?_)
              go_simp
              refine hK.out _ _ (MK.out _ (hU.alloc _)) (fun hHeld => ?_)
              clear hK K
              (try simp only [Act.put, tz1, tz2, tz3])
              have hB_q := heap_alloc_new z5 (.cells #[.slice none 0 0] 26)
              have ha := (Up.refl z5).alloc (.cells #[.slice none 0 0] 26)
              have hq_q := hU.le
              have hne_p_q : q_p ≠ z5.heap.size := by have := (Array.getElem?_eq_some_iff.1 hB_p).1; omega
              replace hU := hU.trans ha
              replace R5 := R5.up ha
              replace R6 := R6.up ha
              replace hB_p := ha.obj hB_p
              generalize z5.alloc (.cells #[.slice none 0 0] 26) = z6 at *
              generalize z5.heap.size = q_q at *
              clear ha
              refine rd1 10 rfl (fun K hK => ?_)
              obtain ⟨k_p, z_p⟩ := blk_one hB_p
              go_simp
              refine hK.out _ _ (MK.out _ (hU.set (p := ⟨q_p, 0, none⟩) hq_p _)) (fun hHeld => ?_)
              clear hK K k_p z_p
              (try simp only [Act.put, tz1, tz2, tz3])
              replace hU := hU.set (p := ⟨q_p, 0, none⟩) hq_p (.slice A5 S.length c5)
              replace R5 := R5.far hB_p (.slice A5 S.length c5)
              replace R6 := R6.far hB_p (.slice A5 S.length c5)
              replace hB_q := (Below.heap_setCell _ ⟨q_p, 0, none⟩ (.slice A5 S.length c5) q_q (by simp; omega)).trans hB_q
              replace hB_p := heap_setCell_same _ q_p 0 _ _ (.slice A5 S.length c5) hB_p
              generalize World.setCell _ ⟨q_p, 0, none⟩ (.slice A5 S.length c5) = s7 at *
              refine rd1 11 rfl (fun K hK => ?_)
              obtain ⟨k_q, z_q⟩ := blk_one hB_q
              go_simp
              refine hK.out _ _ (MK.out _ (hU.set (p := ⟨q_q, 0, none⟩) hq_q _)) (fun hHeld => ?_)
              clear hK K k_q z_q
              (try simp only [Act.put, tz1, tz2, tz3])
              replace hU := hU.set (p := ⟨q_q, 0, none⟩) hq_q (.slice A6 T.length c6)
              replace R5 := R5.far hB_q (.slice A6 T.length c6)
              replace R6 := R6.far hB_q (.slice A6 T.length c6)
              replace hB_p := (Below.heap_setCell _ ⟨q_q, 0, none⟩ (.slice A6 T.length c6) q_p (by simp; omega)).trans hB_p
              replace hB_q := heap_setCell_same _ q_q 0 _ _ (.slice A6 T.length c6) hB_q
              generalize World.setCell _ ⟨q_q, 0, none⟩ (.slice A6 T.length c6) = s8 at *
              refine wpAnyH_done (by kernel_rfl) ?_ _
              exact FIN A5 c5 A6 c6 A3 c3 A4 c4 q_p q_q s8 ⟨hU, hB_p, hB_q, R5, R6, hne_p_q⟩
            · go_simp
              refine hK.out _ _ (MK.out _ (hU.alloc _)) (fun hHeld => ?_)
              clear hK K
              (try simp only [Act.put, tz1, tz2, tz3])
              have hB_q := heap_alloc_new y4 (.cells #[.slice none 0 0] 26)
              have ha := (Up.refl y4).alloc (.cells #[.slice none 0 0] 26)
              have hq_q := hU.le
              replace hU := hU.trans ha
              replace R5 := R5.up ha
              replace R6 := R6.up ha
              generalize y4.alloc (.cells #[.slice none 0 0] 26) = z5 at *
              generalize y4.heap.size = q_q at *
              clear ha
              refine rd1 8 rfl (fun K hK => ?_)
              go_simp
              refine hK.out _ _ (MK.out _ (hU.alloc _)) (fun hHeld => ?_)
              clear hK K
              (try simp only [Act.put, tz1, tz2, tz3])
              have hB_p := heap_alloc_new z5 (.cells #[.slice none 0 0] 26)
              have ha := (Up.refl z5).alloc (.cells #[.slice none 0 0] 26)
              have hq_p := hU.le
              have hne_q_p : q_q ≠ z5.heap.size := by have := (Array.getElem?_eq_some_iff.1 hB_q).1; omega
              replace hU := hU.trans ha
              replace R5 := R5.up ha
              replace R6 := R6.up ha
              replace hB_q := ha.obj hB_q
              generalize z5.alloc (.cells #[.slice none 0 0] 26) = z6 at *
              generalize z5.heap.size = q_p at *
              clear ha
              refine rd1 10 rfl (fun K hK => ?_)
              obtain ⟨k_p, z_p⟩ := blk_one hB_p
              go_simp
              refine hK.out _ _ (MK.out _ (hU.set (p := ⟨q_p, 0, none⟩) hq_p _)) (fun hHeld => ?_)
              clear hK K k_p z_p
              (try simp only [Act.put, tz1, tz2, tz3])
              replace hU := hU.set (p := ⟨q_p, 0, none⟩) hq_p (.slice A5 S.length c5)
              replace R5 := R5.far hB_p (.slice A5 S.length c5)
              replace R6 := R6.far hB_p (.slice A5 S.length c5)
              replace hB_q := (Below.heap_setCell _ ⟨q_p, 0, none⟩ (.slice A5 S.length c5) q_q (by simp; omega)).trans hB_q
              replace hB_p := heap_setCell_same _ q_p 0 _ _ (.slice A5 S.length c5) hB_p
              generalize World.setCell _ ⟨q_p, 0, none⟩ (.slice A5 S.length c5) = s7 at *
              refine rd1 11 rfl (fun K hK => ?_)
              obtain ⟨k_q, z_q⟩ := blk_one hB_q
              go_simp
              refine hK.out _ _ (MK.out _ (hU.set (p := ⟨q_q, 0, none⟩) hq_q _)) (fun hHeld => ?_)
              clear hK K k_q z_q
              (try simp only [Act.put, tz1, tz2, tz3])
              replace hU := hU.set (p := ⟨q_q, 0, none⟩) hq_q (.slice A6 T.length c6)
              replace R5 := R5.far hB_q (.slice A6 T.length c6)
              replace R6 := R6.far hB_q (.slice A6 T.length c6)
              replace hB_p := (Below.heap_setCell _ ⟨q_q, 0, none⟩ (.slice A6 T.length c6) q_p (by simp; omega)).trans hB_p
              replace hB_q := heap_setCell_same _ q_q 0 _ _ (.slice A6 T.length c6) hB_q
              generalize World.setCell _ ⟨q_q, 0, none⟩ (.slice A6 T.length c6) = s8 at *
              refine wpAnyH_done (by kernel_rfl) ?_ _
              exact FIN A5 c5 A6 c6 A3 c3 A4 c4 q_p q_q s8 ⟨hU, hB_p, hB_q, R5, R6, hne_q_p.symm⟩
          · go_simp
            refine hK.out _ _ (MK.out _ (hU.alloc _)) (fun hHeld => ?_)
            clear hK K
            (try simp only [Act.put, tz1, tz2, tz3])
            have hB_p := heap_alloc_new y3 (.cells #[.slice none 0 0] 26)
            have ha := (Up.refl y3).alloc (.cells #[.slice none 0 0] 26)
            have hq_p := hU.le
            replace hU := hU.trans ha
            replace R5 := R5.up ha
            replace R4 := R4.up ha
            generalize y3.alloc (.cells #[.slice none 0 0] 26) = z4 at *
            generalize y3.heap.size = q_p at *
            clear ha
            refine rd2 7 9 rfl rfl (fun K hK => ?_) (fun K hK => ?_)
            · go_simp
              go_at_call 35
              with_reducible refine (XB _ _ _ _ _ (HC.out.up hU) R4).out.mono ?_
              rintro e y5 ⟨A6, c6, rfl, R6, hu⟩
              clear R4
              refine hK.out _ _ (MK.out _ (hU.trans hu)) (fun hHeld => ?_)
              clear hK K
              (try simp only [Act.put, tz1, tz2, tz3])
              replace hU := hU.trans hu
              replace R5 := R5.up hu
              replace hB_p := hu.obj hB_p
              clear hu
              refine rd1 9 rfl (fun K hK => ?_)
              go_simp
              refine hK.out _ _ (MK.out _ (hU.alloc _)) (fun hHeld => ?_)
              clear hK K
              (try simp only [Act.put, tz1, tz2, tz3])
              have hB_q := heap_alloc_new y5 (.cells #[.slice none 0 0] 26)
              have ha := (Up.refl y5).alloc (.cells #[.slice none 0 0] 26)
              have hq_q := hU.le
              have hne_p_q : q_p ≠ y5.heap.size := by have := (Array.getElem?_eq_some_iff.1 hB_p).1; omega
              replace hU := hU.trans ha
              replace R5 := R5.up ha
              replace hB_p := ha.obj hB_p
              replace R6 := R6.up ha
              generalize y5.alloc (.cells #[.slice none 0 0] 26) = z6 at *
              generalize y5.heap.size = q_q at *
              clear ha
              refine rd1 10 rfl (fun K hK => ?_)
              obtain ⟨k_p, z_p⟩ := blk_one hB_p
              go_simp
              refine hK.out _ _ (MK.out _ (hU.set (p := ⟨q_p, 0, none⟩) hq_p _)) (fun hHeld => ?_)
              clear hK K k_p z_p
              (try simp only [Act.put, tz1, tz2, tz3])
              replace hU := hU.set (p := ⟨q_p, 0, none⟩) hq_p (.slice A5 S.length c5)
              replace R5 := R5.far hB_p (.slice A5 S.length c5)
              replace R6 := R6.far hB_p (.slice A5 S.length c5)
              replace hB_q := (Below.heap_setCell _ ⟨q_p, 0, none⟩ (.slice A5 S.length c5) q_q (by simp; omega)).trans hB_q
              replace hB_p := heap_setCell_same _ q_p 0 _ _ (.slice A5 S.length c5) hB_p
              generalize World.setCell _ ⟨q_p, 0, none⟩ (.slice A5 S.length c5) = s7 at *
              refine rd1 11 rfl (fun K hK => ?_)
              obtain ⟨k_q, z_q⟩ := blk_one hB_q
              go_simp
              refine hK.out _ _ (MK.out _ (hU.set (p := ⟨q_q, 0, none⟩) hq_q _)) (fun hHeld => ?_)
              clear hK K k_q z_q
              (try simp only [Act.put, tz1, tz2, tz3])
              replace hU := hU.set (p := ⟨q_q, 0, none⟩) hq_q (.slice A6 T.length c6)
              replace R5 := R5.far hB_q (.slice A6 T.length c6)
              replace hB_p := (Below.heap_setCell _ ⟨q_q, 0, none⟩ (.slice A6 T.length c6) q_p (by simp; omega)).trans hB_p
              replace R6 := R6.far hB_q (.slice A6 T.length c6)
              replace hB_q := heap_setCell_same _ q_q 0 _ _ (.slice A6 T.length c6) hB_q
              generalize World.setCell _ ⟨q_q, 0, none⟩ (.slice A6 T.length c6) = s8 at *
              refine wpAnyH_done (by kernel_rfl) ?_ _
              exact FIN A5 c5 A6 c6 A3 c3 A4 c4 q_p q_q s8 ⟨hU, hB_p, hB_q, R5, R6, hne_p_q⟩
            · go_simp
              refine hK.out _ _ (MK.out _ (hU.alloc _)) (fun hHeld => ?_)
              clear hK K
              (try simp only [Act.put, tz1, tz2, tz3])
              have hB_q := heap_alloc_new z4 (.cells #[.slice none 0 0] 26)
              have ha := (Up.refl z4).alloc (.cells #[.slice none 0 0] 26)
              have hq_q := hU.le
              have hne_p_q : q_p ≠ z4.heap.size := by have := (Array.getElem?_eq_some_iff.1 hB_p).1; omega
              replace hU := hU.trans ha
              replace R5 := R5.up ha
              replace R4 := R4.up ha
              replace hB_p := ha.obj hB_p
              generalize z4.alloc (.cells #[.slice none 0 0] 26) = z5 at *
              generalize z4.heap.size = q_q at *
              clear ha
              refine rd1 7 rfl (fun K hK => ?_)
              go_simp
              go_at_call 35
              with_reducible refine (XB _ _ _ _ _ (HC.out.up hU) R4).out.mono ?_
              rintro e y6 ⟨A6, c6, rfl, R6, hu⟩
              clear R4
              refine hK.out _ _ (MK.out _ (hU.trans hu)) (fun hHeld => ?_)
              clear hK K
              (try simp only [Act.put, tz1, tz2, tz3])
              replace hU := hU.trans hu
              replace R5 := R5.up hu
              replace hB_p := hu.obj hB_p
              replace hB_q := hu.obj hB_q
              clear hu
              refine rd1 10 rfl (fun K hK => ?_)
              obtain ⟨k_p, z_p⟩ := blk_one hB_p
              go_simp
              refine hK.out _ _ (MK.out _ (hU.set (p := ⟨q_p, 0, none⟩) hq_p _)) (fun hHeld => ?_)
              clear hK K k_p z_p
              (try simp only [Act.put, tz1, tz2, tz3])
              replace hU := hU.set (p := ⟨q_p, 0, none⟩) hq_p (.slice A5 S.length c5)
              replace R5 := R5.far hB_p (.slice A5 S.length c5)
              replace hB_q := (Below.heap_setCell _ ⟨q_p, 0, none⟩ (.slice A5 S.length c5) q_q (by simp; omega)).trans hB_q
              replace R6 := R6.far hB_p (.slice A5 S.length c5)
              replace hB_p := heap_setCell_same _ q_p 0 _ _ (.slice A5 S.length c5) hB_p
              generalize World.setCell _ ⟨q_p, 0, none⟩ (.slice A5 S.length c5) = s7 at *
              refine rd1 11 rfl (fun K hK => ?_)
              obtain ⟨k_q, z_q⟩ := blk_one hB_q
              go_simp
              refine hK.out _ _ (MK.out _ (hU.set (p := ⟨q_q, 0, none⟩) hq_q _)) (fun hHeld => ?_)
              clear hK K k_q z_q
              (try simp only [Act.put, tz1, tz2, tz3])
              replace hU := hU.set (p := ⟨q_q, 0, none⟩) hq_q (.slice A6 T.length c6)
              replace R5 := R5.far hB_q (.slice A6 T.length c6)
              replace hB_p := (Below.heap_setCell _ ⟨q_q, 0, none⟩ (.slice A6 T.length c6) q_p (by simp; omega)).trans hB_p
              replace R6 := R6.far hB_q (.slice A6 T.length c6)
              replace hB_q := heap_setCell_same _ q_q 0 _ _ (.slice A6 T.length c6) hB_q
              generalize World.setCell _ ⟨q_q, 0, none⟩ (.slice A6 T.length c6) = s8 at *
              refine wpAnyH_done (by kernel_rfl) ?_ _
              exact FIN A5 c5 A6 c6 A3 c3 A4 c4 q_p q_q s8 ⟨hU, hB_p, hB_q, R5, R6, hne_p_q⟩
          · go_simp
            refine hK.out _ _ (MK.out _ (hU.alloc _)) (fun hHeld => ?_)
            clear hK K
            (try simp only [Act.put, tz1, tz2, tz3])
            have hB_q := heap_alloc_new y3 (.cells #[.slice none 0 0] 26)
            have ha := (Up.refl y3).alloc (.cells #[.slice none 0 0] 26)
            have hq_q := hU.le
            replace hU := hU.trans ha
            replace R5 := R5.up ha
            replace R4 := R4.up ha
            generalize y3.alloc (.cells #[.slice none 0 0] 26) = z4 at *
            generalize y3.heap.size = q_q at *
            clear ha
            refine rd2 7 8 rfl rfl (fun K hK => ?_) (fun K hK => ?_)
            · go_simp
              go_at_call 35
              with_reducible refine (XB _ _ _ _ _ (HC.out.up hU) R4).out.mono ?_
              rintro e y5 ⟨A6, c6, rfl, R6, hu⟩
              clear R4
              refine hK.out _ _ (MK.out _ (hU.trans hu)) (fun hHeld => ?_)
              clear hK K
              (try simp only [Act.put, tz1, tz2, tz3])
              replace hU := hU.trans hu
              replace R5 := R5.up hu
              replace hB_q := hu.obj hB_q
              clear hu
              refine rd1 8 rfl (fun K hK => ?_)
              go_simp
              refine hK.out _ _ (MK.out _ (hU.alloc _)) (fun hHeld => ?_)
              clear hK K
              (try simp only [Act.put, tz1, tz2, tz3])
              have hB_p := heap_alloc_new y5 (.cells #[.slice none 0 0] 26)
              have ha := (Up.refl y5).alloc (.cells #[.slice none 0 0] 26)
              have hq_p := hU.le
              have hne_q_p : q_q ≠ y5.heap.size := by have := (Array.getElem?_eq_some_iff.1 hB_q).1; omega
              replace hU := hU.trans ha
              replace R5 := R5.up ha
              replace hB_q := ha.obj hB_q
              replace R6 := R6.up ha
              generalize y5.alloc (.cells #[.slice none 0 0] 26) = z6 at *
              generalize y5.heap.size = q_p at *
              clear ha
              refine rd1 10 rfl (fun K hK => ?_)
              obtain ⟨k_p, z_p⟩ := blk_one hB_p
              go_simp
              refine hK.out _ _ (MK.out _ (hU.set (p := ⟨q_p, 0, none⟩) hq_p _)) (fun hHeld => ?_)
              clear hK K k_p z_p
              (try simp only [Act.put, tz1, tz2, tz3])
              replace hU := hU.set (p := ⟨q_p, 0, none⟩) hq_p (.slice A5 S.length c5)
              replace R5 := R5.far hB_p (.slice A5 S.length c5)
              replace hB_q := (Below.heap_setCell _ ⟨q_p, 0, none⟩ (.slice A5 S.length c5) q_q (by simp; omega)).trans hB_q
              replace R6 := R6.far hB_p (.slice A5 S.length c5)
              replace hB_p := heap_setCell_same _ q_p 0 _ _ (.slice A5 S.length c5) hB_p
              generalize World.setCell _ ⟨q_p, 0, none⟩ (.slice A5 S.length c5) = s7 at *
              refine rd1 11 rfl (fun K hK => ?_)
              obtain ⟨k_q, z_q⟩ := blk_one hB_q
              go_simp
              refine hK.out _ _ (MK.out _ (hU.set (p := ⟨q_q, 0, none⟩) hq_q _)) (fun hHeld => ?_)
              clear hK K k_q z_q
              (try simp only [Act.put, tz1, tz2, tz3])
              replace hU := hU.set (p := ⟨q_q, 0, none⟩) hq_q (.slice A6 T.length c6)
              replace R5 := R5.far hB_q (.slice A6 T.length c6)
              replace R6 := R6.far hB_q (.slice A6 T.length c6)
              replace hB_p := (Below.heap_setCell _ ⟨q_q, 0, none⟩ (.slice A6 T.length c6) q_p (by simp; omega)).trans hB_p
              replace hB_q := heap_setCell_same _ q_q 0 _ _ (.slice A6 T.length c6) hB_q
              generalize World.setCell _ ⟨q_q, 0, none⟩ (.slice A6 T.length c6) = s8 at *
              refine wpAnyH_done (by kernel_rfl) ?_ _
              exact FIN A5 c5 A6 c6 A3 c3 A4 c4 q_p q_q s8 ⟨hU, hB_p, hB_q, R5, R6, hne_q_p.symm⟩
            · go_simp
              refine hK.out _ _ (MK.out _ (hU.alloc _)) (fun hHeld => ?_)
              clear hK K
              (try simp only [Act.put, tz1, tz2, tz3])
              have hB_p := heap_alloc_new z4 (.cells #[.slice none 0 0] 26)
              have ha := (Up.refl z4).alloc (.cells #[.slice none 0 0] 26)
              have hq_p := hU.le
              have hne_q_p : q_q ≠ z4.heap.size := by have := (Array.getElem?_eq_some_iff.1 hB_q).1; omega
              replace hU := hU.trans ha
              replace R5 := R5.up ha
              replace R4 := R4.up ha
              replace hB_q := ha.obj hB_q
              generalize z4.alloc (.cells #[.slice none 0 0] 26) = z5 at *
              generalize z4.heap.size = q_p at *
              clear ha
              refine rd1 7 rfl (fun K hK => ?_)
              go_simp
              go_at_call 35
              with_reducible refine (XB _ _ _ _ _ (HC.out.up hU) R4).out.mono ?_
              rintro e y6 ⟨A6, c6, rfl, R6, hu⟩
              clear R4
              refine hK.out _ _ (MK.out _ (hU.trans hu)) (fun hHeld => ?_)
              clear hK K
              (try simp only [Act.put, tz1, tz2, tz3])
              replace hU := hU.trans hu
              replace R5 := R5.up hu
              replace hB_q := hu.obj hB_q
              replace hB_p := hu.obj hB_p
              clear hu
              refine rd1 10 rfl (fun K hK => ?_)
              obtain ⟨k_p, z_p⟩ := blk_one hB_p
              go_simp
              refine hK.out _ _ (MK.out _ (hU.set (p := ⟨q_p, 0, none⟩) hq_p _)) (fun hHeld => ?_)
              clear hK K k_p z_p
              (try simp only [Act.put, tz1, tz2, tz3])
              replace hU := hU.set (p := ⟨q_p, 0, none⟩) hq_p (.slice A5 S.length c5)
              replace R5 := R5.far hB_p (.slice A5 S.length c5)
              replace hB_q := (Below.heap_setCell _ ⟨q_p, 0, none⟩ (.slice A5 S.length c5) q_q (by simp; omega)).trans hB_q
              replace R6 := R6.far hB_p (.slice A5 S.length c5)
              replace hB_p := heap_setCell_same _ q_p 0 _ _ (.slice A5 S.length c5) hB_p
              generalize World.setCell _ ⟨q_p, 0, none⟩ (.slice A5 S.length c5) = s7 at *
              refine rd1 11 rfl (fun K hK => ?_)
              obtain ⟨k_q, z_q⟩ := blk_one hB_q
              go_simp
              refine hK.out _ _ (MK.out _ (hU.set (p := ⟨q_q, 0, none⟩) hq_q _)) (fun hHeld => ?_)
              clear hK K k_q z_q
              (try simp only [Act.put, tz1, tz2, tz3])
              replace hU := hU.set (p := ⟨q_q, 0, none⟩) hq_q (.slice A6 T.length c6)
              replace R5 := R5.far hB_q (.slice A6 T.length c6)
              replace hB_p := (Below.heap_setCell _ ⟨q_q, 0, none⟩ (.slice A6 T.length c6) q_p (by simp; omega)).trans hB_p
              replace R6 := R6.far hB_q (.slice A6 T.length c6)
              replace hB_q := heap_setCell_same _ q_q 0 _ _ (.slice A6 T.length c6) hB_q
              generalize World.setCell _ ⟨q_q, 0, none⟩ (.slice A6 T.length c6) = s8 at *
              refine wpAnyH_done (by kernel_rfl) ?_ _
              exact FIN A5 c5 A6 c6 A3 c3 A4 c4 q_p q_q s8 ⟨hU, hB_p, hB_q, R5, R6, hne_q_p.symm⟩
        · go_simp
          refine hK.out _ _ (MK.out _ (hU.alloc _)) (fun hHeld => ?_)
          clear hK K
          (try simp only [Act.put, tz1, tz2, tz3])
          have hB_p := heap_alloc_new y2 (.cells #[.slice none 0 0] 26)
          have ha := (Up.refl y2).alloc (.cells #[.slice none 0 0] 26)
          have hq_p := hU.le
          replace hU := hU.trans ha
          replace R5 := R5.up ha
          generalize y2.alloc (.cells #[.slice none 0 0] 26) = z3 at *
          generalize y2.heap.size = q_p at *
          clear ha
          refine rd2 6 9 rfl rfl (fun K hK => ?_) (fun K hK => ?_)
          · go_simp
            go_at_call 36
            with_reducible refine (RB _ (HRB.out.up hU)).out.mono ?_
            rintro e y4 ⟨_, rfl, ho, hu⟩
            obtain ⟨A4, c4, rfl, R4⟩ := Rd.of_own ho
            clear ho
            refine hK.out _ _ (MK.out _ (hU.trans hu)) (fun hHeld => ?_)
            clear hK K
            (try simp only [Act.put, tz1, tz2, tz3])
            replace hU := hU.trans hu
            replace R5 := R5.up hu
            replace hB_p := hu.obj hB_p
            clear hu
            refine rd2 7 9 rfl rfl (fun K hK => ?_) (fun K hK => ?_)
            · go_simp
              go_at_call 35
              with_reducible refine (XB _ _ _ _ _ (HC.out.up hU) R4).out.mono ?_
              rintro e y5 ⟨A6, c6, rfl, R6, hu⟩
              clear R4
              refine hK.out _ _ (MK.out _ (hU.trans hu)) (fun hHeld => ?_)
              clear hK K
              (try simp only [Act.put, tz1, tz2, tz3])
              replace hU := hU.trans hu
              replace R5 := R5.up hu
              replace hB_p := hu.obj hB_p
              clear hu
              refine rd1 9 rfl (fun K hK => ?_)
              go_simp
              refine hK.out _ _ (MK.out _ (hU.alloc _)) (fun hHeld => ?_)
              clear hK K
              (try simp only [Act.put, tz1, tz2, tz3])
              have hB_q := heap_alloc_new y5 (.cells #[.slice none 0 0] 26)
              have ha := (Up.refl y5).alloc (.cells #[.slice none 0 0] 26)
              have hq_q := hU.le
              have hne_p_q : q_p ≠ y5.heap.size := by have := (Array.getElem?_eq_some_iff.1 hB_p).1; omega
              replace hU := hU.trans ha
              replace R5 := R5.up ha
              replace hB_p := ha.obj hB_p
              replace R6 := R6.up ha
              generalize y5.alloc (.cells #[.slice none 0 0] 26) = z6 at *
              generalize y5.heap.size = q_q at *
              clear ha
              refine rd1 10 rfl (fun K hK => ?_)
              obtain ⟨k_p, z_p⟩ := blk_one hB_p
              go_simp
              refine hK.out _ _ (MK.out _ (hU.set (p := ⟨q_p, 0, none⟩) hq_p _)) (fun hHeld => ?_)
              clear hK K k_p z_p
              (try simp only [Act.put, tz1, tz2, tz3])
              replace hU := hU.set (p := ⟨q_p, 0, none⟩) hq_p (.slice A5 S.length c5)
              replace R5 := R5.far hB_p (.slice A5 S.length c5)
              replace R6 := R6.far hB_p (.slice A5 S.length c5)
              replace hB_q := (Below.heap_setCell _ ⟨q_p, 0, none⟩ (.slice A5 S.length c5) q_q (by simp; omega)).trans hB_q
              replace hB_p := heap_setCell_same _ q_p 0 _ _ (.slice A5 S.length c5) hB_p
              generalize World.setCell _ ⟨q_p, 0, none⟩ (.slice A5 S.length c5) = s7 at *
              refine rd1 11 rfl (fun K hK => ?_)
              obtain ⟨k_q, z_q⟩ := blk_one hB_q
              go_simp
              refine hK.out _ _ (MK.out _ (hU.set (p := ⟨q_q, 0, none⟩) hq_q _)) (fun hHeld => ?_)
              clear hK K k_q z_q
              (try simp only [Act.put, tz1, tz2, tz3])
              replace hU := hU.set (p := ⟨q_q, 0, none⟩) hq_q (.slice A6 T.length c6)
              replace R5 := R5.far hB_q (.slice A6 T.length c6)
              replace hB_p := (Below.heap_setCell _ ⟨q_q, 0, none⟩ (.slice A6 T.length c6) q_p (by simp; omega)).trans hB_p
              replace R6 := R6.far hB_q (.slice A6 T.length c6)
              replace hB_q := heap_setCell_same _ q_q 0 _ _ (.slice A6 T.length c6) hB_q
              generalize World.setCell _ ⟨q_q, 0, none⟩ (.slice A6 T.length c6) = s8 at *
              refine wpAnyH_done (by kernel_rfl) ?_ _
              exact FIN A5 c5 A6 c6 A3 c3 A4 c4 q_p q_q s8 ⟨hU, hB_p, hB_q, R5, R6, hne_p_q⟩
            · go_simp
              refine hK.out _ _ (MK.out _ (hU.alloc _)) (fun hHeld => ?_)
              clear hK K
              (try simp only [Act.put, tz1, tz2, tz3])
              have hB_q := heap_alloc_new y4 (.cells #[.slice none 0 0] 26)
              have ha := (Up.refl y4).alloc (.cells #[.slice none 0 0] 26)
              have hq_q := hU.le
              have hne_p_q : q_p ≠ y4.heap.size := by have := (Array.getElem?_eq_some_iff.1 hB_p).1; omega
              replace hU := hU.trans ha
              replace R5 := R5.up ha
              replace hB_p := ha.obj hB_p
              replace R4 := R4.up ha
              generalize y4.alloc (.cells #[.slice none 0 0] 26) = z5 at *
              generalize y4.heap.size = q_q at *
              clear ha
              refine rd1 7 rfl (fun K hK => ?_)
              go_simp
              go_at_call 35
              with_reducible refine (XB _ _ _ _ _ (HC.out.up hU) R4).out.mono ?_
              rintro e y6 ⟨A6, c6, rfl, R6, hu⟩
              clear R4
              refine hK.out _ _ (MK.out _ (hU.trans hu)) (fun hHeld => ?_)
              clear hK K
              (try simp only [Act.put, tz1, tz2, tz3])
              replace hU := hU.trans hu
              replace R5 := R5.up hu
              replace hB_p := hu.obj hB_p
              replace hB_q := hu.obj hB_q
              clear hu
              refine rd1 10 rfl (fun K hK => ?_)
              obtain ⟨k_p, z_p⟩ := blk_one hB_p
              go_simp
              refine hK.out _ _ (MK.out _ (hU.set (p := ⟨q_p, 0, none⟩) hq_p _)) (fun hHeld => ?_)
              clear hK K k_p z_p
              (try simp only [Act.put, tz1, tz2, tz3])
              replace hU := hU.set (p := ⟨q_p, 0, none⟩) hq_p (.slice A5 S.length c5)
              replace R5 := R5.far hB_p (.slice A5 S.length c5)
              replace hB_q := (Below.heap_setCell _ ⟨q_p, 0, none⟩ (.slice A5 S.length c5) q_q (by simp; omega)).trans hB_q
              replace R6 := R6.far hB_p (.slice A5 S.length c5)
              replace hB_p := heap_setCell_same _ q_p 0 _ _ (.slice A5 S.length c5) hB_p
              generalize World.setCell _ ⟨q_p, 0, none⟩ (.slice A5 S.length c5) = s7 at *
              refine rd1 11 rfl (fun K hK => ?_)
              obtain ⟨k_q, z_q⟩ := blk_one hB_q
              go_simp
              refine hK.out _ _ (MK.out _ (hU.set (p := ⟨q_q, 0, none⟩) hq_q _)) (fun hHeld => ?_)
              clear hK K k_q z_q
              (try simp only [Act.put, tz1, tz2, tz3])
              replace hU := hU.set (p := ⟨q_q, 0, none⟩) hq_q (.slice A6 T.length c6)
              replace R5 := R5.far hB_q (.slice A6 T.length c6)
              replace hB_p := (Below.heap_setCell _ ⟨q_q, 0, none⟩ (.slice A6 T.length c6) q_p (by simp; omega)).trans hB_p
              replace R6 := R6.far hB_q (.slice A6 T.length c6)
              replace hB_q := heap_setCell_same _ q_q 0 _ _ (.slice A6 T.length c6) hB_q
              generalize World.setCell _ ⟨q_q, 0, none⟩ (.slice A6 T.length c6) = s8 at *
              refine wpAnyH_done (by kernel_rfl) ?_ _
              exact FIN A5 c5 A6 c6 A3 c3 A4 c4 q_p q_q s8 ⟨hU, hB_p, hB_q, R5, R6, hne_p_q⟩
          · go_simp
            refine hK.out _ _ (MK.out _ (hU.alloc _)) (fun hHeld => ?_)
            clear hK K
            (try simp only [Act.put, tz1, tz2, tz3])
            have hB_q := heap_alloc_new z3 (.cells #[.slice none 0 0] 26)
            have ha := (Up.refl z3).alloc (.cells #[.slice none 0 0] 26)
            have hq_q := hU.le
            have hne_p_q : q_p ≠ z3.heap.size := by have := (Array.getElem?_eq_some_iff.1 hB_p).1; omega
            replace hU := hU.trans ha
            replace R5 := R5.up ha
            replace hB_p := ha.obj hB_p
            generalize z3.alloc (.cells #[.slice none 0 0] 26) = z4 at *
            generalize z3.heap.size = q_q at *
            clear ha
            refine rd1 6 rfl (fun K hK => ?_)
            go_simp
            go_at_call 36
            with_reducible refine (RB _ (HRB.out.up hU)).out.mono ?_
            rintro e y5 ⟨_, rfl, ho, hu⟩
            obtain ⟨A4, c4, rfl, R4⟩ := Rd.of_own ho
            clear ho
            refine hK.out _ _ (MK.out _ (hU.trans hu)) (fun hHeld => ?_)
            clear hK K
            (try simp only [Act.put, tz1, tz2, tz3])
            replace hU := hU.trans hu
            replace R5 := R5.up hu
            replace hB_p := hu.obj hB_p
            replace hB_q := hu.obj hB_q
            clear hu
            refine rd1 7 rfl (fun K hK => ?_)
            go_simp
            go_at_call 35
            with_reducible refine (XB _ _ _ _ _ (HC.out.up hU) R4).out.mono ?_
            rintro e y6 ⟨A6, c6, rfl, R6, hu⟩
            clear R4
            refine hK.out _ _ (MK.out _ (hU.trans hu)) (fun hHeld => ?_)
            clear hK K
            (try simp only [Act.put, tz1, tz2, tz3])
            replace hU := hU.trans hu
            replace R5 := R5.up hu
            replace hB_p := hu.obj hB_p
            replace hB_q := hu.obj hB_q
            clear hu
            refine rd1 10 rfl (fun K hK => ?_)
            obtain ⟨k_p, z_p⟩ := blk_one hB_p
            go_simp
            refine hK.out _ _ (MK.out _ (hU.set (p := ⟨q_p, 0, none⟩) hq_p _)) (fun hHeld => ?_)
            clear hK K k_p z_p
            (try simp only [Act.put, tz1, tz2, tz3])
            replace hU := hU.set (p := ⟨q_p, 0, none⟩) hq_p (.slice A5 S.length c5)
            replace R5 := R5.far hB_p (.slice A5 S.length c5)
            replace hB_q := (Below.heap_setCell _ ⟨q_p, 0, none⟩ (.slice A5 S.length c5) q_q (by simp; omega)).trans hB_q
            replace R6 := R6.far hB_p (.slice A5 S.length c5)
            replace hB_p := heap_setCell_same _ q_p 0 _ _ (.slice A5 S.length c5) hB_p
            generalize World.setCell _ ⟨q_p, 0, none⟩ (.slice A5 S.length c5) = s7 at *
            refine rd1 11 rfl (fun K hK => ?_)
            obtain ⟨k_q, z_q⟩ := blk_one hB_q
            go_simp
            refine hK.out _ _ (MK.out _ (hU.set (p := ⟨q_q, 0, none⟩) hq_q _)) (fun hHeld => ?_)
            clear hK K k_q z_q
            (try simp only [Act.put, tz1, tz2, tz3])
            replace hU := hU.set (p := ⟨q_q, 0, none⟩) hq_q (.slice A6 T.length c6)
            replace R5 := R5.far hB_q (.slice A6 T.length c6)
            replace hB_p := (Below.heap_setCell _ ⟨q_q, 0, none⟩ (.slice A6 T.length c6) q_p (by simp; omega)).trans hB_p
            replace R6 := R6.far hB_q (.slice A6 T.length c6)
            replace hB_q := heap_setCell_same _ q_q 0 _ _ (.slice A6 T.length c6) hB_q
            generalize World.setCell _ ⟨q_q, 0, none⟩ (.slice A6 T.length c6) = s8 at *
            refine wpAnyH_done (by kernel_rfl) ?_ _
            exact FIN A5 c5 A6 c6 A3 c3 A4 c4 q_p q_q s8 ⟨hU, hB_p, hB_q, R5, R6, hne_p_q⟩
        · go_simp
          refine hK.out _ _ (MK.out _ (hU.alloc _)) (fun hHeld => ?_)
          clear hK K
          (try simp only [Act.put, tz1, tz2, tz3])
          have hB_q := heap_alloc_new y2 (.cells #[.slice none 0 0] 26)
          have ha := (Up.refl y2).alloc (.cells #[.slice none 0 0] 26)
          have hq_q := hU.le
          replace hU := hU.trans ha
          replace R5 := R5.up ha
          generalize y2.alloc (.cells #[.slice none 0 0] 26) = z3 at *
          generalize y2.heap.size = q_q at *
          clear ha
          refine rd2 6 8 rfl rfl (fun K hK => ?_) (fun K hK => ?_)
          · go_simp
            go_at_call 36
            with_reducible refine (RB _ (HRB.out.up hU)).out.mono ?_
            rintro e y4 ⟨_, rfl, ho, hu⟩
            obtain ⟨A4, c4, rfl, R4⟩ := Rd.of_own ho
            clear ho
            refine hK.out _ _ (MK.out _ (hU.trans hu)) (fun hHeld => ?_)
            clear hK K
            (try simp only [Act.put, tz1, tz2, tz3])
            replace hU := hU.trans hu
            replace R5 := R5.up hu
            replace hB_q := hu.obj hB_q
            clear hu
            refine rd2 7 8 rfl rfl (fun K hK => ?_) (fun K hK => ?_)
            · go_simp
              go_at_call 35
              with_reducible refine (XB _ _ _ _ _ (HC.out.up hU) R4).out.mono ?_
              rintro e y5 ⟨A6, c6, rfl, R6, hu⟩
              clear R4
              refine hK.out _ _ (MK.out _ (hU.trans hu)) (fun hHeld => ?_)
              clear hK K
              (try simp only [Act.put, tz1, tz2, tz3])
              replace hU := hU.trans hu
              replace R5 := R5.up hu
              replace hB_q := hu.obj hB_q
              clear hu
              refine rd1 8 rfl (fun K hK => ?_)
              go_simp
              refine hK.out _ _ (MK.out _ (hU.alloc _)) (fun hHeld => ?_)
              clear hK K
              (try simp only [Act.put, tz1, tz2, tz3])
              have hB_p := heap_alloc_new y5 (.cells #[.slice none 0 0] 26)
              have ha := (Up.refl y5).alloc (.cells #[.slice none 0 0] 26)
              have hq_p := hU.le
              have hne_q_p : q_q ≠ y5.heap.size := by have := (Array.getElem?_eq_some_iff.1 hB_q).1; omega
              replace hU := hU.trans ha
              replace R5 := R5.up ha
              replace hB_q := ha.obj hB_q
              replace R6 := R6.up ha
              generalize y5.alloc (.cells #[.slice none 0 0] 26) = z6 at *
              generalize y5.heap.size = q_p at *
              clear ha
              refine rd1 10 rfl (fun K hK => ?_)
              obtain ⟨k_p, z_p⟩ := blk_one hB_p
              go_simp
              refine hK.out _ _ (MK.out _ (hU.set (p := ⟨q_p, 0, none⟩) hq_p _)) (fun hHeld => ?_)
              clear hK K k_p z_p
              (try simp only [Act.put, tz1, tz2, tz3])
              replace hU := hU.set (p := ⟨q_p, 0, none⟩) hq_p (.slice A5 S.length c5)
              replace R5 := R5.far hB_p (.slice A5 S.length c5)
              replace hB_q := (Below.heap_setCell _ ⟨q_p, 0, none⟩ (.slice A5 S.length c5) q_q (by simp; omega)).trans hB_q
              replace R6 := R6.far hB_p (.slice A5 S.length c5)
              replace hB_p := heap_setCell_same _ q_p 0 _ _ (.slice A5 S.length c5) hB_p
              generalize World.setCell _ ⟨q_p, 0, none⟩ (.slice A5 S.length c5) = s7 at *
              refine rd1 11 rfl (fun K hK => ?_)
              obtain ⟨k_q, z_q⟩ := blk_one hB_q
              go_simp
              refine hK.out _ _ (MK.out _ (hU.set (p := ⟨q_q, 0, none⟩) hq_q _)) (fun hHeld => ?_)
              clear hK K k_q z_q
              (try simp only [Act.put, tz1, tz2, tz3])
              replace hU := hU.set (p := ⟨q_q, 0, none⟩) hq_q (.slice A6 T.length c6)
              replace R5 := R5.far hB_q (.slice A6 T.length c6)
              replace R6 := R6.far hB_q (.slice A6 T.length c6)
              replace hB_p := (Below.heap_setCell _ ⟨q_q, 0, none⟩ (.slice A6 T.length c6) q_p (by simp; omega)).trans hB_p
              replace hB_q := heap_setCell_same _ q_q 0 _ _ (.slice A6 T.length c6) hB_q
              generalize World.setCell _ ⟨q_q, 0, none⟩ (.slice A6 T.length c6) = s8 at *
              refine wpAnyH_done (by kernel_rfl) ?_ _
              exact FIN A5 c5 A6 c6 A3 c3 A4 c4 q_p q_q s8 ⟨hU, hB_p, hB_q, R5, R6, hne_q_p.symm⟩
            · go_simp
              refine hK.out _ _ (MK.out _ (hU.alloc _)) (fun hHeld => ?_)
              clear hK K
              (try simp only [Act.put, tz1, tz2, tz3])
              have hB_p := heap_alloc_new y4 (.cells #[.slice none 0 0] 26)
              have ha := (Up.refl y4).alloc (.cells #[.slice none 0 0] 26)
              have hq_p := hU.le
              have hne_q_p : q_q ≠ y4.heap.size := by have := (Array.getElem?_eq_some_iff.1 hB_q).1; omega
              replace hU := hU.trans ha
              replace R5 := R5.up ha
              replace hB_q := ha.obj hB_q
              replace R4 := R4.up ha
              generalize y4.alloc (.cells #[.slice none 0 0] 26) = z5 at *
              generalize y4.heap.size = q_p at *
              clear ha
              refine rd1 7 rfl (fun K hK => ?_)
              go_simp
              go_at_call 35
              with_reducible refine (XB _ _ _ _ _ (HC.out.up hU) R4).out.mono ?_
              rintro e y6 ⟨A6, c6, rfl, R6, hu⟩
              clear R4
              refine hK.out _ _ (MK.out _ (hU.trans hu)) (fun hHeld => ?_)
              clear hK K
              (try simp only [Act.put, tz1, tz2, tz3])
              replace hU := hU.trans hu
              replace R5 := R5.up hu
              replace hB_q := hu.obj hB_q
              replace hB_p := hu.obj hB_p
              clear hu
              refine rd1 10 rfl (fun K hK => ?_)
              obtain ⟨k_p, z_p⟩ := blk_one hB_p
              go_simp
              refine hK.out _ _ (MK.out _ (hU.set (p := ⟨q_p, 0, none⟩) hq_p _)) (fun hHeld => ?_)
              clear hK K k_p z_p
              (try simp only [Act.put, tz1, tz2, tz3])
              replace hU := hU.set (p := ⟨q_p, 0, none⟩) hq_p (.slice A5 S.length c5)
              replace R5 := R5.far hB_p (.slice A5 S.length c5)
              replace hB_q := (Below.heap_setCell _ ⟨q_p, 0, none⟩ (.slice A5 S.length c5) q_q (by simp; omega)).trans hB_q
              replace R6 := R6.far hB_p (.slice A5 S.length c5)
              replace hB_p := heap_setCell_same _ q_p 0 _ _ (.slice A5 S.length c5) hB_p
              generalize World.setCell _ ⟨q_p, 0, none⟩ (.slice A5 S.length c5) = s7 at *
              refine rd1 11 rfl (fun K hK => ?_)
              obtain ⟨k_q, z_q⟩ := blk_one hB_q
              go_simp
              refine hK.out _ _ (MK.out _ (hU.set (p := ⟨q_q, 0, none⟩) hq_q _)) (fun hHeld => ?_)
              clear hK K k_q z_q
              (try simp only [Act.put, tz1, tz2, tz3])
              replace hU := hU.set (p := ⟨q_q, 0, none⟩) hq_q (.slice A6 T.length c6)
              replace R5 := R5.far hB_q (.slice A6 T.length c6)
              replace hB_p := (Below.heap_setCell _ ⟨q_q, 0, none⟩ (.slice A6 T.length c6) q_p (by simp; omega)).trans hB_p
              replace R6 := R6.far hB_q (.slice A6 T.length c6)
              replace hB_q := heap_setCell_same _ q_q 0 _ _ (.slice A6 T.length c6) hB_q
              generalize World.setCell _ ⟨q_q, 0, none⟩ (.slice A6 T.length c6) = s8 at *
              refine wpAnyH_done (by kernel_rfl) ?_ _
              exact FIN A5 c5 A6 c6 A3 c3 A4 c4 q_p q_q s8 ⟨hU, hB_p, hB_q, R5, R6, hne_q_p.symm⟩
          · go_simp
            refine hK.out _ _ (MK.out _ (hU.alloc _)) (fun hHeld => ?_)
            clear hK K
            (try simp only [Act.put, tz1, tz2, tz3])
            have hB_p := heap_alloc_new z3 (.cells #[.slice none 0 0] 26)
            have ha := (Up.refl z3).alloc (.cells #[.slice none 0 0] 26)
            have hq_p := hU.le
            have hne_q_p : q_q ≠ z3.heap.size := by have := (Array.getElem?_eq_some_iff.1 hB_q).1; omega
            replace hU := hU.trans ha
            replace R5 := R5.up ha
            replace hB_q := ha.obj hB_q
            generalize z3.alloc (.cells #[.slice none 0 0] 26) = z4 at *
            generalize z3.heap.size = q_p at *
            clear ha
            refine rd1 6 rfl (fun K hK => ?_)
            go_simp
            go_at_call 36
            with_reducible refine (RB _ (HRB.out.up hU)).out.mono ?_
            rintro e y5 ⟨_, rfl, ho, hu⟩
            obtain ⟨A4, c4, rfl, R4⟩ := Rd.of_own ho
            clear ho
            refine hK.out _ _ (MK.out _ (hU.trans hu)) (fun hHeld => ?_)
            clear hK K
            (try simp only [Act.put, tz1, tz2, tz3])
            replace hU := hU.trans hu
            replace R5 := R5.up hu
            replace hB_q := hu.obj hB_q
            replace hB_p := hu.obj hB_p
            clear hu
            refine rd1 7 rfl (fun K hK => ?_)
            go_simp
            go_at_call 35
            with_reducible refine (XB _ _ _ _ _ (HC.out.up hU) R4).out.mono ?_
            rintro e y6 ⟨A6, c6, rfl, R6, hu⟩
            clear R4
            refine hK.out _ _ (MK.out _ (hU.trans hu)) (fun hHeld => ?_)
            clear hK K
            (try simp only [Act.put, tz1, tz2, tz3])
            replace hU := hU.trans hu
            replace R5 := R5.up hu
            replace hB_q := hu.obj hB_q
            replace hB_p := hu.obj hB_p
            clear hu
            refine rd1 10 rfl (fun K hK => ?_)
            obtain ⟨k_p, z_p⟩ := blk_one hB_p
            go_simp
            refine hK.out _ _ (MK.out _ (hU.set (p := ⟨q_p, 0, none⟩) hq_p _)) (fun hHeld => ?_)
            clear hK K k_p z_p
            (try simp only [Act.put, tz1, tz2, tz3])
            replace hU := hU.set (p := ⟨q_p, 0, none⟩) hq_p (.slice A5 S.length c5)
            replace R5 := R5.far hB_p (.slice A5 S.length c5)
            replace hB_q := (Below.heap_setCell _ ⟨q_p, 0, none⟩ (.slice A5 S.length c5) q_q (by simp; omega)).trans hB_q
            replace R6 := R6.far hB_p (.slice A5 S.length c5)
            replace hB_p := heap_setCell_same _ q_p 0 _ _ (.slice A5 S.length c5) hB_p
            generalize World.setCell _ ⟨q_p, 0, none⟩ (.slice A5 S.length c5) = s7 at *
            refine rd1 11 rfl (fun K hK => ?_)
            obtain ⟨k_q, z_q⟩ := blk_one hB_q
            go_simp
            refine hK.out _ _ (MK.out _ (hU.set (p := ⟨q_q, 0, none⟩) hq_q _)) (fun hHeld => ?_)
            clear hK K k_q z_q
            (try simp only [Act.put, tz1, tz2, tz3])
            replace hU := hU.set (p := ⟨q_q, 0, none⟩) hq_q (.slice A6 T.length c6)
            replace R5 := R5.far hB_q (.slice A6 T.length c6)
            replace hB_p := (Below.heap_setCell _ ⟨q_q, 0, none⟩ (.slice A6 T.length c6) q_p (by simp; omega)).trans hB_p
            replace R6 := R6.far hB_q (.slice A6 T.length c6)
            replace hB_q := heap_setCell_same _ q_q 0 _ _ (.slice A6 T.length c6) hB_q
            generalize World.setCell _ ⟨q_q, 0, none⟩ (.slice A6 T.length c6) = s8 at *
            refine wpAnyH_done (by kernel_rfl) ?_ _
            exact FIN A5 c5 A6 c6 A3 c3 A4 c4 q_p q_q s8 ⟨hU, hB_p, hB_q, R5, R6, hne_q_p.symm⟩
      · go_simp
        refine hK.out _ _ (MK.out _ (hU.alloc _)) (fun hHeld => ?_)
        clear hK K
        (try simp only [Act.put, tz1, tz2, tz3])
        have hB_p := heap_alloc_new y1 (.cells #[.slice none 0 0] 26)
        have ha := (Up.refl y1).alloc (.cells #[.slice none 0 0] 26)
        have hq_p := hU.le
        replace hU := hU.trans ha
        replace R3 := R3.up ha
        generalize y1.alloc (.cells #[.slice none 0 0] 26) = z2 at *
        generalize y1.heap.size = q_p at *
        clear ha
        refine rd2 3 9 rfl rfl (fun K hK => ?_) (fun K hK => ?_)
        · go_simp
          go_at_call 35
          with_reducible refine (XA _ _ _ _ _ (HC.out.up hU) R3).out.mono ?_
          rintro e y3 ⟨A5, c5, rfl, R5, hu⟩
          clear R3
          refine hK.out _ _ (MK.out _ (hU.trans hu)) (fun hHeld => ?_)
          clear hK K
          (try simp only [Act.put, tz1, tz2, tz3])
          replace hU := hU.trans hu
          replace hB_p := hu.obj hB_p
          clear hu
          refine rd2 6 9 rfl rfl (fun K hK => ?_) (fun K hK => ?_)
          · go_simp
            go_at_call 36
            with_reducible refine (RB _ (HRB.out.up hU)).out.mono ?_
            rintro e y4 ⟨_, rfl, ho, hu⟩
            obtain ⟨A4, c4, rfl, R4⟩ := Rd.of_own ho
            clear ho
            refine hK.out _ _ (MK.out _ (hU.trans hu)) (fun hHeld => ?_)
            clear hK K
            (try simp only [Act.put, tz1, tz2, tz3])
            replace hU := hU.trans hu
            replace hB_p := hu.obj hB_p
            replace R5 := R5.up hu
            clear hu
            refine rd2 7 9 rfl rfl (fun K hK => ?_) (fun K hK => ?_)
            · go_simp
              go_at_call 35
              with_reducible refine (XB _ _ _ _ _ (HC.out.up hU) R4).out.mono ?_
              rintro e y5 ⟨A6, c6, rfl, R6, hu⟩
              clear R4
              refine hK.out _ _ (MK.out _ (hU.trans hu)) (fun hHeld => ?_)
              clear hK K
              (try simp only [Act.put, tz1, tz2, tz3])
              replace hU := hU.trans hu
              replace hB_p := hu.obj hB_p
              replace R5 := R5.up hu
              clear hu
              refine rd1 9 rfl (fun K hK => ?_)
              go_simp
              refine hK.out _ _ (MK.out _ (hU.alloc _)) (fun hHeld => ?_)
              clear hK K
              (try simp only [Act.put, tz1, tz2, tz3])
              have hB_q := heap_alloc_new y5 (.cells #[.slice none 0 0] 26)
              have ha := (Up.refl y5).alloc (.cells #[.slice none 0 0] 26)
              have hq_q := hU.le
              have hne_p_q : q_p ≠ y5.heap.size := by have := (Array.getElem?_eq_some_iff.1 hB_p).1; omega
              replace hU := hU.trans ha
              replace hB_p := ha.obj hB_p
              replace R5 := R5.up ha
              replace R6 := R6.up ha
              generalize y5.alloc (.cells #[.slice none 0 0] 26) = z6 at *
              generalize y5.heap.size = q_q at *
              clear ha
              refine rd1 10 rfl (fun K hK => ?_)
              obtain ⟨k_p, z_p⟩ := blk_one hB_p
              go_simp
              refine hK.out _ _ (MK.out _ (hU.set (p := ⟨q_p, 0, none⟩) hq_p _)) (fun hHeld => ?_)
              clear hK K k_p z_p
              (try simp only [Act.put, tz1, tz2, tz3])
              replace hU := hU.set (p := ⟨q_p, 0, none⟩) hq_p (.slice A5 S.length c5)
              replace R5 := R5.far hB_p (.slice A5 S.length c5)
              replace R6 := R6.far hB_p (.slice A5 S.length c5)
              replace hB_q := (Below.heap_setCell _ ⟨q_p, 0, none⟩ (.slice A5 S.length c5) q_q (by simp; omega)).trans hB_q
              replace hB_p := heap_setCell_same _ q_p 0 _ _ (.slice A5 S.length c5) hB_p
              generalize World.setCell _ ⟨q_p, 0, none⟩ (.slice A5 S.length c5) = s7 at *
              refine rd1 11 rfl (fun K hK => ?_)
              obtain ⟨k_q, z_q⟩ := blk_one hB_q
              go_simp
              refine hK.out _ _ (MK.out _ (hU.set (p := ⟨q_q, 0, none⟩) hq_q _)) (fun hHeld => ?_)
              clear hK K k_q z_q
              (try simp only [Act.put, tz1, tz2, tz3])
              replace hU := hU.set (p := ⟨q_q, 0, none⟩) hq_q (.slice A6 T.length c6)
              replace hB_p := (Below.heap_setCell _ ⟨q_q, 0, none⟩ (.slice A6 T.length c6) q_p (by simp; omega)).trans hB_p
              replace R5 := R5.far hB_q (.slice A6 T.length c6)
              replace R6 := R6.far hB_q (.slice A6 T.length c6)
              replace hB_q := heap_setCell_same _ q_q 0 _ _ (.slice A6 T.length c6) hB_q
              generalize World.setCell _ ⟨q_q, 0, none⟩ (.slice A6 T.length c6) = s8 at *
              refine wpAnyH_done (by kernel_rfl) ?_ _
              exact FIN A5 c5 A6 c6 A3 c3 A4 c4 q_p q_q s8 ⟨hU, hB_p, hB_q, R5, R6, hne_p_q⟩
            · go_simp
              refine hK.out _ _ (MK.out _ (hU.alloc _)) (fun hHeld => ?_)
              clear hK K
              (try simp only [Act.put, tz1, tz2, tz3])
              have hB_q := heap_alloc_new y4 (.cells #[.slice none 0 0] 26)
              have ha := (Up.refl y4).alloc (.cells #[.slice none 0 0] 26)
              have hq_q := hU.le
              have hne_p_q : q_p ≠ y4.heap.size := by have := (Array.getElem?_eq_some_iff.1 hB_p).1; omega
              replace hU := hU.trans ha
              replace hB_p := ha.obj hB_p
              replace R5 := R5.up ha
              replace R4 := R4.up ha
              generalize y4.alloc (.cells #[.slice none 0 0] 26) = z5 at *
              generalize y4.heap.size = q_q at *
              clear ha
              refine rd1 7 rfl (fun K hK => ?_)
              go_simp
              go_at_call 35
              with_reducible refine (XB _ _ _ _ _ (HC.out.up hU) R4).out.mono ?_
              rintro e y6 ⟨A6, c6, rfl, R6, hu⟩
              clear R4
              refine hK.out _ _ (MK.out _ (hU.trans hu)) (fun hHeld => ?_)
              clear hK K
              (try simp only [Act.put, tz1, tz2, tz3])
              replace hU := hU.trans hu
              replace hB_p := hu.obj hB_p
              replace R5 := R5.up hu
              replace hB_q := hu.obj hB_q
              clear hu
              refine rd1 10 rfl (fun K hK => ?_)
              obtain ⟨k_p, z_p⟩ := blk_one hB_p
              go_simp
              refine hK.out _ _ (MK.out _ (hU.set (p := ⟨q_p, 0, none⟩) hq_p _)) (fun hHeld => ?_)
              clear hK K k_p z_p
              (try simp only [Act.put, tz1, tz2, tz3])
              replace hU := hU.set (p := ⟨q_p, 0, none⟩) hq_p (.slice A5 S.length c5)
              replace R5 := R5.far hB_p (.slice A5 S.length c5)
              replace hB_q := (Below.heap_setCell _ ⟨q_p, 0, none⟩ (.slice A5 S.length c5) q_q (by simp; omega)).trans hB_q
              replace R6 := R6.far hB_p (.slice A5 S.length c5)
              replace hB_p := heap_setCell_same _ q_p 0 _ _ (.slice A5 S.length c5) hB_p
              generalize World.setCell _ ⟨q_p, 0, none⟩ (.slice A5 S.length c5) = s7 at *
              refine rd1 11 rfl (fun K hK => ?_)
              obtain ⟨k_q, z_q⟩ := blk_one hB_q
              go_simp
              refine hK.out _ _ (MK.out _ (hU.set (p := ⟨q_q, 0, none⟩) hq_q _)) (fun hHeld => ?_)
              clear hK K k_q z_q
              (try simp only [Act.put, tz1, tz2, tz3])
              replace hU := hU.set (p := ⟨q_q, 0, none⟩) hq_q (.slice A6 T.length c6)
              replace hB_p := (Below.heap_setCell _ ⟨q_q, 0, none⟩ (.slice A6 T.length c6) q_p (by simp; omega)).trans hB_p
              replace R5 := R5.far hB_q (.slice A6 T.length c6)
              replace R6 := R6.far hB_q (.slice A6 T.length c6)
              replace hB_q := heap_setCell_same _ q_q 0 _ _ (.slice A6 T.length c6) hB_q
              generalize World.setCell _ ⟨q_q, 0, none⟩ (.slice A6 T.length c6) = s8 at *
              refine wpAnyH_done (by kernel_rfl) ?_ _
              exact FIN A5 c5 A6 c6 A3 c3 A4 c4 q_p q_q s8 ⟨hU, hB_p, hB_q, R5, R6, hne_p_q⟩
          · go_simp
            refine hK.out _ _ (MK.out _ (hU.alloc _)) (fun hHeld => ?_)
            clear hK K
            (try simp only [Act.put, tz1, tz2, tz3])
            have hB_q := heap_alloc_new y3 (.cells #[.slice none 0 0] 26)
            have ha := (Up.refl y3).alloc (.cells #[.slice none 0 0] 26)
            have hq_q := hU.le
            have hne_p_q : q_p ≠ y3.heap.size := by have := (Array.getElem?_eq_some_iff.1 hB_p).1; omega
            replace hU := hU.trans ha
            replace hB_p := ha.obj hB_p
            replace R5 := R5.up ha
            generalize y3.alloc (.cells #[.slice none 0 0] 26) = z4 at *
            generalize y3.heap.size = q_q at *
            clear ha
            refine rd1 6 rfl (fun K hK => ?_)
            go_simp
            go_at_call 36
            with_reducible refine (RB _ (HRB.out.up hU)).out.mono ?_
            rintro e y5 ⟨_, rfl, ho, hu⟩
            obtain ⟨A4, c4, rfl, R4⟩ := Rd.of_own ho
            clear ho
            refine hK.out _ _ (MK.out _ (hU.trans hu)) (fun hHeld => ?_)
            clear hK K
            (try simp only [Act.put, tz1, tz2, tz3])
            replace hU := hU.trans hu
            replace hB_p := hu.obj hB_p
            replace R5 := R5.up hu
            replace hB_q := hu.obj hB_q
            clear hu
            refine rd1 7 rfl (fun K hK => ?_)
            go_simp
            go_at_call 35
            with_reducible refine (XB _ _ _ _ _ (HC.out.up hU) R4).out.mono ?_
            rintro e y6 ⟨A6, c6, rfl, R6, hu⟩
            clear R4
            refine hK.out _ _ (MK.out _ (hU.trans hu)) (fun hHeld => ?_)
            clear hK K
            (try simp only [Act.put, tz1, tz2, tz3])
            replace hU := hU.trans hu
            replace hB_p := hu.obj hB_p
            replace R5 := R5.up hu
            replace hB_q := hu.obj hB_q
            clear hu
            refine rd1 10 rfl (fun K hK => ?_)
            obtain ⟨k_p, z_p⟩ := blk_one hB_p
            go_simp
            refine hK.out _ _ (MK.out _ (hU.set (p := ⟨q_p, 0, none⟩) hq_p _)) (fun hHeld => ?_)
            clear hK K k_p z_p
            (try simp only [Act.put, tz1, tz2, tz3])
            replace hU := hU.set (p := ⟨q_p, 0, none⟩) hq_p (.slice A5 S.length c5)
            replace R5 := R5.far hB_p (.slice A5 S.length c5)
            replace hB_q := (Below.heap_setCell _ ⟨q_p, 0, none⟩ (.slice A5 S.length c5) q_q (by simp; omega)).trans hB_q
            replace R6 := R6.far hB_p (.slice A5 S.length c5)
            replace hB_p := heap_setCell_same _ q_p 0 _ _ (.slice A5 S.length c5) hB_p
            generalize World.setCell _ ⟨q_p, 0, none⟩ (.slice A5 S.length c5) = s7 at *
            refine rd1 11 rfl (fun K hK => ?_)
            obtain ⟨k_q, z_q⟩ := blk_one hB_q
            go_simp
            refine hK.out _ _ (MK.out _ (hU.set (p := ⟨q_q, 0, none⟩) hq_q _)) (fun hHeld => ?_)
            clear hK K k_q z_q
            (try simp only [Act.put, tz1, tz2, tz3])
            replace hU := hU.set (p := ⟨q_q, 0, none⟩) hq_q (.slice A6 T.length c6)
            replace hB_p := (Below.heap_setCell _ ⟨q_q, 0, none⟩ (.slice A6 T.length c6) q_p (by simp; omega)).trans hB_p
            replace R5 := R5.far hB_q (.slice A6 T.length c6)
            replace R6 := R6.far hB_q (.slice A6 T.length c6)
            replace hB_q := heap_setCell_same _ q_q 0 _ _ (.slice A6 T.length c6) hB_q
            generalize World.setCell _ ⟨q_q, 0, none⟩ (.slice A6 T.length c6) = s8 at *
            refine wpAnyH_done (by kernel_rfl) ?_ _
            exact FIN A5 c5 A6 c6 A3 c3 A4 c4 q_p q_q s8 ⟨hU, hB_p, hB_q, R5, R6, hne_p_q⟩
        · go_simp
          refine hK.out _ _ (MK.out _ (hU.alloc _)) (fun hHeld => ?_)
          clear hK K
          (try simp only [Act.put, tz1, tz2, tz3])
          have hB_q := heap_alloc_new z2 (.cells #[.slice none 0 0] 26)
          have ha := (Up.refl z2).alloc (.cells #[.slice none 0 0] 26)
          have hq_q := hU.le
          have hne_p_q : q_p ≠ z2.heap.size := by have := (Array.getElem?_eq_some_iff.1 hB_p).1; omega
          replace hU := hU.trans ha
          replace R3 := R3.up ha
          replace hB_p := ha.obj hB_p
          generalize z2.alloc (.cells #[.slice none 0 0] 26) = z3 at *
          generalize z2.heap.size = q_q at *
          clear ha
          refine rd1 3 rfl (fun K hK => ?_)
          go_simp
          go_at_call 35
          with_reducible refine (XA _ _ _ _ _ (HC.out.up hU) R3).out.mono ?_
          rintro e y4 ⟨A5, c5, rfl, R5, hu⟩
          clear R3
          refine hK.out _ _ (MK.out _ (hU.trans hu)) (fun hHeld => ?_)
          clear hK K
          (try simp only [Act.put, tz1, tz2, tz3])
          replace hU := hU.trans hu
          replace hB_p := hu.obj hB_p
          replace hB_q := hu.obj hB_q
          clear hu
          refine rd1 6 rfl (fun K hK => ?_)
          go_simp
          go_at_call 36
          with_reducible refine (RB _ (HRB.out.up hU)).out.mono ?_
          rintro e y5 ⟨_, rfl, ho, hu⟩
          obtain ⟨A4, c4, rfl, R4⟩ := Rd.of_own ho
          clear ho
          refine hK.out _ _ (MK.out _ (hU.trans hu)) (fun hHeld => ?_)
          clear hK K
          (try simp only [Act.put, tz1, tz2, tz3])
          replace hU := hU.trans hu
          replace hB_p := hu.obj hB_p
          replace hB_q := hu.obj hB_q
          replace R5 := R5.up hu
          clear hu
          refine rd1 7 rfl (fun K hK => ?_)
          go_simp
          go_at_call 35
          with_reducible refine (XB _ _ _ _ _ (HC.out.up hU) R4).out.mono ?_
          rintro e y6 ⟨A6, c6, rfl, R6, hu⟩
          clear R4
          refine hK.out _ _ (MK.out _ (hU.trans hu)) (fun hHeld => ?_)
          clear hK K
          (try simp only [Act.put, tz1, tz2, tz3])
          replace hU := hU.trans hu
          replace hB_p := hu.obj hB_p
          replace hB_q := hu.obj hB_q
          replace R5 := R5.up hu
          clear hu
          refine rd1 10 rfl (fun K hK => ?_)
          obtain ⟨k_p, z_p⟩ := blk_one hB_p
          go_simp
          refine hK.out _ _ (MK.out _ (hU.set (p := ⟨q_p, 0, none⟩) hq_p _)) (fun hHeld => ?_)
          clear hK K k_p z_p
          (try simp only [Act.put, tz1, tz2, tz3])
          replace hU := hU.set (p := ⟨q_p, 0, none⟩) hq_p (.slice A5 S.length c5)
          replace hB_q := (Below.heap_setCell _ ⟨q_p, 0, none⟩ (.slice A5 S.length c5) q_q (by simp; omega)).trans hB_q
          replace R5 := R5.far hB_p (.slice A5 S.length c5)
          replace R6 := R6.far hB_p (.slice A5 S.length c5)
          replace hB_p := heap_setCell_same _ q_p 0 _ _ (.slice A5 S.length c5) hB_p
          generalize World.setCell _ ⟨q_p, 0, none⟩ (.slice A5 S.length c5) = s7 at *
          refine rd1 11 rfl (fun K hK => ?_)
          obtain ⟨k_q, z_q⟩ := blk_one hB_q
          go_simp
          refine hK.out _ _ (MK.out _ (hU.set (p := ⟨q_q, 0, none⟩) hq_q _)) (fun hHeld => ?_)
          clear hK K k_q z_q
          (try simp only [Act.put, tz1, tz2, tz3])
          replace hU := hU.set (p := ⟨q_q, 0, none⟩) hq_q (.slice A6 T.length c6)
          replace hB_p := (Below.heap_setCell _ ⟨q_q, 0, none⟩ (.slice A6 T.length c6) q_p (by simp; omega)).trans hB_p
          replace R5 := R5.far hB_q (.slice A6 T.length c6)
          replace R6 := R6.far hB_q (.slice A6 T.length c6)
          replace hB_q := heap_setCell_same _ q_q 0 _ _ (.slice A6 T.length c6) hB_q
          generalize World.setCell _ ⟨q_q, 0, none⟩ (.slice A6 T.length c6) = s8 at *
          refine wpAnyH_done (by kernel_rfl) ?_ _
          exact FIN A5 c5 A6 c6 A3 c3 A4 c4 q_p q_q s8 ⟨hU, hB_p, hB_q, R5, R6, hne_p_q⟩
      · go_simp
        refine hK.out _ _ (MK.out _ (hU.alloc _)) (fun hHeld => ?_)
        clear hK K
        (try simp only [Act.put, tz1, tz2, tz3])
        have hB_q := heap_alloc_new y1 (.cells #[.slice none 0 0] 26)
        have ha := (Up.refl y1).alloc (.cells #[.slice none 0 0] 26)
        have hq_q := hU.le
        replace hU := hU.trans ha
        replace R3 := R3.up ha
        generalize y1.alloc (.cells #[.slice none 0 0] 26) = z2 at *
        generalize y1.heap.size = q_q at *
        clear ha
        refine rd2 3 8 rfl rfl (fun K hK => ?_) (fun K hK => ?_)
        · go_simp
          go_at_call 35
          with_reducible refine (XA _ _ _ _ _ (HC.out.up hU) R3).out.mono ?_
          rintro e y3 ⟨A5, c5, rfl, R5, hu⟩
          clear R3
          refine hK.out _ _ (MK.out _ (hU.trans hu)) (fun hHeld => ?_)
          clear hK K
          (try simp only [Act.put, tz1, tz2, tz3])
          replace hU := hU.trans hu
          replace hB_q := hu.obj hB_q
          clear hu
          refine rd2 6 8 rfl rfl (fun K hK => ?_) (fun K hK => ?_)
          · go_simp
            go_at_call 36
            with_reducible refine (RB _ (HRB.out.up hU)).out.mono ?_
            rintro e y4 ⟨_, rfl, ho, hu⟩
            obtain ⟨A4, c4, rfl, R4⟩ := Rd.of_own ho
            clear ho
            refine hK.out _ _ (MK.out _ (hU.trans hu)) (fun hHeld => ?_)
            clear hK K
            (try simp only [Act.put, tz1, tz2, tz3])
            replace hU := hU.trans hu
            replace hB_q := hu.obj hB_q
            replace R5 := R5.up hu
            clear hu
            refine rd2 7 8 rfl rfl (fun K hK => ?_) (fun K hK => ?_)
            · go_simp
              go_at_call 35
              with_reducible refine (XB _ _ _ _ _ (HC.out.up hU) R4).out.mono ?_
              rintro e y5 ⟨A6, c6, rfl, R6, hu⟩
              clear R4
              refine hK.out _ _ (MK.out _ (hU.trans hu)) (fun hHeld => ?_)
              clear hK K
              (try simp only [Act.put, tz1, tz2, tz3])
              replace hU := hU.trans hu
              replace hB_q := hu.obj hB_q
              replace R5 := R5.up hu
              clear hu
              refine rd1 8 rfl (fun K hK => ?_)
              go_simp
              refine hK.out _ _ (MK.out _ (hU.alloc _)) (fun hHeld => ?_)
              clear hK K
              (try simp only [Act.put, tz1, tz2, tz3])
              have hB_p := heap_alloc_new y5 (.cells #[.slice none 0 0] 26)
              have ha := (Up.refl y5).alloc (.cells #[.slice none 0 0] 26)
              have hq_p := hU.le
              have hne_q_p : q_q ≠ y5.heap.size := by have := (Array.getElem?_eq_some_iff.1 hB_q).1; omega
              replace hU := hU.trans ha
              replace hB_q := ha.obj hB_q
              replace R5 := R5.up ha
              replace R6 := R6.up ha
              generalize y5.alloc (.cells #[.slice none 0 0] 26) = z6 at *
              generalize y5.heap.size = q_p at *
              clear ha
              refine rd1 10 rfl (fun K hK => ?_)
              obtain ⟨k_p, z_p⟩ := blk_one hB_p
              go_simp
              refine hK.out _ _ (MK.out _ (hU.set (p := ⟨q_p, 0, none⟩) hq_p _)) (fun hHeld => ?_)
              clear hK K k_p z_p
              (try simp only [Act.put, tz1, tz2, tz3])
              replace hU := hU.set (p := ⟨q_p, 0, none⟩) hq_p (.slice A5 S.length c5)
              replace hB_q := (Below.heap_setCell _ ⟨q_p, 0, none⟩ (.slice A5 S.length c5) q_q (by simp; omega)).trans hB_q
              replace R5 := R5.far hB_p (.slice A5 S.length c5)
              replace R6 := R6.far hB_p (.slice A5 S.length c5)
              replace hB_p := heap_setCell_same _ q_p 0 _ _ (.slice A5 S.length c5) hB_p
              generalize World.setCell _ ⟨q_p, 0, none⟩ (.slice A5 S.length c5) = s7 at *
              refine rd1 11 rfl (fun K hK => ?_)
              obtain ⟨k_q, z_q⟩ := blk_one hB_q
              go_simp
              refine hK.out _ _ (MK.out _ (hU.set (p := ⟨q_q, 0, none⟩) hq_q _)) (fun hHeld => ?_)
              clear hK K k_q z_q
              (try simp only [Act.put, tz1, tz2, tz3])
              replace hU := hU.set (p := ⟨q_q, 0, none⟩) hq_q (.slice A6 T.length c6)
              replace R5 := R5.far hB_q (.slice A6 T.length c6)
              replace R6 := R6.far hB_q (.slice A6 T.length c6)
              replace hB_p := (Below.heap_setCell _ ⟨q_q, 0, none⟩ (.slice A6 T.length c6) q_p (by simp; omega)).trans hB_p
              replace hB_q := heap_setCell_same _ q_q 0 _ _ (.slice A6 T.length c6) hB_q
              generalize World.setCell _ ⟨q_q, 0, none⟩ (.slice A6 T.length c6) = s8 at *
              refine wpAnyH_done (by kernel_rfl) ?_ _
              exact FIN A5 c5 A6 c6 A3 c3 A4 c4 q_p q_q s8 ⟨hU, hB_p, hB_q, R5, R6, hne_q_p.symm⟩
            · go_simp
              refine hK.out _ _ (MK.out _ (hU.alloc _)) (fun hHeld => ?_)
              clear hK K
              (try simp only [Act.put, tz1, tz2, tz3])
              have hB_p := heap_alloc_new y4 (.cells #[.slice none 0 0] 26)
              have ha := (Up.refl y4).alloc (.cells #[.slice none 0 0] 26)
              have hq_p := hU.le
              have hne_q_p : q_q ≠ y4.heap.size := by have := (Array.getElem?_eq_some_iff.1 hB_q).1; omega
              replace hU := hU.trans ha
              replace hB_q := ha.obj hB_q
              replace R5 := R5.up ha
              replace R4 := R4.up ha
              generalize y4.alloc (.cells #[.slice none 0 0] 26) = z5 at *
              generalize y4.heap.size = q_p at *
              clear ha
              refine rd1 7 rfl (fun K hK => ?_)
              go_simp
              go_at_call 35
              with_reducible refine (XB _ _ _ _ _ (HC.out.up hU) R4).out.mono ?_
              rintro e y6 ⟨A6, c6, rfl, R6, hu⟩
              clear R4
              refine hK.out _ _ (MK.out _ (hU.trans hu)) (fun hHeld => ?_)
              clear hK K
              (try simp only [Act.put, tz1, tz2, tz3])
              replace hU := hU.trans hu
              replace hB_q := hu.obj hB_q
              replace R5 := R5.up hu
              replace hB_p := hu.obj hB_p
              clear hu
              refine rd1 10 rfl (fun K hK => ?_)
              obtain ⟨k_p, z_p⟩ := blk_one hB_p
              go_simp
              refine hK.out _ _ (MK.out _ (hU.set (p := ⟨q_p, 0, none⟩) hq_p _)) (fun hHeld => ?_)
              clear hK K k_p z_p
              (try simp only [Act.put, tz1, tz2, tz3])
              replace hU := hU.set (p := ⟨q_p, 0, none⟩) hq_p (.slice A5 S.length c5)
              replace hB_q := (Below.heap_setCell _ ⟨q_p, 0, none⟩ (.slice A5 S.length c5) q_q (by simp; omega)).trans hB_q
              replace R5 := R5.far hB_p (.slice A5 S.length c5)
              replace R6 := R6.far hB_p (.slice A5 S.length c5)
              replace hB_p := heap_setCell_same _ q_p 0 _ _ (.slice A5 S.length c5) hB_p
              generalize World.setCell _ ⟨q_p, 0, none⟩ (.slice A5 S.length c5) = s7 at *
              refine rd1 11 rfl (fun K hK => ?_)
              obtain ⟨k_q, z_q⟩ := blk_one hB_q
              go_simp
              refine hK.out _ _ (MK.out _ (hU.set (p := ⟨q_q, 0, none⟩) hq_q _)) (fun hHeld => ?_)
              clear hK K k_q z_q
              (try simp only [Act.put, tz1, tz2, tz3])
              replace hU := hU.set (p := ⟨q_q, 0, none⟩) hq_q (.slice A6 T.length c6)
              replace R5 := R5.far hB_q (.slice A6 T.length c6)
              replace hB_p := (Below.heap_setCell _ ⟨q_q, 0, none⟩ (.slice A6 T.length c6) q_p (by simp; omega)).trans hB_p
              replace R6 := R6.far hB_q (.slice A6 T.length c6)
              replace hB_q := heap_setCell_same _ q_q 0 _ _ (.slice A6 T.length c6) hB_q
              generalize World.setCell _ ⟨q_q, 0, none⟩ (.slice A6 T.length c6) = s8 at *
              refine wpAnyH_done (by kernel_rfl) ?_ _
              exact FIN A5 c5 A6 c6 A3 c3 A4 c4 q_p q_q s8 ⟨hU, hB_p, hB_q, R5, R6, hne_q_p.symm⟩
          · go_simp
            refine hK.out _ _ (MK.out _ (hU.alloc _)) (fun hHeld => ?_)
            clear hK K
            (try simp only [Act.put, tz1, tz2, tz3])
            have hB_p := heap_alloc_new y3 (.cells #[.slice none 0 0] 26)
            have ha := (Up.refl y3).alloc (.cells #[.slice none 0 0] 26)
            have hq_p := hU.le
            have hne_q_p : q_q ≠ y3.heap.size := by have := (Array.getElem?_eq_some_iff.1 hB_q).1; omega
            replace hU := hU.trans ha
            replace hB_q := ha.obj hB_q
            replace R5 := R5.up ha
            generalize y3.alloc (.cells #[.slice none 0 0] 26) = z4 at *
            generalize y3.heap.size = q_p at *
            clear ha
            refine rd1 6 rfl (fun K hK => ?_)
            go_simp
            go_at_call 36
            with_reducible refine (RB _ (HRB.out.up hU)).out.mono ?_
            rintro e y5 ⟨_, rfl, ho, hu⟩
            obtain ⟨A4, c4, rfl, R4⟩ := Rd.of_own ho
            clear ho
            refine hK.out _ _ (MK.out _ (hU.trans hu)) (fun hHeld => ?_)
            clear hK K
            (try simp only [Act.put, tz1, tz2, tz3])
            replace hU := hU.trans hu
            replace hB_q := hu.obj hB_q
            replace R5 := R5.up hu
            replace hB_p := hu.obj hB_p
            clear hu
            refine rd1 7 rfl (fun K hK => ?_)
            go_simp
            go_at_call 35
            with_reducible refine (XB _ _ _ _ _ (HC.out.up hU) R4).out.mono ?_
            rintro e y6 ⟨A6, c6, rfl, R6, hu⟩
            clear R4
            refine hK.out _ _ (MK.out _ (hU.trans hu)) (fun hHeld => ?_)
            clear hK K
            (try simp only [Act.put, tz1, tz2, tz3])
            replace hU := hU.trans hu
            replace hB_q := hu.obj hB_q
            replace R5 := R5.up hu
            replace hB_p := hu.obj hB_p
            clear hu
            refine rd1 10 rfl (fun K hK => ?_)
            obtain ⟨k_p, z_p⟩ := blk_one hB_p
            go_simp
            refine hK.out _ _ (MK.out _ (hU.set (p := ⟨q_p, 0, none⟩) hq_p _)) (fun hHeld => ?_)
            clear hK K k_p z_p
            (try simp only [Act.put, tz1, tz2, tz3])
            replace hU := hU.set (p := ⟨q_p, 0, none⟩) hq_p (.slice A5 S.length c5)
            replace hB_q := (Below.heap_setCell _ ⟨q_p, 0, none⟩ (.slice A5 S.length c5) q_q (by simp; omega)).trans hB_q
            replace R5 := R5.far hB_p (.slice A5 S.length c5)
            replace R6 := R6.far hB_p (.slice A5 S.length c5)
            replace hB_p := heap_setCell_same _ q_p 0 _ _ (.slice A5 S.length c5) hB_p
            generalize World.setCell _ ⟨q_p, 0, none⟩ (.slice A5 S.length c5) = s7 at *
            refine rd1 11 rfl (fun K hK => ?_)
            obtain ⟨k_q, z_q⟩ := blk_one hB_q
            go_simp
            refine hK.out _ _ (MK.out _ (hU.set (p := ⟨q_q, 0, none⟩) hq_q _)) (fun hHeld => ?_)
            clear hK K k_q z_q
            (try simp only [Act.put, tz1, tz2, tz3])
            replace hU := hU.set (p := ⟨q_q, 0, none⟩) hq_q (.slice A6 T.length c6)
            replace R5 := R5.far hB_q (.slice A6 T.length c6)
            replace hB_p := (Below.heap_setCell _ ⟨q_q, 0, none⟩ (.slice A6 T.length c6) q_p (by simp; omega)).trans hB_p
            replace R6 := R6.far hB_q (.slice A6 T.length c6)
            replace hB_q := heap_setCell_same _ q_q 0 _ _ (.slice A6 T.length c6) hB_q
            generalize World.setCell _ ⟨q_q, 0, none⟩ (.slice A6 T.length c6) = s8 at *
            refine wpAnyH_done (by kernel_rfl) ?_ _
            exact FIN A5 c5 A6 c6 A3 c3 A4 c4 q_p q_q s8 ⟨hU, hB_p, hB_q, R5, R6, hne_q_p.symm⟩
        · go_simp
          refine hK.out _ _ (MK.out _ (hU.alloc _)) (fun hHeld => ?_)
          clear hK K
          (try simp only [Act.put, tz1, tz2, tz3])
          have hB_p := heap_alloc_new z2 (.cells #[.slice none 0 0] 26)
          have ha := (Up.refl z2).alloc (.cells #[.slice none 0 0] 26)
          have hq_p := hU.le
          have hne_q_p : q_q ≠ z2.heap.size := by have := (Array.getElem?_eq_some_iff.1 hB_q).1; omega
          replace hU := hU.trans ha
          replace R3 := R3.up ha
          replace hB_q := ha.obj hB_q
          generalize z2.alloc (.cells #[.slice none 0 0] 26) = z3 at *
          generalize z2.heap.size = q_p at *
          clear ha
          refine rd1 3 rfl (fun K hK => ?_)
          go_simp
          go_at_call 35
          with_reducible refine (XA _ _ _ _ _ (HC.out.up hU) R3).out.mono ?_
          rintro e y4 ⟨A5, c5, rfl, R5, hu⟩
          clear R3
          refine hK.out _ _ (MK.out _ (hU.trans hu)) (fun hHeld => ?_)
          clear hK K
          (try simp only [Act.put, tz1, tz2, tz3])
          replace hU := hU.trans hu
          replace hB_q := hu.obj hB_q
          replace hB_p := hu.obj hB_p
          clear hu
          refine rd1 6 rfl (fun K hK => ?_)
          go_simp
          go_at_call 36
          with_reducible refine (RB _ (HRB.out.up hU)).out.mono ?_
          rintro e y5 ⟨_, rfl, ho, hu⟩
          obtain ⟨A4, c4, rfl, R4⟩ := Rd.of_own ho
          clear ho
          refine hK.out _ _ (MK.out _ (hU.trans hu)) (fun hHeld => ?_)
          clear hK K
          (try simp only [Act.put, tz1, tz2, tz3])
          replace hU := hU.trans hu
          replace hB_q := hu.obj hB_q
          replace hB_p := hu.obj hB_p
          replace R5 := R5.up hu
          clear hu
          refine rd1 7 rfl (fun K hK => ?_)
          go_simp
          go_at_call 35
          with_reducible refine (XB _ _ _ _ _ (HC.out.up hU) R4).out.mono ?_
          rintro e y6 ⟨A6, c6, rfl, R6, hu⟩
          clear R4
          refine hK.out _ _ (MK.out _ (hU.trans hu)) (fun hHeld => ?_)
          clear hK K
          (try simp only [Act.put, tz1, tz2, tz3])
          replace hU := hU.trans hu
          replace hB_q := hu.obj hB_q
          replace hB_p := hu.obj hB_p
          replace R5 := R5.up hu
          clear hu
          refine rd1 10 rfl (fun K hK => ?_)
          obtain ⟨k_p, z_p⟩ := blk_one hB_p
          go_simp
          refine hK.out _ _ (MK.out _ (hU.set (p := ⟨q_p, 0, none⟩) hq_p _)) (fun hHeld => ?_)
          clear hK K k_p z_p
          (try simp only [Act.put, tz1, tz2, tz3])
          replace hU := hU.set (p := ⟨q_p, 0, none⟩) hq_p (.slice A5 S.length c5)
          replace hB_q := (Below.heap_setCell _ ⟨q_p, 0, none⟩ (.slice A5 S.length c5) q_q (by simp; omega)).trans hB_q
          replace R5 := R5.far hB_p (.slice A5 S.length c5)
          replace R6 := R6.far hB_p (.slice A5 S.length c5)
          replace hB_p := heap_setCell_same _ q_p 0 _ _ (.slice A5 S.length c5) hB_p
          generalize World.setCell _ ⟨q_p, 0, none⟩ (.slice A5 S.length c5) = s7 at *
          refine rd1 11 rfl (fun K hK => ?_)
          obtain ⟨k_q, z_q⟩ := blk_one hB_q
          go_simp
          refine hK.out _ _ (MK.out _ (hU.set (p := ⟨q_q, 0, none⟩) hq_q _)) (fun hHeld => ?_)
          clear hK K k_q z_q
          (try simp only [Act.put, tz1, tz2, tz3])
          replace hU := hU.set (p := ⟨q_q, 0, none⟩) hq_q (.slice A6 T.length c6)
          replace hB_p := (Below.heap_setCell _ ⟨q_q, 0, none⟩ (.slice A6 T.length c6) q_p (by simp; omega)).trans hB_p
          replace R5 := R5.far hB_q (.slice A6 T.length c6)
          replace R6 := R6.far hB_q (.slice A6 T.length c6)
          replace hB_q := heap_setCell_same _ q_q 0 _ _ (.slice A6 T.length c6) hB_q
          generalize World.setCell _ ⟨q_q, 0, none⟩ (.slice A6 T.length c6) = s8 at *
          refine wpAnyH_done (by kernel_rfl) ?_ _
          exact FIN A5 c5 A6 c6 A3 c3 A4 c4 q_p q_q s8 ⟨hU, hB_p, hB_q, R5, R6, hne_q_p.symm⟩
    · go_simp
      refine hK.out _ _ (MK.out _ (hU.alloc _)) (fun hHeld => ?_)
      clear hK K
      (try simp only [Act.put, tz1, tz2, tz3])
      have hB_p := heap_alloc_new y0 (.cells #[.slice none 0 0] 26)
      have ha := (Up.refl y0).alloc (.cells #[.slice none 0 0] 26)
      have hq_p := hU.le
      replace hU := hU.trans ha
      generalize y0.alloc (.cells #[.slice none 0 0] 26) = z1 at *
      generalize y0.heap.size = q_p at *
      clear ha
      refine rd2 2 9 rfl rfl (fun K hK => ?_) (fun K hK => ?_)
      · go_simp
        go_at_call 36
        with_reducible refine (RA _ (HRA.out.up hU)).out.mono ?_
        rintro e y2 ⟨_, rfl, ho, hu⟩
        obtain ⟨A3, c3, rfl, R3⟩ := Rd.of_own ho
        clear ho
        refine hK.out _ _ (MK.out _ (hU.trans hu)) (fun hHeld => ?_)
        clear hK K
        (try simp only [Act.put, tz1, tz2, tz3])
        replace hU := hU.trans hu
        replace hB_p := hu.obj hB_p
        clear hu
        refine rd2 3 9 rfl rfl (fun K hK => ?_) (fun K hK => ?_)
        · go_simp
          go_at_call 35
          with_reducible refine (XA _ _ _ _ _ (HC.out.up hU) R3).out.mono ?_
          rintro e y3 ⟨A5, c5, rfl, R5, hu⟩
          clear R3
          refine hK.out _ _ (MK.out _ (hU.trans hu)) (fun hHeld => ?_)
          clear hK K
          (try simp only [Act.put, tz1, tz2, tz3])
          replace hU := hU.trans hu
          replace hB_p := hu.obj hB_p
          clear hu
          refine rd2 6 9 rfl rfl (fun K hK => ?_) (fun K hK => ?_)
          · go_simp
            go_at_call 36
            with_reducible refine (RB _ (HRB.out.up hU)).out.mono ?_
            rintro e y4 ⟨_, rfl, ho, hu⟩
            obtain ⟨A4, c4, rfl, R4⟩ := Rd.of_own ho
            clear ho
            refine hK.out _ _ (MK.out _ (hU.trans hu)) (fun hHeld => ?_)
            clear hK K
            (try simp only [Act.put, tz1, tz2, tz3])
            replace hU := hU.trans hu
            replace hB_p := hu.obj hB_p
            replace R5 := R5.up hu
            clear hu
            refine rd2 7 9 rfl rfl (fun K hK => ?_) (fun K hK => ?_)
            · go_simp
              go_at_call 35
              with_reducible refine (XB _ _ _ _ _ (HC.out.up hU) R4).out.mono ?_
              rintro e y5 ⟨A6, c6, rfl, R6, hu⟩
              clear R4
              refine hK.out _ _ (MK.out _ (hU.trans hu)) (fun hHeld => ?_)
              clear hK K
              (try simp only [Act.put, tz1, tz2, tz3])
              replace hU := hU.trans hu
              replace hB_p := hu.obj hB_p
              replace R5 := R5.up hu
              clear hu
              refine rd1 9 rfl (fun K hK => ?_)
              go_simp
              refine hK.out _ _ (MK.out _ (hU.alloc _)) (fun hHeld => ?_)
              clear hK K
              (try simp only [Act.put, tz1, tz2, tz3])
              have hB_q := heap_alloc_new y5 (.cells #[.slice none 0 0] 26)
              have ha := (Up.refl y5).alloc (.cells #[.slice none 0 0] 26)
              have hq_q := hU.le
              have hne_p_q : q_p ≠ y5.heap.size := by have := (Array.getElem?_eq_some_iff.1 hB_p).1; omega
              replace hU := hU.trans ha
              replace hB_p := ha.obj hB_p
              replace R5 := R5.up ha
              replace R6 := R6.up ha
              generalize y5.alloc (.cells #[.slice none 0 0] 26) = z6 at *
              generalize y5.heap.size = q_q at *
              clear ha
              refine rd1 10 rfl (fun K hK => ?_)
              obtain ⟨k_p, z_p⟩ := blk_one hB_p
              go_simp
              refine hK.out _ _ (MK.out _ (hU.set (p := ⟨q_p, 0, none⟩) hq_p _)) (fun hHeld => ?_)
              clear hK K k_p z_p
              (try simp only [Act.put, tz1, tz2, tz3])
              replace hU := hU.set (p := ⟨q_p, 0, none⟩) hq_p (.slice A5 S.length c5)
              replace R5 := R5.far hB_p (.slice A5 S.length c5)
              replace R6 := R6.far hB_p (.slice A5 S.length c5)
              replace hB_q := (Below.heap_setCell _ ⟨q_p, 0, none⟩ (.slice A5 S.length c5) q_q (by simp; omega)).trans hB_q
              replace hB_p := heap_setCell_same _ q_p 0 _ _ (.slice A5 S.length c5) hB_p
              generalize World.setCell _ ⟨q_p, 0, none⟩ (.slice A5 S.length c5) = s7 at *
              refine rd1 11 rfl (fun K hK => ?_)
              obtain ⟨k_q, z_q⟩ := blk_one hB_q
              go_simp
              refine hK.out _ _ (MK.out _ (hU.set (p := ⟨q_q, 0, none⟩) hq_q _)) (fun hHeld => ?_)
              clear hK K k_q z_q
              (try simp only [Act.put, tz1, tz2, tz3])
              replace hU := hU.set (p := ⟨q_q, 0, none⟩) hq_q (.slice A6 T.length c6)
              replace hB_p := (Below.heap_setCell _ ⟨q_q, 0, none⟩ (.slice A6 T.length c6) q_p (by simp; omega)).trans hB_p
              replace R5 := R5.far hB_q (.slice A6 T.length c6)
              replace R6 := R6.far hB_q (.slice A6 T.length c6)
              replace hB_q := heap_setCell_same _ q_q 0 _ _ (.slice A6 T.length c6) hB_q
              generalize World.setCell _ ⟨q_q, 0, none⟩ (.slice A6 T.length c6) = s8 at *
              refine wpAnyH_done (by kernel_rfl) ?_ _
              exact FIN A5 c5 A6 c6 A3 c3 A4 c4 q_p q_q s8 ⟨hU, hB_p, hB_q, R5, R6, hne_p_q⟩
            · go_simp
              refine hK.out _ _ (MK.out _ (hU.alloc _)) (fun hHeld => ?_)
              clear hK K
              (try simp only [Act.put, tz1, tz2, tz3])
              have hB_q := heap_alloc_new y4 (.cells #[.slice none 0 0] 26)
              have ha := (Up.refl y4).alloc (.cells #[.slice none 0 0] 26)
              have hq_q := hU.le
              have hne_p_q : q_p ≠ y4.heap.size := by have := (Array.getElem?_eq_some_iff.1 hB_p).1; omega
              replace hU := hU.trans ha
              replace hB_p := ha.obj hB_p
              replace R5 := R5.up ha
              replace R4 := R4.up ha
              generalize y4.alloc (.cells #[.slice none 0 0] 26) = z5 at *
              generalize y4.heap.size = q_q at *
              clear ha
              refine rd1 7 rfl (fun K hK => ?_)
              go_simp
              go_at_call 35
              with_reducible refine (XB _ _ _ _ _ (HC.out.up hU) R4).out.mono ?_
              rintro e y6 ⟨A6, c6, rfl, R6, hu⟩
              clear R4
              refine hK.out _ _ (MK.out _ (hU.trans hu)) (fun hHeld => ?_)
              clear hK K
              (try simp only [Act.put, tz1, tz2, tz3])
              replace hU := hU.trans hu
              replace hB_p := hu.obj hB_p
              replace R5 := R5.up hu
              replace hB_q := hu.obj hB_q
              clear hu
              refine rd1 10 rfl (fun K hK => ?_)
              obtain ⟨k_p, z_p⟩ := blk_one hB_p
              go_simp
              refine hK.out _ _ (MK.out _ (hU.set (p := ⟨q_p, 0, none⟩) hq_p _)) (fun hHeld => ?_)
              clear hK K k_p z_p
              (try simp only [Act.put, tz1, tz2, tz3])
              replace hU := hU.set (p := ⟨q_p, 0, none⟩) hq_p (.slice A5 S.length c5)
              replace R5 := R5.far hB_p (.slice A5 S.length c5)
              replace hB_q := (Below.heap_setCell _ ⟨q_p, 0, none⟩ (.slice A5 S.length c5) q_q (by simp; omega)).trans hB_q
              replace R6 := R6.far hB_p (.slice A5 S.length c5)
              replace hB_p := heap_setCell_same _ q_p 0 _ _ (.slice A5 S.length c5) hB_p
              generalize World.setCell _ ⟨q_p, 0, none⟩ (.slice A5 S.length c5) = s7 at *
              refine rd1 11 rfl (fun K hK => ?_)
              obtain ⟨k_q, z_q⟩ := blk_one hB_q
              go_simp
              refine hK.out _ _ (MK.out _ (hU.set (p := ⟨q_q, 0, none⟩) hq_q _)) (fun hHeld => ?_)
              clear hK K k_q z_q
              (try simp only [Act.put, tz1, tz2, tz3])
              replace hU := hU.set (p := ⟨q_q, 0, none⟩) hq_q (.slice A6 T.length c6)
              replace hB_p := (Below.heap_setCell _ ⟨q_q, 0, none⟩ (.slice A6 T.length c6) q_p (by simp; omega)).trans hB_p
              replace R5 := R5.far hB_q (.slice A6 T.length c6)
              replace R6 := R6.far hB_q (.slice A6 T.length c6)
              replace hB_q := heap_setCell_same _ q_q 0 _ _ (.slice A6 T.length c6) hB_q
              generalize World.setCell _ ⟨q_q, 0, none⟩ (.slice A6 T.length c6) = s8 at *
              refine wpAnyH_done (by kernel_rfl) ?_ _
              exact FIN A5 c5 A6 c6 A3 c3 A4 c4 q_p q_q s8 ⟨hU, hB_p, hB_q, R5, R6, hne_p_q⟩
          · go_simp
            refine hK.out _ _ (MK.out _ (hU.alloc _)) (fun hHeld => ?_)
            clear hK K
            (try simp only [Act.put, tz1, tz2, tz3])
            have hB_q := heap_alloc_new y3 (.cells #[.slice none 0 0] 26)
            have ha := (Up.refl y3).alloc (.cells #[.slice none 0 0] 26)
            have hq_q := hU.le
            have hne_p_q : q_p ≠ y3.heap.size := by have := (Array.getElem?_eq_some_iff.1 hB_p).1; omega
            replace hU := hU.trans ha
            replace hB_p := ha.obj hB_p
            replace R5 := R5.up ha
            generalize y3.alloc (.cells #[.slice none 0 0] 26) = z4 at *
            generalize y3.heap.size = q_q at *
            clear ha
            refine rd1 6 rfl (fun K hK => ?_)
            go_simp
            go_at_call 36
            with_reducible refine (RB _ (HRB.out.up hU)).out.mono ?_
            rintro e y5 ⟨_, rfl, ho, hu⟩
            obtain ⟨A4, c4, rfl, R4⟩ := Rd.of_own ho
            clear ho
            refine hK.out _ _ (MK.out _ (hU.trans hu)) (fun hHeld => ?_)
            clear hK K
            (try simp only [Act.put, tz1, tz2, tz3])
            replace hU := hU.trans hu
            replace hB_p := hu.obj hB_p
            replace R5 := R5.up hu
            replace hB_q := hu.obj hB_q
            clear hu
            refine rd1 7 rfl (fun K hK => ?_)
            go_simp
            go_at_call 35
            with_reducible refine (XB _ _ _ _ _ (HC.out.up hU) R4).out.mono ?_
            rintro e y6 ⟨A6, c6, rfl, R6, hu⟩
            clear R4
            refine hK.out _ _ (MK.out _ (hU.trans hu)) (fun hHeld => ?_)
            clear hK K
            (try simp only [Act.put, tz1, tz2, tz3])
            replace hU := hU.trans hu
            replace hB_p := hu.obj hB_p
            replace R5 := R5.up hu
            replace hB_q := hu.obj hB_q
            clear hu
            refine rd1 10 rfl (fun K hK => ?_)
            obtain ⟨k_p, z_p⟩ := blk_one hB_p
            go_simp
            refine hK.out _ _ (MK.out _ (hU.set (p := ⟨q_p, 0, none⟩) hq_p _)) (fun hHeld => ?_)
            clear hK K k_p z_p
            (try simp only [Act.put, tz1, tz2, tz3])
            replace hU := hU.set (p := ⟨q_p, 0, none⟩) hq_p (.slice A5 S.length c5)
            replace R5 := R5.far hB_p (.slice A5 S.length c5)
            replace hB_q := (Below.heap_setCell _ ⟨q_p, 0, none⟩ (.slice A5 S.length c5) q_q (by simp; omega)).trans hB_q
            replace R6 := R6.far hB_p (.slice A5 S.length c5)
            replace hB_p := heap_setCell_same _ q_p 0 _ _ (.slice A5 S.length c5) hB_p
            generalize World.setCell _ ⟨q_p, 0, none⟩ (.slice A5 S.length c5) = s7 at *
            refine rd1 11 rfl (fun K hK => ?_)
            obtain ⟨k_q, z_q⟩ := blk_one hB_q
            go_simp
            refine hK.out _ _ (MK.out _ (hU.set (p := ⟨q_q, 0, none⟩) hq_q _)) (fun hHeld => ?_)
            clear hK K k_q z_q
            (try simp only [Act.put, tz1, tz2, tz3])
            replace hU := hU.set (p := ⟨q_q, 0, none⟩) hq_q (.slice A6 T.length c6)
            replace hB_p := (Below.heap_setCell _ ⟨q_q, 0, none⟩ (.slice A6 T.length c6) q_p (by simp; omega)).trans hB_p
            replace R5 := R5.far hB_q (.slice A6 T.length c6)
            replace R6 := R6.far hB_q (.slice A6 T.length c6)
            replace hB_q := heap_setCell_same _ q_q 0 _ _ (.slice A6 T.length c6) hB_q
            generalize World.setCell _ ⟨q_q, 0, none⟩ (.slice A6 T.length c6) = s8 at *
            refine wpAnyH_done (by kernel_rfl) ?_ _
            exact FIN A5 c5 A6 c6 A3 c3 A4 c4 q_p q_q s8 ⟨hU, hB_p, hB_q, R5, R6, hne_p_q⟩
        · go_simp
          refine hK.out _ _ (MK.out _ (hU.alloc _)) (fun hHeld => ?_)
          clear hK K
          (try simp only [Act.put, tz1, tz2, tz3])
          have hB_q := heap_alloc_new y2 (.cells #[.slice none 0 0] 26)
          have ha := (Up.refl y2).alloc (.cells #[.slice none 0 0] 26)
          have hq_q := hU.le
          have hne_p_q : q_p ≠ y2.heap.size := by have := (Array.getElem?_eq_some_iff.1 hB_p).1; omega
          replace hU := hU.trans ha
          replace hB_p := ha.obj hB_p
          replace R3 := R3.up ha
          generalize y2.alloc (.cells #[.slice none 0 0] 26) = z3 at *
          generalize y2.heap.size = q_q at *
          clear ha
          refine rd1 3 rfl (fun K hK => ?_)
          go_simp
          go_at_call 35
          with_reducible refine (XA _ _ _ _ _ (HC.out.up hU) R3).out.mono ?_
          rintro e y4 ⟨A5, c5, rfl, R5, hu⟩
          clear R3
          refine hK.out _ _ (MK.out _ (hU.trans hu)) (fun hHeld => ?_)
          clear hK K
          (try simp only [Act.put, tz1, tz2, tz3])
          replace hU := hU.trans hu
          replace hB_p := hu.obj hB_p
          replace hB_q := hu.obj hB_q
          clear hu
          refine rd1 6 rfl (fun K hK => ?_)
          go_simp
          go_at_call 36
          with_reducible refine (RB _ (HRB.out.up hU)).out.mono ?_
          rintro e y5 ⟨_, rfl, ho, hu⟩
          obtain ⟨A4, c4, rfl, R4⟩ := Rd.of_own ho
          clear ho
          refine hK.out _ _ (MK.out _ (hU.trans hu)) (fun hHeld => ?_)
          clear hK K
          (try simp only [Act.put, tz1, tz2, tz3])
          replace hU := hU.trans hu
          replace hB_p := hu.obj hB_p
          replace hB_q := hu.obj hB_q
          replace R5 := R5.up hu
          clear hu
          refine rd1 7 rfl (fun K hK => ?_)
          go_simp
          go_at_call 35
          with_reducible refine (XB _ _ _ _ _ (HC.out.up hU) R4).out.mono ?_
          rintro e y6 ⟨A6, c6, rfl, R6, hu⟩
          clear R4
          refine hK.out _ _ (MK.out _ (hU.trans hu)) (fun hHeld => ?_)
          clear hK K
          (try simp only [Act.put, tz1, tz2, tz3])
          replace hU := hU.trans hu
          replace hB_p := hu.obj hB_p
          replace hB_q := hu.obj hB_q
          replace R5 := R5.up hu
          clear hu
          refine rd1 10 rfl (fun K hK => ?_)
          obtain ⟨k_p, z_p⟩ := blk_one hB_p
          go_simp
          refine hK.out _ _ (MK.out _ (hU.set (p := ⟨q_p, 0, none⟩) hq_p _)) (fun hHeld => ?_)
          clear hK K k_p z_p
          (try simp only [Act.put, tz1, tz2, tz3])
          replace hU := hU.set (p := ⟨q_p, 0, none⟩) hq_p (.slice A5 S.length c5)
          replace hB_q := (Below.heap_setCell _ ⟨q_p, 0, none⟩ (.slice A5 S.length c5) q_q (by simp; omega)).trans hB_q
          replace R5 := R5.far hB_p (.slice A5 S.length c5)
          replace R6 := R6.far hB_p (.slice A5 S.length c5)
          replace hB_p := heap_setCell_same _ q_p 0 _ _ (.slice A5 S.length c5) hB_p
          generalize World.setCell _ ⟨q_p, 0, none⟩ (.slice A5 S.length c5) = s7 at *
          refine rd1 11 rfl (fun K hK => ?_)
          obtain ⟨k_q, z_q⟩ := blk_one hB_q
          go_simp
          refine hK.out _ _ (MK.out _ (hU.set (p := ⟨q_q, 0, none⟩) hq_q _)) (fun hHeld => ?_)
          clear hK K k_q z_q
          (try simp only [Act.put, tz1, tz2, tz3])
          replace hU := hU.set (p := ⟨q_q, 0, none⟩) hq_q (.slice A6 T.length c6)
          replace hB_p := (Below.heap_setCell _ ⟨q_q, 0, none⟩ (.slice A6 T.length c6) q_p (by simp; omega)).trans hB_p
          replace R5 := R5.far hB_q (.slice A6 T.length c6)
          replace R6 := R6.far hB_q (.slice A6 T.length c6)
          replace hB_q := heap_setCell_same _ q_q 0 _ _ (.slice A6 T.length c6) hB_q
          generalize World.setCell _ ⟨q_q, 0, none⟩ (.slice A6 T.length c6) = s8 at *
          refine wpAnyH_done (by kernel_rfl) ?_ _
          exact FIN A5 c5 A6 c6 A3 c3 A4 c4 q_p q_q s8 ⟨hU, hB_p, hB_q, R5, R6, hne_p_q⟩
      · go_simp
        refine hK.out _ _ (MK.out _ (hU.alloc _)) (fun hHeld => ?_)
        clear hK K
        (try simp only [Act.put, tz1, tz2, tz3])
        have hB_q := heap_alloc_new z1 (.cells #[.slice none 0 0] 26)
        have ha := (Up.refl z1).alloc (.cells #[.slice none 0 0] 26)
        have hq_q := hU.le
        have hne_p_q : q_p ≠ z1.heap.size := by have := (Array.getElem?_eq_some_iff.1 hB_p).1; omega
        replace hU := hU.trans ha
        replace hB_p := ha.obj hB_p
        generalize z1.alloc (.cells #[.slice none 0 0] 26) = z2 at *
        generalize z1.heap.size = q_q at *
        clear ha
        refine rd1 2 rfl (fun K hK => ?_)
        go_simp
        go_at_call 36
        with_reducible refine (RA _ (HRA.out.up hU)).out.mono ?_
        rintro e y3 ⟨_, rfl, ho, hu⟩
        obtain ⟨A3, c3, rfl, R3⟩ := Rd.of_own ho
        clear ho
        refine hK.out _ _ (MK.out _ (hU.trans hu)) (fun hHeld => ?_)
        clear hK K
        (try simp only [Act.put, tz1, tz2, tz3])
        replace hU := hU.trans hu
        replace hB_p := hu.obj hB_p
        replace hB_q := hu.obj hB_q
        clear hu
        refine rd1 3 rfl (fun K hK => ?_)
        go_simp
        go_at_call 35
        with_reducible refine (XA _ _ _ _ _ (HC.out.up hU) R3).out.mono ?_
        rintro e y4 ⟨A5, c5, rfl, R5, hu⟩
        clear R3
        refine hK.out _ _ (MK.out _ (hU.trans hu)) (fun hHeld => ?_)
        clear hK K
        (try simp only [Act.put, tz1, tz2, tz3])
        replace hU := hU.trans hu
        replace hB_p := hu.obj hB_p
        replace hB_q := hu.obj hB_q
        clear hu
        refine rd1 6 rfl (fun K hK => ?_)
        go_simp
        go_at_call 36
        with_reducible refine (RB _ (HRB.out.up hU)).out.mono ?_
        rintro e y5 ⟨_, rfl, ho, hu⟩
        obtain ⟨A4, c4, rfl, R4⟩ := Rd.of_own ho
        clear ho
        refine hK.out _ _ (MK.out _ (hU.trans hu)) (fun hHeld => ?_)
        clear hK K
        (try simp only [Act.put, tz1, tz2, tz3])
        replace hU := hU.trans hu
        replace hB_p := hu.obj hB_p
        replace hB_q := hu.obj hB_q
        replace R5 := R5.up hu
        clear hu
        refine rd1 7 rfl (fun K hK => ?_)
        go_simp
        go_at_call 35
        with_reducible refine (XB _ _ _ _ _ (HC.out.up hU) R4).out.mono ?_
        rintro e y6 ⟨A6, c6, rfl, R6, hu⟩
        clear R4
        refine hK.out _ _ (MK.out _ (hU.trans hu)) (fun hHeld => ?_)
        clear hK K
        (try simp only [Act.put, tz1, tz2, tz3])
        replace hU := hU.trans hu
        replace hB_p := hu.obj hB_p
        replace hB_q := hu.obj hB_q
        replace R5 := R5.up hu
        clear hu
        refine rd1 10 rfl (fun K hK => ?_)
        obtain ⟨k_p, z_p⟩ := blk_one hB_p
        go_simp
        refine hK.out _ _ (MK.out _ (hU.set (p := ⟨q_p, 0, none⟩) hq_p _)) (fun hHeld => ?_)
        clear hK K k_p z_p
        (try simp only [Act.put, tz1, tz2, tz3])
        replace hU := hU.set (p := ⟨q_p, 0, none⟩) hq_p (.slice A5 S.length c5)
        replace hB_q := (Below.heap_setCell _ ⟨q_p, 0, none⟩ (.slice A5 S.length c5) q_q (by simp; omega)).trans hB_q
        replace R5 := R5.far hB_p (.slice A5 S.length c5)
        replace R6 := R6.far hB_p (.slice A5 S.length c5)
        replace hB_p := heap_setCell_same _ q_p 0 _ _ (.slice A5 S.length c5) hB_p
        generalize World.setCell _ ⟨q_p, 0, none⟩ (.slice A5 S.length c5) = s7 at *
        refine rd1 11 rfl (fun K hK => ?_)
        obtain ⟨k_q, z_q⟩ := blk_one hB_q
        go_simp
        refine hK.out _ _ (MK.out _ (hU.set (p := ⟨q_q, 0, none⟩) hq_q _)) (fun hHeld => ?_)
        clear hK K k_q z_q
        (try simp only [Act.put, tz1, tz2, tz3])
        replace hU := hU.set (p := ⟨q_q, 0, none⟩) hq_q (.slice A6 T.length c6)
        replace hB_p := (Below.heap_setCell _ ⟨q_q, 0, none⟩ (.slice A6 T.length c6) q_p (by simp; omega)).trans hB_p
        replace R5 := R5.far hB_q (.slice A6 T.length c6)
        replace R6 := R6.far hB_q (.slice A6 T.length c6)
        replace hB_q := heap_setCell_same _ q_q 0 _ _ (.slice A6 T.length c6) hB_q
        generalize World.setCell _ ⟨q_q, 0, none⟩ (.slice A6 T.length c6) = s8 at *
        refine wpAnyH_done (by kernel_rfl) ?_ _
        exact FIN A5 c5 A6 c6 A3 c3 A4 c4 q_p q_q s8 ⟨hU, hB_p, hB_q, R5, R6, hne_p_q⟩
    · go_simp
      refine hK.out _ _ (MK.out _ (hU.alloc _)) (fun hHeld => ?_)
      clear hK K
      (try simp only [Act.put, tz1, tz2, tz3])
      have hB_q := heap_alloc_new y0 (.cells #[.slice none 0 0] 26)
      have ha := (Up.refl y0).alloc (.cells #[.slice none 0 0] 26)
      have hq_q := hU.le
      replace hU := hU.trans ha
      generalize y0.alloc (.cells #[.slice none 0 0] 26) = z1 at *
      generalize y0.heap.size = q_q at *
      clear ha
      refine rd2 2 8 rfl rfl (fun K hK => ?_) (fun K hK => ?_)
      · go_simp
        go_at_call 36
        with_reducible refine (RA _ (HRA.out.up hU)).out.mono ?_
        rintro e y2 ⟨_, rfl, ho, hu⟩
        obtain ⟨A3, c3, rfl, R3⟩ := Rd.of_own ho
        clear ho
        refine hK.out _ _ (MK.out _ (hU.trans hu)) (fun hHeld => ?_)
        clear hK K
        (try simp only [Act.put, tz1, tz2, tz3])
        replace hU := hU.trans hu
        replace hB_q := hu.obj hB_q
        clear hu
        refine rd2 3 8 rfl rfl (fun K hK => ?_) (fun K hK => ?_)
        · go_simp
          go_at_call 35
          with_reducible refine (XA _ _ _ _ _ (HC.out.up hU) R3).out.mono ?_
          rintro e y3 ⟨A5, c5, rfl, R5, hu⟩
          clear R3
          refine hK.out _ _ (MK.out _ (hU.trans hu)) (fun hHeld => ?_)
          clear hK K
          (try simp only [Act.put, tz1, tz2, tz3])
          replace hU := hU.trans hu
          replace hB_q := hu.obj hB_q
          clear hu
          refine rd2 6 8 rfl rfl (fun K hK => ?_) (fun K hK => ?_)
          · go_simp
            go_at_call 36
            with_reducible refine (RB _ (HRB.out.up hU)).out.mono ?_
            rintro e y4 ⟨_, rfl, ho, hu⟩
            obtain ⟨A4, c4, rfl, R4⟩ := Rd.of_own ho
            clear ho
            refine hK.out _ _ (MK.out _ (hU.trans hu)) (fun hHeld => ?_)
            clear hK K
            (try simp only [Act.put, tz1, tz2, tz3])
            replace hU := hU.trans hu
            replace hB_q := hu.obj hB_q
            replace R5 := R5.up hu
            clear hu
            refine rd2 7 8 rfl rfl (fun K hK => ?_) (fun K hK => ?_)
            · go_simp
              go_at_call 35
              with_reducible refine (XB _ _ _ _ _ (HC.out.up hU) R4).out.mono ?_
              rintro e y5 ⟨A6, c6, rfl, R6, hu⟩
              clear R4
              refine hK.out _ _ (MK.out _ (hU.trans hu)) (fun hHeld => ?_)
              clear hK K
              (try simp only [Act.put, tz1, tz2, tz3])
              replace hU := hU.trans hu
              replace hB_q := hu.obj hB_q
              replace R5 := R5.up hu
              clear hu
              refine rd1 8 rfl (fun K hK => ?_)
              go_simp
              refine hK.out _ _ (MK.out _ (hU.alloc _)) (fun hHeld => ?_)
              clear hK K
              (try simp only [Act.put, tz1, tz2, tz3])
              have hB_p := heap_alloc_new y5 (.cells #[.slice none 0 0] 26)
              have ha := (Up.refl y5).alloc (.cells #[.slice none 0 0] 26)
              have hq_p := hU.le
              have hne_q_p : q_q ≠ y5.heap.size := by have := (Array.getElem?_eq_some_iff.1 hB_q).1; omega
              replace hU := hU.trans ha
              replace hB_q := ha.obj hB_q
              replace R5 := R5.up ha
              replace R6 := R6.up ha
              generalize y5.alloc (.cells #[.slice none 0 0] 26) = z6 at *
              generalize y5.heap.size = q_p at *
              clear ha
              refine rd1 10 rfl (fun K hK => ?_)
              obtain ⟨k_p, z_p⟩ := blk_one hB_p
              go_simp
              refine hK.out _ _ (MK.out _ (hU.set (p := ⟨q_p, 0, none⟩) hq_p _)) (fun hHeld => ?_)
              clear hK K k_p z_p
              (try simp only [Act.put, tz1, tz2, tz3])
              replace hU := hU.set (p := ⟨q_p, 0, none⟩) hq_p (.slice A5 S.length c5)
              replace hB_q := (Below.heap_setCell _ ⟨q_p, 0, none⟩ (.slice A5 S.length c5) q_q (by simp; omega)).trans hB_q
              replace R5 := R5.far hB_p (.slice A5 S.length c5)
              replace R6 := R6.far hB_p (.slice A5 S.length c5)
              replace hB_p := heap_setCell_same _ q_p 0 _ _ (.slice A5 S.length c5) hB_p
              generalize World.setCell _ ⟨q_p, 0, none⟩ (.slice A5 S.length c5) = s7 at *
              refine rd1 11 rfl (fun K hK => ?_)
              obtain ⟨k_q, z_q⟩ := blk_one hB_q
              go_simp
              refine hK.out _ _ (MK.out _ (hU.set (p := ⟨q_q, 0, none⟩) hq_q _)) (fun hHeld => ?_)
              clear hK K k_q z_q
              (try simp only [Act.put, tz1, tz2, tz3])
              replace hU := hU.set (p := ⟨q_q, 0, none⟩) hq_q (.slice A6 T.length c6)
              replace R5 := R5.far hB_q (.slice A6 T.length c6)
              replace R6 := R6.far hB_q (.slice A6 T.length c6)
              replace hB_p := (Below.heap_setCell _ ⟨q_q, 0, none⟩ (.slice A6 T.length c6) q_p (by simp; omega)).trans hB_p
              replace hB_q := heap_setCell_same _ q_q 0 _ _ (.slice A6 T.length c6) hB_q
              generalize World.setCell _ ⟨q_q, 0, none⟩ (.slice A6 T.length c6) = s8 at *
              refine wpAnyH_done (by kernel_rfl) ?_ _
              exact FIN A5 c5 A6 c6 A3 c3 A4 c4 q_p q_q s8 ⟨hU, hB_p, hB_q, R5, R6, hne_q_p.symm⟩
            · go_simp
              refine hK.out _ _ (MK.out _ (hU.alloc _)) (fun hHeld => ?_)
              clear hK K
              (try simp only [Act.put, tz1, tz2, tz3])
              have hB_p := heap_alloc_new y4 (.cells #[.slice none 0 0] 26)
              have ha := (Up.refl y4).alloc (.cells #[.slice none 0 0] 26)
              have hq_p := hU.le
              have hne_q_p : q_q ≠ y4.heap.size := by have := (Array.getElem?_eq_some_iff.1 hB_q).1; omega
              replace hU := hU.trans ha
              replace hB_q := ha.obj hB_q
              replace R5 := R5.up ha
              replace R4 := R4.up ha
              generalize y4.alloc (.cells #[.slice none 0 0] 26) = z5 at *
              generalize y4.heap.size = q_p at *
              clear ha
              refine rd1 7 rfl (fun K hK => ?_)
              go_simp
              go_at_call 35
              with_reducible refine (XB _ _ _ _ _ (HC.out.up hU) R4).out.mono ?_
              rintro e y6 ⟨A6, c6, rfl, R6, hu⟩
              clear R4
              refine hK.out _ _ (MK.out _ (hU.trans hu)) (fun hHeld => ?_)
              clear hK K
              (try simp only [Act.put, tz1, tz2, tz3])
              replace hU := hU.trans hu
              replace hB_q := hu.obj hB_q
              replace R5 := R5.up hu
              replace hB_p := hu.obj hB_p
              clear hu
              refine rd1 10 rfl (fun K hK => ?_)
              obtain ⟨k_p, z_p⟩ := blk_one hB_p
              go_simp
              refine hK.out _ _ (MK.out _ (hU.set (p := ⟨q_p, 0, none⟩) hq_p _)) (fun hHeld => ?_)
              clear hK K k_p z_p
              (try simp only [Act.put, tz1, tz2, tz3])
              replace hU := hU.set (p := ⟨q_p, 0, none⟩) hq_p (.slice A5 S.length c5)
              replace hB_q := (Below.heap_setCell _ ⟨q_p, 0, none⟩ (.slice A5 S.length c5) q_q (by simp; omega)).trans hB_q
              replace R5 := R5.far hB_p (.slice A5 S.length c5)
              replace R6 := R6.far hB_p (.slice A5 S.length c5)
              replace hB_p := heap_setCell_same _ q_p 0 _ _ (.slice A5 S.length c5) hB_p
              generalize World.setCell _ ⟨q_p, 0, none⟩ (.slice A5 S.length c5) = s7 at *
              refine rd1 11 rfl (fun K hK => ?_)
              obtain ⟨k_q, z_q⟩ := blk_one hB_q
              go_simp
              refine hK.out _ _ (MK.out _ (hU.set (p := ⟨q_q, 0, none⟩) hq_q _)) (fun hHeld => ?_)
              clear hK K k_q z_q
              (try simp only [Act.put, tz1, tz2, tz3])
              replace hU := hU.set (p := ⟨q_q, 0, none⟩) hq_q (.slice A6 T.length c6)
              replace R5 := R5.far hB_q (.slice A6 T.length c6)
              replace hB_p := (Below.heap_setCell _ ⟨q_q, 0, none⟩ (.slice A6 T.length c6) q_p (by simp; omega)).trans hB_p
              replace R6 := R6.far hB_q (.slice A6 T.length c6)
              replace hB_q := heap_setCell_same _ q_q 0 _ _ (.slice A6 T.length c6) hB_q
              generalize World.setCell _ ⟨q_q, 0, none⟩ (.slice A6 T.length c6) = s8 at *
              refine wpAnyH_done (by kernel_rfl) ?_ _
              exact FIN A5 c5 A6 c6 A3 c3 A4 c4 q_p q_q s8 ⟨hU, hB_p, hB_q, R5, R6, hne_q_p.symm⟩
          · go_simp
            refine hK.out _ _ (MK.out _ (hU.alloc _)) (fun hHeld => ?_)
            clear hK K
            (try simp only [Act.put, tz1, tz2, tz3])
            have hB_p := heap_alloc_new y3 (.cells #[.slice none 0 0] 26)
            have ha := (Up.refl y3).alloc (.cells #[.slice none 0 0] 26)
            have hq_p := hU.le
            have hne_q_p : q_q ≠ y3.heap.size := by have := (Array.getElem?_eq_some_iff.1 hB_q).1; omega
            replace hU := hU.trans ha
            replace hB_q := ha.obj hB_q
            replace R5 := R5.up ha
            generalize y3.alloc (.cells #[.slice none 0 0] 26) = z4 at *
            generalize y3.heap.size = q_p at *
            clear ha
            refine rd1 6 rfl (fun K hK => ?_)
            go_simp
            go_at_call 36
            with_reducible refine (RB _ (HRB.out.up hU)).out.mono ?_
            rintro e y5 ⟨_, rfl, ho, hu⟩
            obtain ⟨A4, c4, rfl, R4⟩ := Rd.of_own ho
            clear ho
            refine hK.out _ _ (MK.out _ (hU.trans hu)) (fun hHeld => ?_)
            clear hK K
            (try simp only [Act.put, tz1, tz2, tz3])
            replace hU := hU.trans hu
            replace hB_q := hu.obj hB_q
            replace R5 := R5.up hu
            replace hB_p := hu.obj hB_p
            clear hu
            refine rd1 7 rfl (fun K hK => ?_)
            go_simp
            go_at_call 35
            with_reducible refine (XB _ _ _ _ _ (HC.out.up hU) R4).out.mono ?_
            rintro e y6 ⟨A6, c6, rfl, R6, hu⟩
            clear R4
            refine hK.out _ _ (MK.out _ (hU.trans hu)) (fun hHeld => ?_)
            clear hK K
            (try simp only [Act.put, tz1, tz2, tz3])
            replace hU := hU.trans hu
            replace hB_q := hu.obj hB_q
            replace R5 := R5.up hu
            replace hB_p := hu.obj hB_p
            clear hu
            refine rd1 10 rfl (fun K hK => ?_)
            obtain ⟨k_p, z_p⟩ := blk_one hB_p
            go_simp
            refine hK.out _ _ (MK.out _ (hU.set (p := ⟨q_p, 0, none⟩) hq_p _)) (fun hHeld => ?_)
            clear hK K k_p z_p
            (try simp only [Act.put, tz1, tz2, tz3])
            replace hU := hU.set (p := ⟨q_p, 0, none⟩) hq_p (.slice A5 S.length c5)
            replace hB_q := (Below.heap_setCell _ ⟨q_p, 0, none⟩ (.slice A5 S.length c5) q_q (by simp; omega)).trans hB_q
            replace R5 := R5.far hB_p (.slice A5 S.length c5)
            replace R6 := R6.far hB_p (.slice A5 S.length c5)
            replace hB_p := heap_setCell_same _ q_p 0 _ _ (.slice A5 S.length c5) hB_p
            generalize World.setCell _ ⟨q_p, 0, none⟩ (.slice A5 S.length c5) = s7 at *
            refine rd1 11 rfl (fun K hK => ?_)
            obtain ⟨k_q, z_q⟩ := blk_one hB_q
            go_simp
            refine hK.out _ _ (MK.out _ (hU.set (p := ⟨q_q, 0, none⟩) hq_q _)) (fun hHeld => ?_)
            clear hK K k_q z_q
            (try simp only [Act.put, tz1, tz2, tz3])
            replace hU := hU.set (p := ⟨q_q, 0, none⟩) hq_q (.slice A6 T.length c6)
            replace R5 := R5.far hB_q (.slice A6 T.length c6)
            replace hB_p := (Below.heap_setCell _ ⟨q_q, 0, none⟩ (.slice A6 T.length c6) q_p (by simp; omega)).trans hB_p
            replace R6 := R6.far hB_q (.slice A6 T.length c6)
            replace hB_q := heap_setCell_same _ q_q 0 _ _ (.slice A6 T.length c6) hB_q
            generalize World.setCell _ ⟨q_q, 0, none⟩ (.slice A6 T.length c6) = s8 at *
            refine wpAnyH_done (by kernel_rfl) ?_ _
            exact FIN A5 c5 A6 c6 A3 c3 A4 c4 q_p q_q s8 ⟨hU, hB_p, hB_q, R5, R6, hne_q_p.symm⟩
        · go_simp
          refine hK.out _ _ (MK.out _ (hU.alloc _)) (fun hHeld => ?_)
          clear hK K
          (try simp only [Act.put, tz1, tz2, tz3])
          have hB_p := heap_alloc_new y2 (.cells #[.slice none 0 0] 26)
          have ha := (Up.refl y2).alloc (.cells #[.slice none 0 0] 26)
          have hq_p := hU.le
          have hne_q_p : q_q ≠ y2.heap.size := by have := (Array.getElem?_eq_some_iff.1 hB_q).1; omega
          replace hU := hU.trans ha
          replace hB_q := ha.obj hB_q
          replace R3 := R3.up ha
          generalize y2.alloc (.cells #[.slice none 0 0] 26) = z3 at *
          generalize y2.heap.size = q_p at *
          clear ha
          refine rd1 3 rfl (fun K hK => ?_)
          go_simp
          go_at_call 35
          with_reducible refine (XA _ _ _ _ _ (HC.out.up hU) R3).out.mono ?_
          rintro e y4 ⟨A5, c5, rfl, R5, hu⟩
          clear R3
          refine hK.out _ _ (MK.out _ (hU.trans hu)) (fun hHeld => ?_)
          clear hK K
          (try simp only [Act.put, tz1, tz2, tz3])
          replace hU := hU.trans hu
          replace hB_q := hu.obj hB_q
          replace hB_p := hu.obj hB_p
          clear hu
          refine rd1 6 rfl (fun K hK => ?_)
          go_simp
          go_at_call 36
          with_reducible refine (RB _ (HRB.out.up hU)).out.mono ?_
          rintro e y5 ⟨_, rfl, ho, hu⟩
          obtain ⟨A4, c4, rfl, R4⟩ := Rd.of_own ho
          clear ho
          refine hK.out _ _ (MK.out _ (hU.trans hu)) (fun hHeld => ?_)
          clear hK K
          (try simp only [Act.put, tz1, tz2, tz3])
          replace hU := hU.trans hu
          replace hB_q := hu.obj hB_q
          replace hB_p := hu.obj hB_p
          replace R5 := R5.up hu
          clear hu
          refine rd1 7 rfl (fun K hK => ?_)
          go_simp
          go_at_call 35
          with_reducible refine (XB _ _ _ _ _ (HC.out.up hU) R4).out.mono ?_
          rintro e y6 ⟨A6, c6, rfl, R6, hu⟩
          clear R4
          refine hK.out _ _ (MK.out _ (hU.trans hu)) (fun hHeld => ?_)
          clear hK K
          (try simp only [Act.put, tz1, tz2, tz3])
          replace hU := hU.trans hu
          replace hB_q := hu.obj hB_q
          replace hB_p := hu.obj hB_p
          replace R5 := R5.up hu
          clear hu
          refine rd1 10 rfl (fun K hK => ?_)
          obtain ⟨k_p, z_p⟩ := blk_one hB_p
          go_simp
          refine hK.out _ _ (MK.out _ (hU.set (p := ⟨q_p, 0, none⟩) hq_p _)) (fun hHeld => ?_)
          clear hK K k_p z_p
          (try simp only [Act.put, tz1, tz2, tz3])
          replace hU := hU.set (p := ⟨q_p, 0, none⟩) hq_p (.slice A5 S.length c5)
          replace hB_q := (Below.heap_setCell _ ⟨q_p, 0, none⟩ (.slice A5 S.length c5) q_q (by simp; omega)).trans hB_q
          replace R5 := R5.far hB_p (.slice A5 S.length c5)
          replace R6 := R6.far hB_p (.slice A5 S.length c5)
          replace hB_p := heap_setCell_same _ q_p 0 _ _ (.slice A5 S.length c5) hB_p
          generalize World.setCell _ ⟨q_p, 0, none⟩ (.slice A5 S.length c5) = s7 at *
          refine rd1 11 rfl (fun K hK => ?_)
          obtain ⟨k_q, z_q⟩ := blk_one hB_q
          go_simp
          refine hK.out _ _ (MK.out _ (hU.set (p := ⟨q_q, 0, none⟩) hq_q _)) (fun hHeld => ?_)
          clear hK K k_q z_q
          (try simp only [Act.put, tz1, tz2, tz3])
          replace hU := hU.set (p := ⟨q_q, 0, none⟩) hq_q (.slice A6 T.length c6)
          replace hB_p := (Below.heap_setCell _ ⟨q_q, 0, none⟩ (.slice A6 T.length c6) q_p (by simp; omega)).trans hB_p
          replace R5 := R5.far hB_q (.slice A6 T.length c6)
          replace R6 := R6.far hB_q (.slice A6 T.length c6)
          replace hB_q := heap_setCell_same _ q_q 0 _ _ (.slice A6 T.length c6) hB_q
          generalize World.setCell _ ⟨q_q, 0, none⟩ (.slice A6 T.length c6) = s8 at *
          refine wpAnyH_done (by kernel_rfl) ?_ _
          exact FIN A5 c5 A6 c6 A3 c3 A4 c4 q_p q_q s8 ⟨hU, hB_p, hB_q, R5, R6, hne_q_p.symm⟩
      · go_simp
        refine hK.out _ _ (MK.out _ (hU.alloc _)) (fun hHeld => ?_)
        clear hK K
        (try simp only [Act.put, tz1, tz2, tz3])
        have hB_p := heap_alloc_new z1 (.cells #[.slice none 0 0] 26)
        have ha := (Up.refl z1).alloc (.cells #[.slice none 0 0] 26)
        have hq_p := hU.le
        have hne_q_p : q_q ≠ z1.heap.size := by have := (Array.getElem?_eq_some_iff.1 hB_q).1; omega
        replace hU := hU.trans ha
        replace hB_q := ha.obj hB_q
        generalize z1.alloc (.cells #[.slice none 0 0] 26) = z2 at *
        generalize z1.heap.size = q_p at *
        clear ha
        refine rd1 2 rfl (fun K hK => ?_)
        go_simp
        go_at_call 36
        with_reducible refine (RA _ (HRA.out.up hU)).out.mono ?_
        rintro e y3 ⟨_, rfl, ho, hu⟩
        obtain ⟨A3, c3, rfl, R3⟩ := Rd.of_own ho
        clear ho
        refine hK.out _ _ (MK.out _ (hU.trans hu)) (fun hHeld => ?_)
        clear hK K
        (try simp only [Act.put, tz1, tz2, tz3])
        replace hU := hU.trans hu
        replace hB_q := hu.obj hB_q
        replace hB_p := hu.obj hB_p
        clear hu
        refine rd1 3 rfl (fun K hK => ?_)
        go_simp
        go_at_call 35
        with_reducible refine (XA _ _ _ _ _ (HC.out.up hU) R3).out.mono ?_
        rintro e y4 ⟨A5, c5, rfl, R5, hu⟩
        clear R3
        refine hK.out _ _ (MK.out _ (hU.trans hu)) (fun hHeld => ?_)
        clear hK K
        (try simp only [Act.put, tz1, tz2, tz3])
        replace hU := hU.trans hu
        replace hB_q := hu.obj hB_q
        replace hB_p := hu.obj hB_p
        clear hu
        refine rd1 6 rfl (fun K hK => ?_)
        go_simp
        go_at_call 36
        with_reducible refine (RB _ (HRB.out.up hU)).out.mono ?_
        rintro e y5 ⟨_, rfl, ho, hu⟩
        obtain ⟨A4, c4, rfl, R4⟩ := Rd.of_own ho
        clear ho
        refine hK.out _ _ (MK.out _ (hU.trans hu)) (fun hHeld => ?_)
        clear hK K
        (try simp only [Act.put, tz1, tz2, tz3])
        replace hU := hU.trans hu
        replace hB_q := hu.obj hB_q
        replace hB_p := hu.obj hB_p
        replace R5 := R5.up hu
        clear hu
        refine rd1 7 rfl (fun K hK => ?_)
        go_simp
        go_at_call 35
        with_reducible refine (XB _ _ _ _ _ (HC.out.up hU) R4).out.mono ?_
        rintro e y6 ⟨A6, c6, rfl, R6, hu⟩
        clear R4
        refine hK.out _ _ (MK.out _ (hU.trans hu)) (fun hHeld => ?_)
        clear hK K
        (try simp only [Act.put, tz1, tz2, tz3])
        replace hU := hU.trans hu
        replace hB_q := hu.obj hB_q
        replace hB_p := hu.obj hB_p
        replace R5 := R5.up hu
        clear hu
        refine rd1 10 rfl (fun K hK => ?_)
        obtain ⟨k_p, z_p⟩ := blk_one hB_p
        go_simp
        refine hK.out _ _ (MK.out _ (hU.set (p := ⟨q_p, 0, none⟩) hq_p _)) (fun hHeld => ?_)
        clear hK K k_p z_p
        (try simp only [Act.put, tz1, tz2, tz3])
        replace hU := hU.set (p := ⟨q_p, 0, none⟩) hq_p (.slice A5 S.length c5)
        replace hB_q := (Below.heap_setCell _ ⟨q_p, 0, none⟩ (.slice A5 S.length c5) q_q (by simp; omega)).trans hB_q
        replace R5 := R5.far hB_p (.slice A5 S.length c5)
        replace R6 := R6.far hB_p (.slice A5 S.length c5)
        replace hB_p := heap_setCell_same _ q_p 0 _ _ (.slice A5 S.length c5) hB_p
        generalize World.setCell _ ⟨q_p, 0, none⟩ (.slice A5 S.length c5) = s7 at *
        refine rd1 11 rfl (fun K hK => ?_)
        obtain ⟨k_q, z_q⟩ := blk_one hB_q
        go_simp
        refine hK.out _ _ (MK.out _ (hU.set (p := ⟨q_q, 0, none⟩) hq_q _)) (fun hHeld => ?_)
        clear hK K k_q z_q
        (try simp only [Act.put, tz1, tz2, tz3])
        replace hU := hU.set (p := ⟨q_q, 0, none⟩) hq_q (.slice A6 T.length c6)
        replace hB_p := (Below.heap_setCell _ ⟨q_q, 0, none⟩ (.slice A6 T.length c6) q_p (by simp; omega)).trans hB_p
        replace R5 := R5.far hB_q (.slice A6 T.length c6)
        replace R6 := R6.far hB_q (.slice A6 T.length c6)
        replace hB_q := heap_setCell_same _ q_q 0 _ _ (.slice A6 T.length c6) hB_q
        generalize World.setCell _ ⟨q_q, 0, none⟩ (.slice A6 T.length c6) = s8 at *
        refine wpAnyH_done (by kernel_rfl) ?_ _
        exact FIN A5 c5 A6 c6 A3 c3 A4 c4 q_p q_q s8 ⟨hU, hB_p, hB_q, R5, R6, hne_q_p.symm⟩
  clear hX XA XB
  intro A5 c5 A6 c6 A3 c3 A4 c4 p q Y hF
  obtain ⟨hY, hp, hq, r5, r6, _⟩ := hF
  replace kc := hY.cell kc
  replace HRA := Lib.hid (HRA.out.up hY)
  replace HRB := Lib.hid (HRB.out.up hY)
  replace HC := Lib.hid (HC.out.up hY)
  replace HU := Lib.hid (HU.out.trans hY)
  have kp := (blk_one hp).1
  have kq := (blk_one hq).1
  have HS := Lib.hid r5
  have HT := Lib.hid r6
  clear hp hq r5 r6 hY
  go_wp2_with fail
  apply merge9 (F := fun A10 c10 _ _ _ _ _ _ r Y2 => Up Y Y2 ∧ Y2.heap[r]? = some (.cells #[.slice A10 B.length c10] 26 (0, 0)) ∧ Rd Y2 2 A10 B.length c10 (itV B))
  · intro FIN
    have MK := Lib.hid (fun w' (h : Up Y w') => (h.cell kc : w'.cell? ⟨v1.heap.size, 0, none⟩ = some (.slice A1 L.length c1)))
    refine wp_region_held_drew (S := fun w' => w'.cell? ⟨v1.heap.size, 0, none⟩ = some (.slice A1 L.length c1)) (by kernel_rfl) (MK.out _ (Up.refl _).drew) (fun hHeld => ?_)
    have hU := (Up.refl Y).drew
    generalize Y.drew = y0 at *
    refine tk 0 rfl ?_
    (try simp only [Act.put, tz1, tz2, tz3])
    refine tk 1 rfl ?_
    (try simp only [Act.put, tz1, tz2, tz3])
    refine tk 3 rfl ?_
    (try simp only [Act.put, tz1, tz2, tz3])
    refine rd2 2 7 rfl rfl (fun K hK => ?_) (fun K hK => ?_)
    · go_simp
      go_at_call 36
      with_reducible refine (RA _ (HRA.out.up hU)).out.mono ?_
      rintro e y1 ⟨_, rfl, ho7, hu⟩
      obtain ⟨A7, c7, rfl, R7⟩ := Rd.of_own ho7
      have hbs := hU.le
      have hbs2 := hu.le
      generalize y0.heap.size = bs at ho7 hbs hbs2
      refine hK.out _ _ (MK.out _ (hU.trans hu)) (fun hHeld => ?_)
      clear hK K
      (try simp only [Act.put, tz1, tz2, tz3])
      replace hU := hU.trans hu
      clear hu
      refine rd2 4 7 rfl rfl (fun K hK => ?_) (fun K hK => ?_)
      · go_simp
        go_at_call 36
        with_reducible refine (RB _ (HRB.out.up hU)).out.mono ?_
        rintro e y2 ⟨_, rfl, ho8, hu⟩
        obtain ⟨A8, c8, rfl, R8⟩ := Rd.of_own ho8
        clear ho8
        refine hK.out _ _ (MK.out _ (hU.trans hu)) (fun hHeld => ?_)
        clear hK K
        (try simp only [Act.put, tz1, tz2, tz3])
        replace hU := hU.trans hu
        replace R7 := R7.up hu
        replace ho7 := own_up ho7 hu
        replace hbs2 := Nat.le_trans hbs2 hu.le
        clear hu
        refine rd2 5 7 rfl rfl (fun K hK => ?_) (fun K hK => ?_)
        · rw [if_pos (by kernel_rfl)]
          refine oper_append_rd _ _ _ 65 rfl bs 127 i0 _ 5 40 Tryz.underlying65 hi hz0 hz1 hz2 rfl (by decide) (.slice A7 a.length c7) _ _ rfl ho7 A8 b.length c8 (rcV b) rfl R8 (rcV_one b) (by omega) (by decide) hbs2 ?_
          intro v9 y3 ho9 hg9 hb9
          obtain ⟨A9, c9, rfl, R9⟩ := Rd.of_own ho9
          rw [← rcV_app] at R9
          have hx : Up Y y3 := Up.of (Below.trans hU.below (Below.mono hb9 hbs))
          clear ho9 hg9 hb9 ho7 R7 R8
          refine hK.out _ _ (MK.out _ hx) (fun hHeld => ?_)
          clear hK K
          (try simp only [Act.put, tz1, tz2, tz3])
          replace hU := hx
          clear hx
          refine rd2 6 7 rfl rfl (fun K hK => ?_) (fun K hK => ?_)
          · go_simp
            go_at_call 35
            with_reducible refine (XC _ _ _ _ _ (HC.out.up hU) R9).out.mono ?_
            rintro e y4 ⟨A10, c10, rfl, R10, hu⟩
            clear R9
            refine hK.out _ _ (MK.out _ (hU.trans hu)) (fun hHeld => ?_)
            clear hK K
            (try simp only [Act.put, tz1, tz2, tz3])
            replace hU := hU.trans hu
            clear hu
            refine rd1 7 rfl (fun K hK => ?_)
            go_simp
            refine hK.out _ _ (MK.out _ (hU.alloc _)) (fun hHeld => ?_)
            clear hK K
            (try simp only [Act.put, tz1, tz2, tz3])
            have hB_r := heap_alloc_new y4 (.cells #[.slice none 0 0] 26)
            have ha := (Up.refl y4).alloc (.cells #[.slice none 0 0] 26)
            have hq_r := hU.le
            replace hU := hU.trans ha
            replace R10 := R10.up ha
            generalize y4.alloc (.cells #[.slice none 0 0] 26) = z5 at *
            generalize y4.heap.size = q_r at *
            clear ha
            refine rd1 8 rfl (fun K hK => ?_)
            obtain ⟨k_r, z_r⟩ := blk_one hB_r
            go_simp
            refine hK.out _ _ (MK.out _ (hU.set (p := ⟨q_r, 0, none⟩) hq_r _)) (fun hHeld => ?_)
            clear hK K k_r z_r
            (try simp only [Act.put, tz1, tz2, tz3])
            replace hU := hU.set (p := ⟨q_r, 0, none⟩) hq_r (.slice A10 B.length c10)
            replace R10 := R10.far hB_r (.slice A10 B.length c10)
            replace hB_r := heap_setCell_same _ q_r 0 _ _ (.slice A10 B.length c10) hB_r
            generalize World.setCell _ ⟨q_r, 0, none⟩ (.slice A10 B.length c10) = s6 at *
            refine wpAnyH_done (by kernel_rfl) ?_ _
            exact FIN A10 c10 A7 c7 A8 c8 A9 c9 q_r s6 ⟨hU, hB_r, R10⟩
          · go_simp
            refine hK.out _ _ (MK.out _ (hU.alloc _)) (fun hHeld => ?_)
            clear hK K
            (try simp only [Act.put, tz1, tz2, tz3])
            have hB_r := heap_alloc_new y3 (.cells #[.slice none 0 0] 26)
            have ha := (Up.refl y3).alloc (.cells #[.slice none 0 0] 26)
            have hq_r := hU.le
            replace hU := hU.trans ha
            replace R9 := R9.up ha
            generalize y3.alloc (.cells #[.slice none 0 0] 26) = z4 at *
            generalize y3.heap.size = q_r at *
            clear ha
            refine rd1 6 rfl (fun K hK => ?_)
            go_simp
            go_at_call 35
            with_reducible refine (XC _ _ _ _ _ (HC.out.up hU) R9).out.mono ?_
            rintro e y5 ⟨A10, c10, rfl, R10, hu⟩
            clear R9
            refine hK.out _ _ (MK.out _ (hU.trans hu)) (fun hHeld => ?_)
            clear hK K
            (try simp only [Act.put, tz1, tz2, tz3])
            replace hU := hU.trans hu
            replace hB_r := hu.obj hB_r
            clear hu
            refine rd1 8 rfl (fun K hK => ?_)
            obtain ⟨k_r, z_r⟩ := blk_one hB_r
            go_simp
            refine hK.out _ _ (MK.out _ (hU.set (p := ⟨q_r, 0, none⟩) hq_r _)) (fun hHeld => ?_)
            clear hK K k_r z_r
            (try simp only [Act.put, tz1, tz2, tz3])
            replace hU := hU.set (p := ⟨q_r, 0, none⟩) hq_r (.slice A10 B.length c10)
            replace R10 := R10.far hB_r (.slice A10 B.length c10)
            replace hB_r := heap_setCell_same _ q_r 0 _ _ (.slice A10 B.length c10) hB_r
            generalize World.setCell _ ⟨q_r, 0, none⟩ (.slice A10 B.length c10) = s6 at *
            refine wpAnyH_done (by kernel_rfl) ?_ _
            exact FIN A10 c10 A7 c7 A8 c8 A9 c9 q_r s6 ⟨hU, hB_r, R10⟩
        · go_simp
          refine hK.out _ _ (MK.out _ (hU.alloc _)) (fun hHeld => ?_)
          clear hK K
          (try simp only [Act.put, tz1, tz2, tz3])
          have hB_r := heap_alloc_new y2 (.cells #[.slice none 0 0] 26)
          have ha := (Up.refl y2).alloc (.cells #[.slice none 0 0] 26)
          have hq_r := hU.le
          replace hU := hU.trans ha
          replace R7 := R7.up ha
          replace ho7 := own_up ho7 ha
          replace hbs2 := Nat.le_trans hbs2 ha.le
          replace R8 := R8.up ha
          generalize y2.alloc (.cells #[.slice none 0 0] 26) = z3 at *
          generalize y2.heap.size = q_r at *
          clear ha
          refine rd1 5 rfl (fun K hK => ?_)
          rw [if_pos (by kernel_rfl)]
          refine oper_append_rd _ _ _ 65 rfl bs 127 i0 _ 5 40 Tryz.underlying65 hi hz0 hz1 hz2 rfl (by decide) (.slice A7 a.length c7) _ _ rfl ho7 A8 b.length c8 (rcV b) rfl R8 (rcV_one b) (by omega) (by decide) hbs2 ?_
          intro v9 y4 ho9 hg9 hb9
          obtain ⟨A9, c9, rfl, R9⟩ := Rd.of_own ho9
          rw [← rcV_app] at R9
          have hx : Up Y y4 := Up.of (Below.trans hU.below (Below.mono hb9 hbs))
          replace hB_r := blk_keep5 ho7 hg9 hB_r (by decide)
          clear ho9 hg9 hb9 ho7 R7 R8
          refine hK.out _ _ (MK.out _ hx) (fun hHeld => ?_)
          clear hK K
          (try simp only [Act.put, tz1, tz2, tz3])
          replace hU := hx
          clear hx
          refine rd1 6 rfl (fun K hK => ?_)
          go_simp
          go_at_call 35
          with_reducible refine (XC _ _ _ _ _ (HC.out.up hU) R9).out.mono ?_
          rintro e y5 ⟨A10, c10, rfl, R10, hu⟩
          clear R9
          refine hK.out _ _ (MK.out _ (hU.trans hu)) (fun hHeld => ?_)
          clear hK K
          (try simp only [Act.put, tz1, tz2, tz3])
          replace hU := hU.trans hu
          replace hB_r := hu.obj hB_r
          clear hu
          refine rd1 8 rfl (fun K hK => ?_)
          obtain ⟨k_r, z_r⟩ := blk_one hB_r
          go_simp
          refine hK.out _ _ (MK.out _ (hU.set (p := ⟨q_r, 0, none⟩) hq_r _)) (fun hHeld => ?_)
          clear hK K k_r z_r
          (try simp only [Act.put, tz1, tz2, tz3])
          replace hU := hU.set (p := ⟨q_r, 0, none⟩) hq_r (.slice A10 B.length c10)
          replace R10 := R10.far hB_r (.slice A10 B.length c10)
          replace hB_r := heap_setCell_same _ q_r 0 _ _ (.slice A10 B.length c10) hB_r
          generalize World.setCell _ ⟨q_r, 0, none⟩ (.slice A10 B.length c10) = s6 at *
          refine wpAnyH_done (by kernel_rfl) ?_ _
          exact FIN A10 c10 A7 c7 A8 c8 A9 c9 q_r s6 ⟨hU, hB_r, R10⟩
      · go_simp
        refine hK.out _ _ (MK.out _ (hU.alloc _)) (fun hHeld => ?_)
        clear hK K
        (try simp only [Act.put, tz1, tz2, tz3])
        have hB_r := heap_alloc_new y1 (.cells #[.slice none 0 0] 26)
        have ha := (Up.refl y1).alloc (.cells #[.slice none 0 0] 26)
        have hq_r := hU.le
        replace hU := hU.trans ha
        replace R7 := R7.up ha
        replace ho7 := own_up ho7 ha
        replace hbs2 := Nat.le_trans hbs2 ha.le
        generalize y1.alloc (.cells #[.slice none 0 0] 26) = z2 at *
        generalize y1.heap.size = q_r at *
        clear ha
        refine rd1 4 rfl (fun K hK => ?_)
        go_simp
        go_at_call 36
        with_reducible refine (RB _ (HRB.out.up hU)).out.mono ?_
        rintro e y3 ⟨_, rfl, ho8, hu⟩
        obtain ⟨A8, c8, rfl, R8⟩ := Rd.of_own ho8
        clear ho8
        refine hK.out _ _ (MK.out _ (hU.trans hu)) (fun hHeld => ?_)
        clear hK K
        (try simp only [Act.put, tz1, tz2, tz3])
        replace hU := hU.trans hu
        replace R7 := R7.up hu
        replace ho7 := own_up ho7 hu
        replace hbs2 := Nat.le_trans hbs2 hu.le
        replace hB_r := hu.obj hB_r
        clear hu
        refine rd1 5 rfl (fun K hK => ?_)
        rw [if_pos (by kernel_rfl)]
        refine oper_append_rd _ _ _ 65 rfl bs 127 i0 _ 5 40 Tryz.underlying65 hi hz0 hz1 hz2 rfl (by decide) (.slice A7 a.length c7) _ _ rfl ho7 A8 b.length c8 (rcV b) rfl R8 (rcV_one b) (by omega) (by decide) hbs2 ?_
        intro v9 y4 ho9 hg9 hb9
        obtain ⟨A9, c9, rfl, R9⟩ := Rd.of_own ho9
        rw [← rcV_app] at R9
        have hx : Up Y y4 := Up.of (Below.trans hU.below (Below.mono hb9 hbs))
        replace hB_r := blk_keep5 ho7 hg9 hB_r (by decide)
        clear ho9 hg9 hb9 ho7 R7 R8
        refine hK.out _ _ (MK.out _ hx) (fun hHeld => ?_)
        clear hK K
        (try simp only [Act.put, tz1, tz2, tz3])
        replace hU := hx
        clear hx
        refine rd1 6 rfl (fun K hK => ?_)
        go_simp
        go_at_call 35
        with_reducible refine (XC _ _ _ _ _ (HC.out.up hU) R9).out.mono ?_
        rintro e y5 ⟨A10, c10, rfl, R10, hu⟩
        clear R9
        refine hK.out _ _ (MK.out _ (hU.trans hu)) (fun hHeld => ?_)
        clear hK K
        (try simp only [Act.put, tz1, tz2, tz3])
        replace hU := hU.trans hu
        replace hB_r := hu.obj hB_r
        clear hu
        refine rd1 8 rfl (fun K hK => ?_)
        obtain ⟨k_r, z_r⟩ := blk_one hB_r
        go_simp
        refine hK.out _ _ (MK.out _ (hU.set (p := ⟨q_r, 0, none⟩) hq_r _)) (fun hHeld => ?_)
        clear hK K k_r z_r
        (try simp only [Act.put, tz1, tz2, tz3])
        replace hU := hU.set (p := ⟨q_r, 0, none⟩) hq_r (.slice A10 B.length c10)
        replace R10 := R10.far hB_r (.slice A10 B.length c10)
        replace hB_r := heap_setCell_same _ q_r 0 _ _ (.slice A10 B.length c10) hB_r
        generalize World.setCell _ ⟨q_r, 0, none⟩ (.slice A10 B.length c10) = s6 at *
        refine wpAnyH_done (by kernel_rfl) ?_ _
        exact FIN A10 c10 A7 c7 A8 c8 A9 c9 q_r s6 ⟨hU, hB_r, R10⟩
    · go_simp
      refine hK.out _ _ (MK.out _ (hU.alloc _)) (fun hHeld => ?_)
      clear hK K
      (try simp only [Act.put, tz1, tz2, tz3])
      have hB_r := heap_alloc_new y0 (.cells #[.slice none 0 0] 26)
      have ha := (Up.refl y0).alloc (.cells #[.slice none 0 0] 26)
      have hq_r := hU.le
      replace hU := hU.trans ha
      generalize y0.alloc (.cells #[.slice none 0 0] 26) = z1 at *
      generalize y0.heap.size = q_r at *
      clear ha
      refine rd1 2 rfl (fun K hK => ?_)
      go_simp
      go_at_call 36
      with_reducible refine (RA _ (HRA.out.up hU)).out.mono ?_
      rintro e y2 ⟨_, rfl, ho7, hu⟩
      obtain ⟨A7, c7, rfl, R7⟩ := Rd.of_own ho7
      have hbs := hU.le
      have hbs2 := hu.le
      generalize z1.heap.size = bs at ho7 hbs hbs2
      refine hK.out _ _ (MK.out _ (hU.trans hu)) (fun hHeld => ?_)
      clear hK K
      (try simp only [Act.put, tz1, tz2, tz3])
      replace hU := hU.trans hu
      replace hB_r := hu.obj hB_r
      clear hu
      refine rd1 4 rfl (fun K hK => ?_)
      go_simp
      go_at_call 36
      with_reducible refine (RB _ (HRB.out.up hU)).out.mono ?_
      rintro e y3 ⟨_, rfl, ho8, hu⟩
      obtain ⟨A8, c8, rfl, R8⟩ := Rd.of_own ho8
      clear ho8
      refine hK.out _ _ (MK.out _ (hU.trans hu)) (fun hHeld => ?_)
      clear hK K
      (try simp only [Act.put, tz1, tz2, tz3])
      replace hU := hU.trans hu
      replace hB_r := hu.obj hB_r
      replace R7 := R7.up hu
      replace ho7 := own_up ho7 hu
      replace hbs2 := Nat.le_trans hbs2 hu.le
      clear hu
      refine rd1 5 rfl (fun K hK => ?_)
      rw [if_pos (by kernel_rfl)]
      refine oper_append_rd _ _ _ 65 rfl bs 127 i0 _ 5 40 Tryz.underlying65 hi hz0 hz1 hz2 rfl (by decide) (.slice A7 a.length c7) _ _ rfl ho7 A8 b.length c8 (rcV b) rfl R8 (rcV_one b) (by omega) (by decide) hbs2 ?_
      intro v9 y4 ho9 hg9 hb9
      obtain ⟨A9, c9, rfl, R9⟩ := Rd.of_own ho9
      rw [← rcV_app] at R9
      have hx : Up Y y4 := Up.of (Below.trans hU.below (Below.mono hb9 hbs))
      replace hB_r := blk_keep5 ho7 hg9 hB_r (by decide)
      clear ho9 hg9 hb9 ho7 R7 R8
      refine hK.out _ _ (MK.out _ hx) (fun hHeld => ?_)
      clear hK K
      (try simp only [Act.put, tz1, tz2, tz3])
      replace hU := hx
      clear hx
      refine rd1 6 rfl (fun K hK => ?_)
      go_simp
      go_at_call 35
      with_reducible refine (XC _ _ _ _ _ (HC.out.up hU) R9).out.mono ?_
      rintro e y5 ⟨A10, c10, rfl, R10, hu⟩
      clear R9
      refine hK.out _ _ (MK.out _ (hU.trans hu)) (fun hHeld => ?_)
      clear hK K
      (try simp only [Act.put, tz1, tz2, tz3])
      replace hU := hU.trans hu
      replace hB_r := hu.obj hB_r
      clear hu
      refine rd1 8 rfl (fun K hK => ?_)
      obtain ⟨k_r, z_r⟩ := blk_one hB_r
      go_simp
      refine hK.out _ _ (MK.out _ (hU.set (p := ⟨q_r, 0, none⟩) hq_r _)) (fun hHeld => ?_)
      clear hK K k_r z_r
      (try simp only [Act.put, tz1, tz2, tz3])
      replace hU := hU.set (p := ⟨q_r, 0, none⟩) hq_r (.slice A10 B.length c10)
      replace R10 := R10.far hB_r (.slice A10 B.length c10)
      replace hB_r := heap_setCell_same _ q_r 0 _ _ (.slice A10 B.length c10) hB_r
      generalize World.setCell _ ⟨q_r, 0, none⟩ (.slice A10 B.length c10) = s6 at *
      refine wpAnyH_done (by kernel_rfl) ?_ _
      exact FIN A10 c10 A7 c7 A8 c8 A9 c9 q_r s6 ⟨hU, hB_r, R10⟩
  clear XC hi hz0 hz1 hz2
  intro A10 c10 A7 c7 A8 c8 A9 c9 r Y2 hF
  obtain ⟨hY, hr, r10⟩ := hF
  replace kc := hY.cell kc
  replace kp := hY.cell kp
  replace kq := hY.cell kq
  replace HRA := Lib.hid (HRA.out.up hY)
  replace HRB := Lib.hid (HRB.out.up hY)
  replace HC := Lib.hid (HC.out.up hY)
  replace HS := Lib.hid (HS.out.up hY)
  replace HT := Lib.hid (HT.out.up hY)
  replace HU := Lib.hid (HU.out.trans hY)
  have kr := (blk_one hr).1
  have HB := Lib.hid r10
  clear hr r10 hY
  go_wp2_with fail
  have MK := Lib.hid (fun w' (h : Up Y2 w') => (⟨h.cell kp, h.cell kq⟩ : w'.cell? ⟨p, 0, none⟩ = some (.slice A5 S.length c5) ∧ w'.cell? ⟨q, 0, none⟩ = some (.slice A6 T.length c6)))
  refine wp_region_held_drew (S := fun w' => w'.cell? ⟨p, 0, none⟩ = some (.slice A5 S.length c5) ∧ w'.cell? ⟨q, 0, none⟩ = some (.slice A6 T.length c6)) (by kernel_rfl) (MK.out _ (Up.refl _).drew) (fun hHeld => ?_)
  have hU := (Up.refl Y2).drew
  generalize Y2.drew = y0 at *
  refine tk 0 rfl ?_
  (try simp only [Act.put, tz1, tz2, tz3])
  refine tk 1 rfl ?_
  (try simp only [Act.put, tz1, tz2, tz3])
  refine tk 4 rfl ?_
  (try simp only [Act.put, tz1, tz2, tz3])
  refine tk 5 rfl ?_
  (try simp only [Act.put, tz1, tz2, tz3])
  refine rd1 2 rfl (fun K hK => ?_)
  go_simp
  go_at_call 36
  with_reducible refine (RB _ (HRB.out.up hU)).out.mono ?_
  rintro e y1 ⟨_, rfl, ho, hu⟩
  obtain ⟨A11, c11, rfl, R11⟩ := Rd.of_own ho
  clear ho
  refine hK.out _ _ (MK.out _ (hU.trans hu)) (fun hHeld => ?_)
  clear hK K
  (try simp only [Act.put, tz1, tz2, tz3])
  replace hU := hU.trans hu
  clear hu
  refine rd1 3 rfl (fun K hK => ?_)
  go_simp
  go_at_call 35
  with_reducible refine (XAB _ _ _ _ _ (HS.out.up hU) R11).out.mono ?_
  rintro e y2 ⟨A12, c12, rfl, R12, hu⟩
  clear R11
  refine hK.out _ _ (MK.out _ (hU.trans hu)) (fun hHeld => ?_)
  clear hK K
  (try simp only [Act.put, tz1, tz2, tz3])
  replace hU := hU.trans hu
  clear hu
  refine rd1 6 rfl (fun K hK => ?_)
  go_simp
  go_at_call 36
  with_reducible refine (RA _ (HRA.out.up hU)).out.mono ?_
  rintro e y3 ⟨_, rfl, ho, hu⟩
  obtain ⟨A13, c13, rfl, R13⟩ := Rd.of_own ho
  clear ho
  refine hK.out _ _ (MK.out _ (hU.trans hu)) (fun hHeld => ?_)
  clear hK K
  (try simp only [Act.put, tz1, tz2, tz3])
  replace hU := hU.trans hu
  replace R12 := R12.up hu
  clear hu
  refine rd1 7 rfl (fun K hK => ?_)
  go_simp
  go_at_call 35
  with_reducible refine (XBA _ _ _ _ _ (HT.out.up hU) R13).out.mono ?_
  rintro e y4 ⟨A14, c14, rfl, R14, hu⟩
  clear R13
  refine hK.out _ _ (MK.out _ (hU.trans hu)) (fun hHeld => ?_)
  clear hK K
  (try simp only [Act.put, tz1, tz2, tz3])
  replace hU := hU.trans hu
  replace R12 := R12.up hu
  clear hu
  refine rd1 8 rfl (fun K hK => ?_)
  go_simp
  go_at_call 29
  with_reducible refine (SM D (by omega) _ _ _ _ _ R12 R14).out.mono ?_
  rintro e y5 ⟨rfl, hu⟩
  refine hK.out _ _ (MK.out _ (hU.trans hu)) (fun hHeld => ?_)
  clear hK K
  (try simp only [Act.put, tz1, tz2, tz3])
  replace hU := hU.trans hu
  replace R12 := R12.up hu
  replace R14 := R14.up hu
  clear hu
  refine tk 9 rfl ?_
  (try simp only [Act.put, tz1, tz2, tz3])
  refine tk 10 rfl ?_
  (try simp only [Act.put, tz1, tz2, tz3])
  refine tk 11 rfl ?_
  (try simp only [Act.put, tz1, tz2, tz3])
  refine tk 12 rfl ?_
  (try simp only [Act.put, tz1, tz2, tz3])
  refine tk 15 rfl ?_
  (try simp only [Act.put, tz1, tz2, tz3])
  refine rd1 13 rfl (fun K hK => ?_)
  go_simp
  go_at_call 36
  with_reducible refine (RA _ (HRA.out.up hU)).out.mono ?_
  rintro e y6 ⟨_, rfl, ho, hu⟩
  obtain ⟨A15, c15, rfl, R15⟩ := Rd.of_own ho
  clear ho
  refine hK.out _ _ (MK.out _ (hU.trans hu)) (fun hHeld => ?_)
  clear hK K
  (try simp only [Act.put, tz1, tz2, tz3])
  replace hU := hU.trans hu
  replace R12 := R12.up hu
  replace R14 := R14.up hu
  clear hu
  refine rd1 14 rfl (fun K hK => ?_)
  go_simp
  go_at_call 35
  with_reducible refine (XAA _ _ _ _ _ (HS.out.up hU) R15).out.mono ?_
  rintro e y7 ⟨A16, c16, rfl, R16, hu⟩
  clear R15
  refine hK.out _ _ (MK.out _ (hU.trans hu)) (fun hHeld => ?_)
  clear hK K
  (try simp only [Act.put, tz1, tz2, tz3])
  replace hU := hU.trans hu
  replace R12 := R12.up hu
  replace R14 := R14.up hu
  clear hu
  refine rd1 16 rfl (fun K hK => ?_)
  go_simp
  go_at_call 29
  with_reducible refine (SM S (by omega) _ _ _ _ _ R16 (HS.out.up hU)).out.mono ?_
  rintro e y8 ⟨rfl, hu⟩
  refine hK.out _ _ (MK.out _ (hU.trans hu)) (fun hHeld => ?_)
  clear hK K
  (try simp only [Act.put, tz1, tz2, tz3])
  replace hU := hU.trans hu
  replace R12 := R12.up hu
  replace R14 := R14.up hu
  replace R16 := R16.up hu
  clear hu
  refine tk 17 rfl ?_
  (try simp only [Act.put, tz1, tz2, tz3])
  refine tk 18 rfl ?_
  (try simp only [Act.put, tz1, tz2, tz3])
  refine wpAnyH_done (by kernel_rfl) ?_ _
  clear hHeld MK
  replace kc := hU.cell kc
  replace kp := hU.cell kp
  replace kq := hU.cell kq
  replace kr := hU.cell kr
  replace HRA := Lib.hid (HRA.out.up hU)
  replace HRB := Lib.hid (HRB.out.up hU)
  replace HC := Lib.hid (HC.out.up hU)
  replace HS := Lib.hid (HS.out.up hU)
  replace HT := Lib.hid (HT.out.up hU)
  replace HB := Lib.hid (HB.out.up hU)
  replace HU := Lib.hid (HU.out.trans hU)
  clear RA RB XAB XBA XAA SM HRA HRB kl4
  have IT := fun w hr => Lib.hid (items_any L (by omega) A1 c1 w hr)
  have QS := fun id w hr => Lib.hid (cget12_any S (by omega) id A5 c5 gs.srt w hr)
  have QT := fun id w hr => Lib.hid (cget12_any T (by omega) id A6 c6 gt.srt w hr)
  have QB := fun id w hr => Lib.hid (cget12_any B (by omega) id A10 c10 gb.srt w hr)
  go_wp2_with fail
  refine (IT _ HC.out).out.mono ?_
  rintro e W ⟨v20, rfl, ho, hu⟩
  obtain ⟨A20, c20, rfl, r20⟩ := Rd.of_own ho
  replace kc := hu.cell kc
  replace kp := hu.cell kp
  replace kq := hu.cell kq
  replace kr := hu.cell kr
  replace HC := Lib.hid (HC.out.up hu)
  replace HS := Lib.hid (HS.out.up hu)
  replace HT := Lib.hid (HT.out.up hu)
  replace HB := Lib.hid (HB.out.up hu)
  replace HU := Lib.hid (HU.out.trans hu)
  have HI := Lib.hid r20
  clear ho hu r20 IT
  go_wp2_with fail
  go_loopg [13] L.length (fun gk i wr => ∃ k : Nat, k + gk = L.length ∧ i = .int .i64 (k : Int) ∧ Up W wr)
  case atStart => exact ⟨0, by omega, rfl, Up.refl _⟩
  case round =>
    obtain ⟨k, hk, rfl, hu⟩ := hrel
    by_cases hlt : k < L.length
    · obtain ⟨m, rfl⟩ : ∃ m, gk = m + 1 := ⟨gk - 1, by omega⟩
      have hltI : (k : Int) < (L.length : Int) := by omega
      have gS := GS k hlt
      have gT := GT k hlt
      have gB := GB k hlt
      have gN := gl.ne _ (List.getElem_mem hlt)
      clear GS GT GB
      obtain ⟨bI, oI, rfl, j0, j1⟩ := (HI.out.up hu).item hlt
      replace kc := hu.cell kc
      replace kp := hu.cell kp
      replace kq := hu.cell kq
      replace kr := hu.cell kr
      have HW := Lib.hid hu
      have HS2 := Lib.hid (HS.out.up hu)
      have HT2 := Lib.hid (HT.out.up hu)
      have HB2 := Lib.hid (HB.out.up hu)
      generalize L[k] = it at *
      obtain ⟨id, tx⟩ := it
      simp only at j0 j1 gS gT gB
      replace QS := QS id
      replace QT := QT id
      replace QB := QB id
      rw [gS] at QS
      rw [gT] at QT
      rw [gB] at QB
      generalize itR (anyR a) (id, tx) = ba at *
      generalize itR (anyR b) (id, tx) = bb at *
      clear hu gs gt gb gS gT gB HS HT HB HI HC kl1 kl2 kl3 LN AW
      cases ba <;> cases bb
      all_goals
        simp only [Bool.false_eq_true, if_false, if_true, Bool.or_true, Bool.or_false, Option.getD_some, Option.getD_none, Option.isSome_some, Option.isSome_none] at QS QT QB
        go_wp2_with fail
        have MK := Lib.hid (fun w' (h : Up wr w') => (⟨h.cell kp, h.cell j0⟩ : w'.cell? ⟨p, 0, none⟩ = some (.slice A5 S.length c5) ∧ w'.cell? ⟨bI, oI + k * 2, none⟩ = some (.int .u64 (id : Int))))
        refine wp_region_held_drew (S := fun w' => w'.cell? ⟨p, 0, none⟩ = some (.slice A5 S.length c5) ∧ w'.cell? ⟨bI, oI + k * 2, none⟩ = some (.int .u64 (id : Int))) (by kernel_rfl) (MK.out _ (Up.refl _).drew) (fun hHeld => ?_)
        have hU := (Up.refl wr).drew
        generalize World.drew wr = y0 at *
        refine tk 0 rfl ?_
        (try simp only [Act.put, tz1, tz2, tz3])
        refine tk 1 rfl ?_
        (try simp only [Act.put, tz1, tz2, tz3])
        refine tk 2 rfl ?_
        (try simp only [Act.put, tz1, tz2, tz3])
        refine tk 3 rfl ?_
        (try simp only [Act.put, tz1, tz2, tz3])
        refine tk 4 rfl ?_
        (try simp only [Act.put, tz1, tz2, tz3])
        refine tk 5 rfl ?_
        (try simp only [Act.put, tz1, tz2, tz3])
        refine rd1 6 rfl (fun K hK => ?_)
        go_simp
        go_at_call 16
        with_reducible refine (QS _ (HS2.out.up hU)).out.mono ?_
        rintro e y1 ⟨rfl, hu⟩
        refine hK.out _ _ (MK.out _ (hU.trans hu)) (fun hHeld => ?_)
        clear hK K
        (try simp only [Act.put, tz1, tz2, tz3])
        replace hU := hU.trans hu
        clear hu
        refine tk 7 rfl ?_
        (try simp only [Act.put, tz1, tz2, tz3])
        refine tk 8 rfl ?_
        (try simp only [Act.put, tz1, tz2, tz3])
        refine tk 9 rfl ?_
        (try simp only [Act.put, tz1, tz2, tz3])
        refine tk 10 rfl ?_
        (try simp only [Act.put, tz1, tz2, tz3])
        refine tk 11 rfl ?_
        (try simp only [Act.put, tz1, tz2, tz3])
        refine wpAnyH_done (by kernel_rfl) ?_ _
        clear hHeld MK
        replace kc := hU.cell kc
        replace kp := hU.cell kp
        replace kq := hU.cell kq
        replace kr := hU.cell kr
        replace j0 := hU.cell j0
        replace j1 := hU.cell j1
        replace HW := Lib.hid (HW.out.trans hU)
        replace HT2 := Lib.hid (HT2.out.up hU)
        replace HB2 := Lib.hid (HB2.out.up hU)
        clear hU HS2 QS
        go_wp2_with fail
        have MK := Lib.hid (fun w' (h : Up y1 w') => (⟨h.cell kq, h.cell j0⟩ : w'.cell? ⟨q, 0, none⟩ = some (.slice A6 T.length c6) ∧ w'.cell? ⟨bI, oI + k * 2, none⟩ = some (.int .u64 (id : Int))))
        refine wp_region_held_drew (S := fun w' => w'.cell? ⟨q, 0, none⟩ = some (.slice A6 T.length c6) ∧ w'.cell? ⟨bI, oI + k * 2, none⟩ = some (.int .u64 (id : Int))) (by kernel_rfl) (MK.out _ (Up.refl _).drew) (fun hHeld => ?_)
        have hU := (Up.refl y1).drew
        generalize World.drew y1 = u0 at *
        refine tk 0 rfl ?_
        (try simp only [Act.put, tz1, tz2, tz3])
        refine tk 1 rfl ?_
        (try simp only [Act.put, tz1, tz2, tz3])
        refine tk 2 rfl ?_
        (try simp only [Act.put, tz1, tz2, tz3])
        refine tk 3 rfl ?_
        (try simp only [Act.put, tz1, tz2, tz3])
        refine tk 4 rfl ?_
        (try simp only [Act.put, tz1, tz2, tz3])
        refine tk 5 rfl ?_
        (try simp only [Act.put, tz1, tz2, tz3])
        refine rd1 6 rfl (fun K hK => ?_)
        go_simp
        go_at_call 16
        with_reducible refine (QT _ (HT2.out.up hU)).out.mono ?_
        rintro e u1 ⟨rfl, hu⟩
        refine hK.out _ _ (MK.out _ (hU.trans hu)) (fun hHeld => ?_)
        clear hK K
        (try simp only [Act.put, tz1, tz2, tz3])
        replace hU := hU.trans hu
        clear hu
        refine tk 7 rfl ?_
        (try simp only [Act.put, tz1, tz2, tz3])
        refine tk 8 rfl ?_
        (try simp only [Act.put, tz1, tz2, tz3])
        refine tk 9 rfl ?_
        (try simp only [Act.put, tz1, tz2, tz3])
        refine tk 10 rfl ?_
        (try simp only [Act.put, tz1, tz2, tz3])
        refine tk 11 rfl ?_
        (try simp only [Act.put, tz1, tz2, tz3])
        refine wpAnyH_done (by kernel_rfl) ?_ _
        clear hHeld MK
        replace kc := hU.cell kc
        replace kp := hU.cell kp
        replace kq := hU.cell kq
        replace kr := hU.cell kr
        replace j0 := hU.cell j0
        replace j1 := hU.cell j1
        replace HW := Lib.hid (HW.out.trans hU)
        replace HB2 := Lib.hid (HB2.out.up hU)
        clear hU HT2 QT
        go_wp2_with fail
        have MK := Lib.hid (fun w' (h : Up u1 w') => (⟨h.cell kr, h.cell j0⟩ : w'.cell? ⟨r, 0, none⟩ = some (.slice A10 B.length c10) ∧ w'.cell? ⟨bI, oI + k * 2, none⟩ = some (.int .u64 (id : Int))))
        refine wp_region_held_drew (S := fun w' => w'.cell? ⟨r, 0, none⟩ = some (.slice A10 B.length c10) ∧ w'.cell? ⟨bI, oI + k * 2, none⟩ = some (.int .u64 (id : Int))) (by kernel_rfl) (MK.out _ (Up.refl _).drew) (fun hHeld => ?_)
        have hU := (Up.refl u1).drew
        generalize World.drew u1 = x0 at *
        refine tk 0 rfl ?_
        (try simp only [Act.put, tz1, tz2, tz3])
        refine tk 1 rfl ?_
        (try simp only [Act.put, tz1, tz2, tz3])
        refine tk 2 rfl ?_
        (try simp only [Act.put, tz1, tz2, tz3])
        refine tk 3 rfl ?_
        (try simp only [Act.put, tz1, tz2, tz3])
        refine tk 4 rfl ?_
        (try simp only [Act.put, tz1, tz2, tz3])
        refine tk 5 rfl ?_
        (try simp only [Act.put, tz1, tz2, tz3])
        refine rd1 6 rfl (fun K hK => ?_)
        go_simp
        go_at_call 16
        with_reducible refine (QB _ (HB2.out.up hU)).out.mono ?_
        rintro e x1 ⟨rfl, hu⟩
        refine hK.out _ _ (MK.out _ (hU.trans hu)) (fun hHeld => ?_)
        clear hK K
        (try simp only [Act.put, tz1, tz2, tz3])
        replace hU := hU.trans hu
        clear hu
        refine tk 7 rfl ?_
        (try simp only [Act.put, tz1, tz2, tz3])
        refine tk 8 rfl ?_
        (try simp only [Act.put, tz1, tz2, tz3])
        refine tk 9 rfl ?_
        (try simp only [Act.put, tz1, tz2, tz3])
        refine tk 10 rfl ?_
        (try simp only [Act.put, tz1, tz2, tz3])
        refine tk 11 rfl ?_
        (try simp only [Act.put, tz1, tz2, tz3])
        refine wpAnyH_done (by kernel_rfl) ?_ _
        clear hHeld MK
        replace kc := hU.cell kc
        replace kp := hU.cell kp
        replace kq := hU.cell kq
        replace kr := hU.cell kr
        replace j0 := hU.cell j0
        replace j1 := hU.cell j1
        replace HW := Lib.hid (HW.out.trans hU)
        clear hU HB2 QB
        go_wp2_with fail
        go_roundg m
        case measure => omega
        case rel => exact ⟨k + 1, by omega, by go_num, HW.out⟩
    · obtain rfl : k = L.length := by omega
      have HUx := Lib.hid hu
      clear GS GT GB
      replace kc := hu.cell kc
      replace kp := hu.cell kp
      replace kq := hu.cell kq
      replace kr := hu.cell kr
      replace HU := Lib.hid (HU.out.trans hu)
      have e1 : IntKind.i64.wrap ((S.length : Int) + (T.length : Int)) = ((S.length + T.length : Nat) : Int) := by rw [IntWalk.i64_in _ (by omega)]; omega
      have t1 : B.length ≤ S.length + T.length := kl3
      have e0 : (S.length : Int) + (T.length : Int) = ((S.length + T.length : Nat) : Int) := by omega
      obtain ⟨n, hn⟩ : ∃ n, S.length + T.length = n := ⟨_, rfl⟩
      rw [hn] at e1 t1
      have t1i : (B.length : Int) ≤ (n : Int) := by omega
      clear e0 hn kl3
      have t2i : (S.length : Int) ≤ (L.length : Int) := by omega
      have t2 : S.length ≤ L.length := kl1
      clear hu QS QT QB gs gt gb HC HS HT HB HI
      go_wp2_with fail
      have MK := Lib.hid (fun w' (h : Up wr w') => (⟨h.cell kc, h.cell kp, h.cell kr, h.cell kq⟩ : w'.cell? ⟨v1.heap.size, 0, none⟩ = some (.slice A1 L.length c1) ∧ w'.cell? ⟨p, 0, none⟩ = some (.slice A5 S.length c5) ∧ w'.cell? ⟨r, 0, none⟩ = some (.slice A10 B.length c10) ∧ w'.cell? ⟨q, 0, none⟩ = some (.slice A6 T.length c6)))
      refine wp_region_held_drew (S := fun w' => w'.cell? ⟨v1.heap.size, 0, none⟩ = some (.slice A1 L.length c1) ∧ w'.cell? ⟨p, 0, none⟩ = some (.slice A5 S.length c5) ∧ w'.cell? ⟨r, 0, none⟩ = some (.slice A10 B.length c10) ∧ w'.cell? ⟨q, 0, none⟩ = some (.slice A6 T.length c6)) (by kernel_rfl) (MK.out _ (Up.refl _).drew) (fun hHeld => ?_)
      have hU := (Up.refl wr).drew
      generalize wr.drew = y0 at *
      refine tk 0 rfl ?_
      (try simp only [Act.put, tz1, tz2, tz3])
      refine tk 2 rfl ?_
      (try simp only [Act.put, tz1, tz2, tz3])
      refine tk 4 rfl ?_
      (try simp only [Act.put, tz1, tz2, tz3])
      refine rd1 1 rfl (fun K hK => ?_)
      go_simp
      go_at_call 14
      with_reducible refine (LN _ _ _ _).out.mono ?_
      rintro e y1 ⟨rfl, hu⟩
      refine hK.out _ _ (MK.out _ (hU.trans hu)) (fun hHeld => ?_)
      clear hK K
      (try simp only [Act.put, tz1, tz2, tz3])
      replace hU := hU.trans hu
      clear hu
      refine rd1 3 rfl (fun K hK => ?_)
      go_simp
      go_at_call 14
      with_reducible refine (LN _ _ _ _).out.mono ?_
      rintro e y2 ⟨rfl, hu⟩
      refine hK.out _ _ (MK.out _ (hU.trans hu)) (fun hHeld => ?_)
      clear hK K
      (try simp only [Act.put, tz1, tz2, tz3])
      replace hU := hU.trans hu
      clear hu
      refine rd1 5 rfl (fun K hK => ?_)
      go_simp
      go_at_call 14
      with_reducible refine (LN _ _ _ _).out.mono ?_
      rintro e y3 ⟨rfl, hu⟩
      refine hK.out _ _ (MK.out _ (hU.trans hu)) (fun hHeld => ?_)
      clear hK K
      (try simp only [Act.put, tz1, tz2, tz3])
      replace hU := hU.trans hu
      clear hu
      refine tk 6 rfl ?_
      (try simp only [Act.put, tz1, tz2, tz3])
      refine tk 7 rfl ?_
      (try simp only [Act.put, tz1, tz2, tz3])
      refine tk 8 rfl ?_
      (try simp only [Act.put, tz1, tz2, tz3])
      refine tk 9 rfl ?_
      (try simp only [Act.put, tz1, tz2, tz3])
      refine tk 11 rfl ?_
      (try simp only [Act.put, tz1, tz2, tz3])
      refine rd1 10 rfl (fun K hK => ?_)
      go_simp
      go_at_call 14
      with_reducible refine (LN _ _ _ _).out.mono ?_
      rintro e y4 ⟨rfl, hu⟩
      refine hK.out _ _ (MK.out _ (hU.trans hu)) (fun hHeld => ?_)
      clear hK K
      (try simp only [Act.put, tz1, tz2, tz3])
      replace hU := hU.trans hu
      clear hu
      refine rd1 12 rfl (fun K hK => ?_)
      go_simp
      go_at_call 14
      with_reducible refine (LN _ _ _ _).out.mono ?_
      rintro e y5 ⟨rfl, hu⟩
      refine hK.out _ _ (MK.out _ (hU.trans hu)) (fun hHeld => ?_)
      clear hK K
      (try simp only [Act.put, tz1, tz2, tz3])
      replace hU := hU.trans hu
      clear hu
      refine tk 13 rfl ?_
      (try simp only [Act.put, tz1, tz2, tz3])
      refine tk 14 rfl ?_
      (try simp only [Act.put, tz1, tz2, tz3])
      refine tk 15 rfl ?_
      (try simp only [Act.put, tz1, tz2, tz3])
      refine rd1 16 rfl (fun K hK => ?_)
      go_simp
      go_at_call 34
      with_reducible refine (AW _).out.mono ?_
      rintro e y6 ⟨rfl, hu⟩
      refine hK.out _ _ (MK.out _ (hU.trans hu)) (fun hHeld => ?_)
      clear hK K
      (try simp only [Act.put, tz1, tz2, tz3])
      replace hU := hU.trans hu
      clear hu
      refine tk 17 rfl ?_
      (try simp only [Act.put, tz1, tz2, tz3])
      refine tk 18 rfl ?_
      (try simp only [Act.put, tz1, tz2, tz3])
      refine wpAnyH_done (by kernel_rfl) ?_ _
      go_wp2_with fail
      go_ret
      exact ⟨rfl, HU.out.trans hU⟩
end Go.Proofs.YtkfococpanailaaGreatDoor
