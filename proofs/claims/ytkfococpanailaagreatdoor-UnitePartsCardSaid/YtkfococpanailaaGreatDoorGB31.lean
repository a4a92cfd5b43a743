/- Walk: gazetteerlaw48.awake. -/
import Derived.Test.YtkfococpanailaaGreatDoorGB30
namespace Go.Proofs.YtkfococpanailaaGreatDoor
open Go.RowKit Go.Gz Go.Shelf

set_option maxRecDepth 100000
theorem merge6 {P : Option Addr → Nat → Option Addr → Nat → Nat → Nat → World → Prop} {F : Option Addr → Nat → Option Addr → Nat → Nat → Nat → World → Prop} {G : Prop}
    (h1 : (∀ a b c d e f Y, F a b c d e f Y → P a b c d e f Y) → G) (h2 : ∀ a b c d e f Y, F a b c d e f Y → P a b c d e f Y) : G := h1 h2
def La48 : Items := [(0, [97]), (1, [120])]
theorem good_La48 : Gz.Good La48 := ⟨by
  intro i j hi hj h
  have hi : i < 2 := hi
  have hj : j < 2 := hj
  obtain rfl : i = 0 := by omega
  obtain rfl : j = 1 := by omega
  show (0 : Nat) < 1
  decide, by decide, by decide, by decide, by decide⟩
theorem of_La48 (b : Nat) (w : World) (h : w.heap[b]? = some (.cells #[.int .u64 0, .string ⟨#[97]⟩, .int .u64 1, .string ⟨#[120]⟩] 37 (0, 0))) :
    Calls Tryz.prog 32 #[.slice (some ⟨b, 0, none⟩) 2 2] w (OfEnd w La48) := by
  refine (of_any La48 (good_fit good_La48) (by decide) (some ⟨b, 0, none⟩) 2 w ?_).mono ?_
  · exact ⟨rfl, by decide, by unfold maxLen; omega, fun h => by (cases h), fun _ => ⟨b, 0, rfl, fun j u hj => by
      rw [cell_of_row w b (0 + j) _ _ (0, 0) h, Nat.zero_add]
      simpa [itV, La48] using hj⟩⟩
  · rintro e w' ⟨M, hp, hs, A, c, he, hr, hu⟩
    obtain rfl := srt_perm good_La48.srt hs hp
    exact ⟨A, c, he, hr, hu⟩
def Lb48 : Items := [(0, [98]), (5, [99])]
theorem good_Lb48 : Gz.Good Lb48 := ⟨by
  intro i j hi hj h
  have hi : i < 2 := hi
  have hj : j < 2 := hj
  obtain rfl : i = 0 := by omega
  obtain rfl : j = 1 := by omega
  show (0 : Nat) < 5
  decide, by decide, by decide, by decide, by decide⟩
theorem of_Lb48 (b : Nat) (w : World) (h : w.heap[b]? = some (.cells #[.int .u64 0, .string ⟨#[98]⟩, .int .u64 5, .string ⟨#[99]⟩] 37 (0, 0))) :
    Calls Tryz.prog 32 #[.slice (some ⟨b, 0, none⟩) 2 2] w (OfEnd w Lb48) := by
  refine (of_any Lb48 (good_fit good_Lb48) (by decide) (some ⟨b, 0, none⟩) 2 w ?_).mono ?_
  · exact ⟨rfl, by decide, by unfold maxLen; omega, fun h => by (cases h), fun _ => ⟨b, 0, rfl, fun j u hj => by
      rw [cell_of_row w b (0 + j) _ _ (0, 0) h, Nat.zero_add]
      simpa [itV, Lb48] using hj⟩⟩
  · rintro e w' ⟨M, hp, hs, A, c, he, hr, hu⟩
    obtain rfl := srt_perm good_Lb48.srt hs hp
    exact ⟨A, c, he, hr, hu⟩
theorem make_17 (w : World) : (Instr.makeSlice 57 (.int .i64 17) (.int .i64 17)).run Tryz.prog w = .ok (.slice (some ⟨w.heap.size, 0, none⟩) 17 17) (w.alloc (.cells #[.string ⟨#[]⟩, .string ⟨#[]⟩, .string ⟨#[]⟩, .string ⟨#[]⟩, .string ⟨#[]⟩, .string ⟨#[]⟩, .string ⟨#[]⟩, .string ⟨#[]⟩, .string ⟨#[]⟩, .string ⟨#[]⟩, .string ⟨#[]⟩, .string ⟨#[]⟩, .string ⟨#[]⟩, .string ⟨#[]⟩, .string ⟨#[]⟩, .string ⟨#[]⟩, .string ⟨#[]⟩] 9)) := by kernel_rfl
theorem files_nil (p0 p1 p2 : Value) (w : World) : Calls Tryz.prog 31 #[.slice none 0 0, .agg #[p0, p1, p2]] w fun e w' => e = .returned (.tuple #[.string ⟨#[]⟩, .int .i64 2]) ∧ Up w w' := by
  have hu := (Up.refl w).alloc (.cells #[p0, p1, p2] 53)
  go_enter Tryz.func31, Tryz.ntmps31
  go_wp2_with fail
  go_ret2
  exact ⟨rfl, hu⟩
theorem files_many (A : Option Addr) (n c : Nat) (hn : 16 < n) (p0 p1 p2 : Value) (w : World) : Calls Tryz.prog 31 #[.slice A n c, .agg #[p0, p1, p2]] w fun e w' => e = .returned (.tuple #[.string ⟨#[]⟩, .int .i64 21]) ∧ Up w w' := by
  have hu := (Up.refl w).alloc (.cells #[p0, p1, p2] 53)
  have h1 : ((n : Int) == 0) = false := by rw [beq_eq_false_iff_ne]; omega
  have h2 : (16 : Int) < (n : Int) := by omega
  go_enter Tryz.func31, Tryz.ntmps31
  go_wp2_with fail
  go_ret2
  exact ⟨rfl, hu⟩
set_option maxHeartbeats 16000000 in
theorem awake48 (w : World) :
    Calls Tryz.prog 19 #[] w fun e w' => e = .returned (.bool true) ∧ Up w w' := by
  have OA := fun b w h => Lib.hid (of_La48 b w h)
  have OB := fun b w h => Lib.hid (of_Lb48 b w h)
  have e1 : overL La48 Lb48 = [(0, [98]), (1, [120]), (5, [99])] := by decide
  have e2 : someL La48 Lb48 false = [(1, [120])] := by decide
  have e3 : someL La48 Lb48 true = [(0, [97])] := by decide
  have OV : ∀ A1 c1 A2 c2 w, Rd w 2 A1 2 c1 (itV La48) → Rd w 2 A2 2 c2 (itV Lb48) → Hid (Calls Tryz.prog 21 #[.agg #[.slice A1 2 c1], .agg #[.slice A2 2 c2]] w (OfEnd w [(0, [98]), (1, [120]), (5, [99])])) := fun A1 c1 A2 c2 w h1 h2 => by
    rw [← e1]; exact Lib.hid (over48_ok La48 Lb48 good_La48 good_Lb48 (by decide) A1 c1 A2 c2 w h1 h2)
  have ON : ∀ A1 c1 A2 c2 w, Rd w 2 A1 2 c1 (itV La48) → Rd w 2 A2 2 c2 (itV Lb48) → Hid (Calls Tryz.prog 25 #[.agg #[.slice A1 2 c1], .agg #[.slice A2 2 c2]] w (ChaE w [(1, [120])])) := fun A1 c1 A2 c2 w h1 h2 => by
    rw [← e2]; exact Lib.hid (only48_any La48 Lb48 good_La48 (by decide) good_Lb48.srt (by decide) A1 c1 A2 c2 w h1 h2)
  have BO : ∀ A1 c1 A2 c2 w, Rd w 2 A1 2 c1 (itV La48) → Rd w 2 A2 2 c2 (itV Lb48) → Hid (Calls Tryz.prog 27 #[.agg #[.slice A1 2 c1], .agg #[.slice A2 2 c2]] w (ChaE w [(0, [97])])) := fun A1 c1 A2 c2 w h1 h2 => by
    rw [← e3]; exact Lib.hid (both48_any La48 Lb48 good_La48 (by decide) good_Lb48.srt (by decide) A1 c1 A2 c2 w h1 h2)
  have GU : ∀ A c w, Rd w 2 A 3 c (itV [(0, [98]), (1, [120]), (5, [99])]) → Hid (Calls Tryz.prog 16 #[.agg #[.slice A 3 c], .int .u64 0] w fun e w' => e = .returned (.tuple #[.string ⟨#[98]⟩, .bool true]) ∧ Up w w') := fun A c w hr => Lib.hid (cget12_any [(0, [98]), (1, [120]), (5, [99])] (by decide) 0 A c (by rw [← e1]; exact srt_over _ _ good_La48.srt) w hr)
  have GB : ∀ A c w, Rd w 2 A 1 c (itV [(0, [97])]) → Hid (Calls Tryz.prog 16 #[.agg #[.slice A 1 c], .int .u64 0] w fun e w' => e = .returned (.tuple #[.string ⟨#[97]⟩, .bool true]) ∧ Up w w') := fun A c w hr => Lib.hid (cget12_any [(0, [97])] (by decide) 0 A c (by rw [← e3]; exact srt_some good_La48.srt _ _) w hr)
  have FN := fun p0 p1 p2 w => Lib.hid (files_nil p0 p1 p2 w)
  have FM : ∀ A c p0 p1 p2 w, Hid (Calls Tryz.prog 31 #[.slice A 17 c, .agg #[p0, p1, p2]] w fun e w' => e = .returned (.tuple #[.string ⟨#[]⟩, .int .i64 21]) ∧ Up w w') := fun A c p0 p1 p2 w => Lib.hid (files_many A 17 c (by decide) p0 p1 p2 w)
  have LN := fun A (n : Nat) c w => Lib.hid (len_any A n c w)
  unfold OfEnd at OA OB OV
  unfold ChaE at ON BO
  simp only [show La48.length = 2 from rfl, show Lb48.length = 2 from rfl, List.length_cons, List.length_nil, Nat.zero_add, Nat.reduceAdd] at OA OB OV ON BO
  clear e1 e2 e3
  have n0 := heap_alloc_new w (.cells #[.int .u64 0, .string ⟨#[97]⟩, .int .u64 1, .string ⟨#[120]⟩] 37)
  have HU := Lib.hid ((Up.refl w).alloc (.cells #[.int .u64 0, .string ⟨#[97]⟩, .int .u64 1, .string ⟨#[120]⟩] 37))
  go_enter Tryz.func19, Tryz.ntmps19
  go_wp2_with fail
  with_reducible refine (OA _ _ n0).out.mono ?_
  rintro e w1 ⟨A1, c1, rfl, r1, hu⟩
  have n1 := new1 w1 26 (.slice A1 2 c1)
  have HR1 := Lib.hid (r1.up n1.1)
  have k1 := n1.2.1
  replace HU := Lib.hid (HU.out.trans (hu.trans n1.1))
  clear r1 hu n0 n1 OA
  have n0 := heap_alloc_new (w1.alloc (.cells #[.slice A1 2 c1] 26)) (.cells #[.int .u64 0, .string ⟨#[98]⟩, .int .u64 5, .string ⟨#[99]⟩] 37)
  rw [World.size_alloc] at n0
  have hv := (Up.refl (w1.alloc (.cells #[.slice A1 2 c1] 26))).alloc (.cells #[.int .u64 0, .string ⟨#[98]⟩, .int .u64 5, .string ⟨#[99]⟩] 37)
  go_wp2_with fail
  with_reducible refine (OB _ _ n0).out.mono ?_
  rintro e w2 ⟨A2, c2, rfl, r2, hu⟩
  have n2 := new1 w2 26 (.slice A2 2 c2)
  have hw := hv.trans (hu.trans n2.1)
  have HR2 := Lib.hid (r2.up n2.1)
  have k2 := n2.2.1
  replace k1 := hw.cell k1
  replace HR1 := Lib.hid (HR1.out.up hw)
  replace HU := Lib.hid (HU.out.trans hw)
  clear r2 hu n0 n2 OB hv hw
  go_wp2_with fail
  with_reducible refine (OV _ _ _ _ _ HR1.out HR2.out).out.mono ?_
  rintro e w3 ⟨A3, c3, rfl, r3, hu⟩
  have n3 := new1 w3 26 (.slice A3 3 c3)
  have hw := hu.trans n3.1
  have HR3 := Lib.hid (r3.up n3.1)
  have k3 := n3.2.1
  replace k1 := hw.cell k1
  replace k2 := hw.cell k2
  replace HR1 := Lib.hid (HR1.out.up hw)
  replace HR2 := Lib.hid (HR2.out.up hw)
  replace HU := Lib.hid (HU.out.trans hw)
  clear r3 hu n3 OV hw
  go_wp2_with fail
  with_reducible refine (GU _ _ _ HR3.out).out.mono ?_
  rintro e X ⟨rfl, hu⟩
  replace k1 := hu.cell k1
  replace k2 := hu.cell k2
  replace k3 := hu.cell k3
  replace HR1 := Lib.hid (HR1.out.up hu)
  replace HR2 := Lib.hid (HR2.out.up hu)
  replace HU := Lib.hid (HU.out.trans hu)
  clear hu GU HR3
  replace ON := ON A1 c1 A2 c2
  replace BO := BO A1 c1 A2 c2
  go_wp2_with fail
  apply merge6 (F := fun A5 c5 A6 c6 p q Y => Up X Y ∧ Y.heap[p]? = some (.cells #[.slice A5 1 c5] 26 (0, 0)) ∧ Y.heap[q]? = some (.cells #[.slice A6 1 c6] 26 (0, 0)) ∧ Rd Y 2 A5 1 c5 (itV [(1, [120])]) ∧ Rd Y 2 A6 1 c6 (itV [(0, [97])]) ∧ p ≠ q)
  · intro FIN
    have MK := Lib.hid (fun w' (h : Up X w') => (⟨h.cell k1, h.cell k2⟩ : w'.cell? ⟨w1.heap.size, 0, none⟩ = some (.slice A1 2 c1) ∧ w'.cell? ⟨w2.heap.size, 0, none⟩ = some (.slice A2 2 c2)))
    refine wp_region_held_drew (S := fun w' => w'.cell? ⟨w1.heap.size, 0, none⟩ = some (.slice A1 2 c1) ∧ w'.cell? ⟨w2.heap.size, 0, none⟩ = some (.slice A2 2 c2)) (by kernel_rfl) (MK.out _ (Up.refl _).drew) (fun hHeld => ?_)
    have hU := (Up.refl X).drew
    generalize X.drew = y0 at *
    first
      | (refine wpAnyH_take (i := 0) (oi := ⟨_, _, _, _, _, _⟩) (v := undef) rfl (by kernel_rfl) (by kernel_rfl) (by kernel_rfl) (fun _ _ _ h => h) (Or.inr ⟨by rfl, rfl⟩) (by assumption) ?_; (try simp only [Act.put, List.setIfI1ounds_toArray, List.set_cons_zero, List.set_cons_succ]))
      | (refine wpAnyH_take (i := 0) (oi := ⟨_, _, _, _, _, _⟩) (v := ?_) rfl (by kernel_rfl) (by kernel_rfl) (by kernel_rfl) (fun _ _ _ h => h) (Or.inl ⟨by rfl, ?_⟩) (by assumption) ?_
         rotate_left
         focus (intro w hSw; (try dsimp only at hSw); go_simp; first | done | with_reducible rfl)
         (try simp only [Act.put, List.setIfI1ounds_toArray, List.set_cons_zero, List.set_cons_succ]))
    first
      | (refine wpAnyH_take (i := 1) (oi := ⟨_, _, _, _, _, _⟩) (v := undef) rfl (by kernel_rfl) (by kernel_rfl) (by kernel_rfl) (fun _ _ _ h => h) (Or.inr ⟨by rfl, rfl⟩) (by assumption) ?_; (try simp only [Act.put, List.setIfI1ounds_toArray, List.set_cons_zero, List.set_cons_succ]))
      | (refine wpAnyH_take (i := 1) (oi := ⟨_, _, _, _, _, _⟩) (v := ?_) rfl (by kernel_rfl) (by kernel_rfl) (by kernel_rfl) (fun _ _ _ h => h) (Or.inl ⟨by rfl, ?_⟩) (by assumption) ?_
         rotate_left
         focus (intro w hSw; (try dsimp only at hSw); go_simp; first | done | with_reducible rfl)
         (try simp only [Act.put, List.setIfI1ounds_toArray, List.set_cons_zero, List.set_cons_succ]))
    first
      | (refine wpAnyH_take (i := 3) (oi := ⟨_, _, _, _, _, _⟩) (v := undef) rfl (by kernel_rfl) (by kernel_rfl) (by kernel_rfl) (fun _ _ _ h => h) (Or.inr ⟨by rfl, rfl⟩) (by assumption) ?_; (try simp only [Act.put, List.setIfI1ounds_toArray, List.set_cons_zero, List.set_cons_succ]))
      | (refine wpAnyH_take (i := 3) (oi := ⟨_, _, _, _, _, _⟩) (v := ?_) rfl (by kernel_rfl) (by kernel_rfl) (by kernel_rfl) (fun _ _ _ h => h) (Or.inl ⟨by rfl, ?_⟩) (by assumption) ?_
         rotate_left
         focus (intro w hSw; (try dsimp only at hSw); go_simp; first | done | with_reducible rfl)
         (try simp only [Act.put, List.setIfI1ounds_toArray, List.set_cons_zero, List.set_cons_succ]))
    first
      | (refine wpAnyH_take (i := 4) (oi := ⟨_, _, _, _, _, _⟩) (v := undef) rfl (by kernel_rfl) (by kernel_rfl) (by kernel_rfl) (fun _ _ _ h => h) (Or.inr ⟨by rfl, rfl⟩) (by assumption) ?_; (try simp only [Act.put, List.setIfI1ounds_toArray, List.set_cons_zero, List.set_cons_succ]))
      | (refine wpAnyH_take (i := 4) (oi := ⟨_, _, _, _, _, _⟩) (v := ?_) rfl (by kernel_rfl) (by kernel_rfl) (by kernel_rfl) (fun _ _ _ h => h) (Or.inl ⟨by rfl, ?_⟩) (by assumption) ?_
         rotate_left
         focus (intro w hSw; (try dsimp only at hSw); go_simp; first | done | with_reducible rfl)
         (try simp only [Act.put, List.setIfI1ounds_toArray, List.set_cons_zero, List.set_cons_succ]))
    refine wpAnyH_ready (rs := [2, 6, 7]) (by kernel_rfl) (by simp) ?_
    refine AllReadyH.cons (o := ⟨_, _, _, _, _, _⟩) rfl (fun K hK => ?_) (AllReadyH.cons (o := ⟨_, _, _, _, _, _⟩) rfl (fun K hK => ?_) (AllReadyH.cons (o := ⟨_, _, _, _, _, _⟩) rfl (fun K hK => ?_) AllReadyH.nil))
    · go_simp
      go_at_call 25
      with_reducible refine (ON _ (HR1.out.up hU) (HR2.out.up hU)).out.mono ?_
      rintro e y1 ⟨A5, c5, rfl, R5, hu⟩
      refine hK.out _ _ (MK.out _ (hU.trans hu)) (fun hHeld => ?_)
      clear hK K
      (try simp only [Act.put, List.setIfI1ounds_toArray, List.set_cons_zero, List.set_cons_succ])
      replace hU := hU.trans hu
      clear hu
      refine wpAnyH_ready (rs := [5, 6, 7]) (by kernel_rfl) (by simp) ?_
      refine AllReadyH.cons (o := ⟨_, _, _, _, _, _⟩) rfl (fun K hK => ?_) (AllReadyH.cons (o := ⟨_, _, _, _, _, _⟩) rfl (fun K hK => ?_) (AllReadyH.cons (o := ⟨_, _, _, _, _, _⟩) rfl (fun K hK => ?_) AllReadyH.nil))
      · go_simp
        go_at_call 27
        with_reducible refine (BO _ (HR1.out.up hU) (HR2.out.up hU)).out.mono ?_
        rintro e y2 ⟨A6, c6, rfl, R6, hu⟩
        refine hK.out _ _ (MK.out _ (hU.trans hu)) (fun hHeld => ?_)
        clear hK K
        (try simp only [Act.put, List.setIfI1ounds_toArray, List.set_cons_zero, List.set_cons_succ])
        replace hU := hU.trans hu
        replace R5 := R5.up hu
        clear hu
        refine wpAnyH_ready (rs := [6, 7]) (by kernel_rfl) (by simp) ?_
        refine AllReadyH.cons (o := ⟨_, _, _, _, _, _⟩) rfl (fun K hK => ?_) (AllReadyH.cons (o := ⟨_, _, _, _, _, _⟩) rfl (fun K hK => ?_) AllReadyH.nil)
        · go_simp
          refine hK.out _ _ (MK.out _ (hU.alloc _)) (fun hHeld => ?_)
          clear hK K
          (try simp only [Act.put, List.setIfI1ounds_toArray, List.set_cons_zero, List.set_cons_succ])
          have hB_p := heap_alloc_new y2 (.cells #[.slice none 0 0] 26)
          have ha := (Up.refl y2).alloc (.cells #[.slice none 0 0] 26)
          have hq_p := hU.le
          replace hU := hU.trans ha
          replace R5 := R5.up ha
          replace R6 := R6.up ha
          generalize y2.alloc (.cells #[.slice none 0 0] 26) = z3 at *
          generalize y2.heap.size = q_p at *
          clear ha
          refine wpAnyH_ready (rs := [7]) (by kernel_rfl) (by simp) ?_
          refine AllReadyH.cons (o := ⟨_, _, _, _, _, _⟩) rfl (fun K hK => ?_) AllReadyH.nil
          go_simp
          refine hK.out _ _ (MK.out _ (hU.alloc _)) (fun hHeld => ?_)
          clear hK K
          (try simp only [Act.put, List.setIfI1ounds_toArray, List.set_cons_zero, List.set_cons_succ])
          have hB_q := heap_alloc_new z3 (.cells #[.slice none 0 0] 26)
          have ha := (Up.refl z3).alloc (.cells #[.slice none 0 0] 26)
          have hq_q := hU.le
          have hne_p_q : q_p ≠ z3.heap.size := by have := (Array.getElem?_eq_some_iff.1 hB_p).1; omega
          replace hU := hU.trans ha
          replace R5 := R5.up ha
          replace R6 := R6.up ha
          replace hB_p := ha.obj hB_p
          generalize z3.alloc (.cells #[.slice none 0 0] 26) = z4 at *
          generalize z3.heap.size = q_q at *
          clear ha
          refine wpAnyH_ready (rs := [8]) (by kernel_rfl) (by simp) ?_
          refine AllReadyH.cons (o := ⟨_, _, _, _, _, _⟩) rfl (fun K hK => ?_) AllReadyH.nil
          obtain ⟨k_p, z_p⟩ := blk_one hB_p
          go_simp
          refine hK.out _ _ (MK.out _ (hU.set (p := ⟨q_p, 0, none⟩) hq_p _)) (fun hHeld => ?_)
          clear hK K k_p z_p
          (try simp only [Act.put, List.setIfI1ounds_toArray, List.set_cons_zero, List.set_cons_succ])
          replace hU := hU.set (p := ⟨q_p, 0, none⟩) hq_p (.slice A5 1 c5)
          replace R5 := R5.far hB_p (.slice A5 1 c5)
          replace R6 := R6.far hB_p (.slice A5 1 c5)
          replace hB_q := (Below.heap_setCell _ ⟨q_p, 0, none⟩ (.slice A5 1 c5) q_q (by simp; omega)).trans hB_q
          replace hB_p := heap_setCell_same _ q_p 0 _ _ (.slice A5 1 c5) hB_p
          generalize World.setCell _ ⟨q_p, 0, none⟩ (.slice A5 1 c5) = s5 at *
          refine wpAnyH_ready (rs := [9]) (by kernel_rfl) (by simp) ?_
          refine AllReadyH.cons (o := ⟨_, _, _, _, _, _⟩) rfl (fun K hK => ?_) AllReadyH.nil
          obtain ⟨k_q, z_q⟩ := blk_one hB_q
          go_simp
          refine hK.out _ _ (MK.out _ (hU.set (p := ⟨q_q, 0, none⟩) hq_q _)) (fun hHeld => ?_)
          clear hK K k_q z_q
          (try simp only [Act.put, List.setIfI1ounds_toArray, List.set_cons_zero, List.set_cons_succ])
          replace hU := hU.set (p := ⟨q_q, 0, none⟩) hq_q (.slice A6 1 c6)
          replace R5 := R5.far hB_q (.slice A6 1 c6)
          replace R6 := R6.far hB_q (.slice A6 1 c6)
          replace hB_p := (Below.heap_setCell _ ⟨q_q, 0, none⟩ (.slice A6 1 c6) q_p (by simp; omega)).trans hB_p
          replace hB_q := heap_setCell_same _ q_q 0 _ _ (.slice A6 1 c6) hB_q
          generalize World.setCell _ ⟨q_q, 0, none⟩ (.slice A6 1 c6) = s6 at *
          refine wpAnyH_done (by kernel_rfl) ?_ _
          exact FIN A5 c5 A6 c6 q_p q_q s6 ⟨hU, hB_p, hB_q, R5, R6, hne_p_q⟩
        · go_simp
          refine hK.out _ _ (MK.out _ (hU.alloc _)) (fun hHeld => ?_)
          clear hK K
          (try simp only [Act.put, List.setIfI1ounds_toArray, List.set_cons_zero, List.set_cons_succ])
          have hB_q := heap_alloc_new y2 (.cells #[.slice none 0 0] 26)
          have ha := (Up.refl y2).alloc (.cells #[.slice none 0 0] 26)
          have hq_q := hU.le
          replace hU := hU.trans ha
          replace R5 := R5.up ha
          replace R6 := R6.up ha
          generalize y2.alloc (.cells #[.slice none 0 0] 26) = z3 at *
          generalize y2.heap.size = q_q at *
          clear ha
          refine wpAnyH_ready (rs := [6]) (by kernel_rfl) (by simp) ?_
          refine AllReadyH.cons (o := ⟨_, _, _, _, _, _⟩) rfl (fun K hK => ?_) AllReadyH.nil
          go_simp
          refine hK.out _ _ (MK.out _ (hU.alloc _)) (fun hHeld => ?_)
          clear hK K
          (try simp only [Act.put, List.setIfI1ounds_toArray, List.set_cons_zero, List.set_cons_succ])
          have hB_p := heap_alloc_new z3 (.cells #[.slice none 0 0] 26)
          have ha := (Up.refl z3).alloc (.cells #[.slice none 0 0] 26)
          have hq_p := hU.le
          have hne_q_p : q_q ≠ z3.heap.size := by have := (Array.getElem?_eq_some_iff.1 hB_q).1; omega
          replace hU := hU.trans ha
          replace R5 := R5.up ha
          replace R6 := R6.up ha
          replace hB_q := ha.obj hB_q
          generalize z3.alloc (.cells #[.slice none 0 0] 26) = z4 at *
          generalize z3.heap.size = q_p at *
          clear ha
          refine wpAnyH_ready (rs := [8]) (by kernel_rfl) (by simp) ?_
          refine AllReadyH.cons (o := ⟨_, _, _, _, _, _⟩) rfl (fun K hK => ?_) AllReadyH.nil
          obtain ⟨k_p, z_p⟩ := blk_one hB_p
          go_simp
          refine hK.out _ _ (MK.out _ (hU.set (p := ⟨q_p, 0, none⟩) hq_p _)) (fun hHeld => ?_)
          clear hK K k_p z_p
          (try simp only [Act.put, List.setIfI1ounds_toArray, List.set_cons_zero, List.set_cons_succ])
          replace hU := hU.set (p := ⟨q_p, 0, none⟩) hq_p (.slice A5 1 c5)
          replace R5 := R5.far hB_p (.slice A5 1 c5)
          replace R6 := R6.far hB_p (.slice A5 1 c5)
          replace hB_q := (Below.heap_setCell _ ⟨q_p, 0, none⟩ (.slice A5 1 c5) q_q (by simp; omega)).trans hB_q
          replace hB_p := heap_setCell_same _ q_p 0 _ _ (.slice A5 1 c5) hB_p
          generalize World.setCell _ ⟨q_p, 0, none⟩ (.slice A5 1 c5) = s5 at *
          refine wpAnyH_ready (rs := [9]) (by kernel_rfl) (by simp) ?_
          refine AllReadyH.cons (o := ⟨_, _, _, _, _, _⟩) rfl (fun K hK => ?_) AllReadyH.nil
          obtain ⟨k_q, z_q⟩ := blk_one hB_q
          go_simp
          refine hK.out _ _ (MK.out _ (hU.set (p := ⟨q_q, 0, none⟩) hq_q _)) (fun hHeld => ?_)
          clear hK K k_q z_q
          (try simp only [Act.put, List.setIfI1ounds_toArray, List.set_cons_zero, List.set_cons_succ])
          replace hU := hU.set (p := ⟨q_q, 0, none⟩) hq_q (.slice A6 1 c6)
          replace R5 := R5.far hB_q (.slice A6 1 c6)
          replace R6 := R6.far hB_q (.slice A6 1 c6)
          replace hB_p := (Below.heap_setCell _ ⟨q_q, 0, none⟩ (.slice A6 1 c6) q_p (by simp; omega)).trans hB_p
          replace hB_q := heap_setCell_same _ q_q 0 _ _ (.slice A6 1 c6) hB_q
          generalize World.setCell _ ⟨q_q, 0, none⟩ (.slice A6 1 c6) = s6 at *
          refine wpAnyH_done (by kernel_rfl) ?_ _
          exact FIN A5 c5 A6 c6 q_p q_q s6 ⟨hU, hB_p, hB_q, R5, R6, hne_q_p.symm⟩
      · go_simp
        refine hK.out _ _ (MK.out _ (hU.alloc _)) (fun hHeld => ?_)
        clear hK K
        (try simp only [Act.put, List.setIfI1ounds_toArray, List.set_cons_zero, List.set_cons_succ])
        have hB_p := heap_alloc_new y1 (.cells #[.slice none 0 0] 26)
        have ha := (Up.refl y1).alloc (.cells #[.slice none 0 0] 26)
        have hq_p := hU.le
        replace hU := hU.trans ha
        replace R5 := R5.up ha
        generalize y1.alloc (.cells #[.slice none 0 0] 26) = z2 at *
        generalize y1.heap.size = q_p at *
        clear ha
        refine wpAnyH_ready (rs := [5, 7]) (by kernel_rfl) (by simp) ?_
        refine AllReadyH.cons (o := ⟨_, _, _, _, _, _⟩) rfl (fun K hK => ?_) (AllReadyH.cons (o := ⟨_, _, _, _, _, _⟩) rfl (fun K hK => ?_) AllReadyH.nil)
        · go_simp
          go_at_call 27
          with_reducible refine (BO _ (HR1.out.up hU) (HR2.out.up hU)).out.mono ?_
          rintro e y3 ⟨A6, c6, rfl, R6, hu⟩
          refine hK.out _ _ (MK.out _ (hU.trans hu)) (fun hHeld => ?_)
          clear hK K
          (try simp only [Act.put, List.setIfI1ounds_toArray, List.set_cons_zero, List.set_cons_succ])
          replace hU := hU.trans hu
          replace R5 := R5.up hu
          replace hB_p := hu.obj hB_p
          clear hu
          refine wpAnyH_ready (rs := [7]) (by kernel_rfl) (by simp) ?_
          refine AllReadyH.cons (o := ⟨_, _, _, _, _, _⟩) rfl (fun K hK => ?_) AllReadyH.nil
          go_simp
          refine hK.out _ _ (MK.out _ (hU.alloc _)) (fun hHeld => ?_)
          clear hK K
          (try simp only [Act.put, List.setIfI1ounds_toArray, List.set_cons_zero, List.set_cons_succ])
          have hB_q := heap_alloc_new y3 (.cells #[.slice none 0 0] 26)
          have ha := (Up.refl y3).alloc (.cells #[.slice none 0 0] 26)
          have hq_q := hU.le
          have hne_p_q : q_p ≠ y3.heap.size := by have := (Array.getElem?_eq_some_iff.1 hB_p).1; omega
          replace hU := hU.trans ha
          replace R5 := R5.up ha
          replace hB_p := ha.obj hB_p
          replace R6 := R6.up ha
          generalize y3.alloc (.cells #[.slice none 0 0] 26) = z4 at *
          generalize y3.heap.size = q_q at *
          clear ha
          refine wpAnyH_ready (rs := [8]) (by kernel_rfl) (by simp) ?_
          refine AllReadyH.cons (o := ⟨_, _, _, _, _, _⟩) rfl (fun K hK => ?_) AllReadyH.nil
          obtain ⟨k_p, z_p⟩ := blk_one hB_p
          go_simp
          refine hK.out _ _ (MK.out _ (hU.set (p := ⟨q_p, 0, none⟩) hq_p _)) (fun hHeld => ?_)
          clear hK K k_p z_p
          (try simp only [Act.put, List.setIfI1ounds_toArray, List.set_cons_zero, List.set_cons_succ])
          replace hU := hU.set (p := ⟨q_p, 0, none⟩) hq_p (.slice A5 1 c5)
          replace R5 := R5.far hB_p (.slice A5 1 c5)
          replace R6 := R6.far hB_p (.slice A5 1 c5)
          replace hB_q := (Below.heap_setCell _ ⟨q_p, 0, none⟩ (.slice A5 1 c5) q_q (by simp; omega)).trans hB_q
          replace hB_p := heap_setCell_same _ q_p 0 _ _ (.slice A5 1 c5) hB_p
          generalize World.setCell _ ⟨q_p, 0, none⟩ (.slice A5 1 c5) = s5 at *
          refine wpAnyH_ready (rs := [9]) (by kernel_rfl) (by simp) ?_
          refine AllReadyH.cons (o := ⟨_, _, _, _, _, _⟩) rfl (fun K hK => ?_) AllReadyH.nil
          obtain ⟨k_q, z_q⟩ := blk_one hB_q
          go_simp
          refine hK.out _ _ (MK.out _ (hU.set (p := ⟨q_q, 0, none⟩) hq_q _)) (fun hHeld => ?_)
          clear hK K k_q z_q
          (try simp only [Act.put, List.setIfI1ounds_toArray, List.set_cons_zero, List.set_cons_succ])
          replace hU := hU.set (p := ⟨q_q, 0, none⟩) hq_q (.slice A6 1 c6)
          replace R5 := R5.far hB_q (.slice A6 1 c6)
          replace hB_p := (Below.heap_setCell _ ⟨q_q, 0, none⟩ (.slice A6 1 c6) q_p (by simp; omega)).trans hB_p
          replace R6 := R6.far hB_q (.slice A6 1 c6)
          replace hB_q := heap_setCell_same _ q_q 0 _ _ (.slice A6 1 c6) hB_q
          generalize World.setCell _ ⟨q_q, 0, none⟩ (.slice A6 1 c6) = s6 at *
          refine wpAnyH_done (by kernel_rfl) ?_ _
          exact FIN A5 c5 A6 c6 q_p q_q s6 ⟨hU, hB_p, hB_q, R5, R6, hne_p_q⟩
        · go_simp
          refine hK.out _ _ (MK.out _ (hU.alloc _)) (fun hHeld => ?_)
          clear hK K
          (try simp only [Act.put, List.setIfI1ounds_toArray, List.set_cons_zero, List.set_cons_succ])
          have hB_q := heap_alloc_new z2 (.cells #[.slice none 0 0] 26)
          have ha := (Up.refl z2).alloc (.cells #[.slice none 0 0] 26)
          have hq_q := hU.le
          have hne_p_q : q_p ≠ z2.heap.size := by have := (Array.getElem?_eq_some_iff.1 hB_p).1; omega
          replace hU := hU.trans ha
          replace R5 := R5.up ha
          replace hB_p := ha.obj hB_p
          generalize z2.alloc (.cells #[.slice none 0 0] 26) = z3 at *
          generalize z2.heap.size = q_q at *
          clear ha
          refine wpAnyH_ready (rs := [5]) (by kernel_rfl) (by simp) ?_
          refine AllReadyH.cons (o := ⟨_, _, _, _, _, _⟩) rfl (fun K hK => ?_) AllReadyH.nil
          go_simp
          go_at_call 27
          with_reducible refine (BO _ (HR1.out.up hU) (HR2.out.up hU)).out.mono ?_
          rintro e y4 ⟨A6, c6, rfl, R6, hu⟩
          refine hK.out _ _ (MK.out _ (hU.trans hu)) (fun hHeld => ?_)
          clear hK K
          (try simp only [Act.put, List.setIfI1ounds_toArray, List.set_cons_zero, List.set_cons_succ])
          replace hU := hU.trans hu
          replace R5 := R5.up hu
          replace hB_p := hu.obj hB_p
          replace hB_q := hu.obj hB_q
          clear hu
          refine wpAnyH_ready (rs := [8]) (by kernel_rfl) (by simp) ?_
          refine AllReadyH.cons (o := ⟨_, _, _, _, _, _⟩) rfl (fun K hK => ?_) AllReadyH.nil
          obtain ⟨k_p, z_p⟩ := blk_one hB_p
          go_simp
          refine hK.out _ _ (MK.out _ (hU.set (p := ⟨q_p, 0, none⟩) hq_p _)) (fun hHeld => ?_)
          clear hK K k_p z_p
          (try simp only [Act.put, List.setIfI1ounds_toArray, List.set_cons_zero, List.set_cons_succ])
          replace hU := hU.set (p := ⟨q_p, 0, none⟩) hq_p (.slice A5 1 c5)
          replace R5 := R5.far hB_p (.slice A5 1 c5)
          replace hB_q := (Below.heap_setCell _ ⟨q_p, 0, none⟩ (.slice A5 1 c5) q_q (by simp; omega)).trans hB_q
          replace R6 := R6.far hB_p (.slice A5 1 c5)
          replace hB_p := heap_setCell_same _ q_p 0 _ _ (.slice A5 1 c5) hB_p
          generalize World.setCell _ ⟨q_p, 0, none⟩ (.slice A5 1 c5) = s5 at *
          refine wpAnyH_ready (rs := [9]) (by kernel_rfl) (by simp) ?_
          refine AllReadyH.cons (o := ⟨_, _, _, _, _, _⟩) rfl (fun K hK => ?_) AllReadyH.nil
          obtain ⟨k_q, z_q⟩ := blk_one hB_q
          go_simp
          refine hK.out _ _ (MK.out _ (hU.set (p := ⟨q_q, 0, none⟩) hq_q _)) (fun hHeld => ?_)
          clear hK K k_q z_q
          (try simp only [Act.put, List.setIfI1ounds_toArray, List.set_cons_zero, List.set_cons_succ])
          replace hU := hU.set (p := ⟨q_q, 0, none⟩) hq_q (.slice A6 1 c6)
          replace R5 := R5.far hB_q (.slice A6 1 c6)
          replace hB_p := (Below.heap_setCell _ ⟨q_q, 0, none⟩ (.slice A6 1 c6) q_p (by simp; omega)).trans hB_p
          replace R6 := R6.far hB_q (.slice A6 1 c6)
          replace hB_q := heap_setCell_same _ q_q 0 _ _ (.slice A6 1 c6) hB_q
          generalize World.setCell _ ⟨q_q, 0, none⟩ (.slice A6 1 c6) = s6 at *
          refine wpAnyH_done (by kernel_rfl) ?_ _
          exact FIN A5 c5 A6 c6 q_p q_q s6 ⟨hU, hB_p, hB_q, R5, R6, hne_p_q⟩
      · go_simp
        refine hK.out _ _ (MK.out _ (hU.alloc _)) (fun hHeld => ?_)
        clear hK K
        (try simp only [Act.put, List.setIfI1ounds_toArray, List.set_cons_zero, List.set_cons_succ])
        have hB_q := heap_alloc_new y1 (.cells #[.slice none 0 0] 26)
        have ha := (Up.refl y1).alloc (.cells #[.slice none 0 0] 26)
        have hq_q := hU.le
        replace hU := hU.trans ha
        replace R5 := R5.up ha
        generalize y1.alloc (.cells #[.slice none 0 0] 26) = z2 at *
        generalize y1.heap.size = q_q at *
        clear ha
        refine wpAnyH_ready (rs := [5, 6]) (by kernel_rfl) (by simp) ?_
        refine AllReadyH.cons (o := ⟨_, _, _, _, _, _⟩) rfl (fun K hK => ?_) (AllReadyH.cons (o := ⟨_, _, _, _, _, _⟩) rfl (fun K hK => ?_) AllReadyH.nil)
        · go_simp
          go_at_call 27
          with_reducible refine (BO _ (HR1.out.up hU) (HR2.out.up hU)).out.mono ?_
          rintro e y3 ⟨A6, c6, rfl, R6, hu⟩
          refine hK.out _ _ (MK.out _ (hU.trans hu)) (fun hHeld => ?_)
          clear hK K
          (try simp only [Act.put, List.setIfI1ounds_toArray, List.set_cons_zero, List.set_cons_succ])
          replace hU := hU.trans hu
          replace R5 := R5.up hu
          replace hB_q := hu.obj hB_q
          clear hu
          refine wpAnyH_ready (rs := [6]) (by kernel_rfl) (by simp) ?_
          refine AllReadyH.cons (o := ⟨_, _, _, _, _, _⟩) rfl (fun K hK => ?_) AllReadyH.nil
          go_simp
          refine hK.out _ _ (MK.out _ (hU.alloc _)) (fun hHeld => ?_)
          clear hK K
          (try simp only [Act.put, List.setIfI1ounds_toArray, List.set_cons_zero, List.set_cons_succ])
          have hB_p := heap_alloc_new y3 (.cells #[.slice none 0 0] 26)
          have ha := (Up.refl y3).alloc (.cells #[.slice none 0 0] 26)
          have hq_p := hU.le
          have hne_q_p : q_q ≠ y3.heap.size := by have := (Array.getElem?_eq_some_iff.1 hB_q).1; omega
          replace hU := hU.trans ha
          replace R5 := R5.up ha
          replace hB_q := ha.obj hB_q
          replace R6 := R6.up ha
          generalize y3.alloc (.cells #[.slice none 0 0] 26) = z4 at *
          generalize y3.heap.size = q_p at *
          clear ha
          refine wpAnyH_ready (rs := [8]) (by kernel_rfl) (by simp) ?_
          refine AllReadyH.cons (o := ⟨_, _, _, _, _, _⟩) rfl (fun K hK => ?_) AllReadyH.nil
          obtain ⟨k_p, z_p⟩ := blk_one hB_p
          go_simp
          refine hK.out _ _ (MK.out _ (hU.set (p := ⟨q_p, 0, none⟩) hq_p _)) (fun hHeld => ?_)
          clear hK K k_p z_p
          (try simp only [Act.put, List.setIfI1ounds_toArray, List.set_cons_zero, List.set_cons_succ])
          replace hU := hU.set (p := ⟨q_p, 0, none⟩) hq_p (.slice A5 1 c5)
          replace R5 := R5.far hB_p (.slice A5 1 c5)
          replace hB_q := (Below.heap_setCell _ ⟨q_p, 0, none⟩ (.slice A5 1 c5) q_q (by simp; omega)).trans hB_q
          replace R6 := R6.far hB_p (.slice A5 1 c5)
          replace hB_p := heap_setCell_same _ q_p 0 _ _ (.slice A5 1 c5) hB_p
          generalize World.setCell _ ⟨q_p, 0, none⟩ (.slice A5 1 c5) = s5 at *
          refine wpAnyH_ready (rs := [9]) (by kernel_rfl) (by simp) ?_
          refine AllReadyH.cons (o := ⟨_, _, _, _, _, _⟩) rfl (fun K hK => ?_) AllReadyH.nil
          obtain ⟨k_q, z_q⟩ := blk_one hB_q
          go_simp
          refine hK.out _ _ (MK.out _ (hU.set (p := ⟨q_q, 0, none⟩) hq_q _)) (fun hHeld => ?_)
          clear hK K k_q z_q
          (try simp only [Act.put, List.setIfI1ounds_toArray, List.set_cons_zero, List.set_cons_succ])
          replace hU := hU.set (p := ⟨q_q, 0, none⟩) hq_q (.slice A6 1 c6)
          replace R5 := R5.far hB_q (.slice A6 1 c6)
          replace R6 := R6.far hB_q (.slice A6 1 c6)
          replace hB_p := (Below.heap_setCell _ ⟨q_q, 0, none⟩ (.slice A6 1 c6) q_p (by simp; omega)).trans hB_p
          replace hB_q := heap_setCell_same _ q_q 0 _ _ (.slice A6 1 c6) hB_q
          generalize World.setCell _ ⟨q_q, 0, none⟩ (.slice A6 1 c6) = s6 at *
          refine wpAnyH_done (by kernel_rfl) ?_ _
          exact FIN A5 c5 A6 c6 q_p q_q s6 ⟨hU, hB_p, hB_q, R5, R6, hne_q_p.symm⟩
        · go_simp
          refine hK.out _ _ (MK.out _ (hU.alloc _)) (fun hHeld => ?_)
          clear hK K
          (try simp only [Act.put, List.setIfI1ounds_toArray, List.set_cons_zero, List.set_cons_succ])
          have hB_p := heap_alloc_new z2 (.cells #[.slice none 0 0] 26)
          have ha := (Up.refl z2).alloc (.cells #[.slice none 0 0] 26)
          have hq_p := hU.le
          have hne_q_p : q_q ≠ z2.heap.size := by have := (Array.getElem?_eq_some_iff.1 hB_q).1; omega
          replace hU := hU.trans ha
          replace R5 := R5.up ha
          replace hB_q := ha.obj hB_q
          generalize z2.alloc (.cells #[.slice none 0 0] 26) = z3 at *
          generalize z2.heap.size = q_p at *
          clear ha
          refine wpAnyH_ready (rs := [5]) (by kernel_rfl) (by simp) ?_
          refine AllReadyH.cons (o := ⟨_, _, _, _, _, _⟩) rfl (fun K hK => ?_) AllReadyH.nil
          go_simp
          go_at_call 27
          with_reducible refine (BO _ (HR1.out.up hU) (HR2.out.up hU)).out.mono ?_
          rintro e y4 ⟨A6, c6, rfl, R6, hu⟩
          refine hK.out _ _ (MK.out _ (hU.trans hu)) (fun hHeld => ?_)
          clear hK K
          (try simp only [Act.put, List.setIfI1ounds_toArray, List.set_cons_zero, List.set_cons_succ])
          replace hU := hU.trans hu
          replace R5 := R5.up hu
          replace hB_q := hu.obj hB_q
          replace hB_p := hu.obj hB_p
          clear hu
          refine wpAnyH_ready (rs := [8]) (by kernel_rfl) (by simp) ?_
          refine AllReadyH.cons (o := ⟨_, _, _, _, _, _⟩) rfl (fun K hK => ?_) AllReadyH.nil
          obtain ⟨k_p, z_p⟩ := blk_one hB_p
          go_simp
          refine hK.out _ _ (MK.out _ (hU.set (p := ⟨q_p, 0, none⟩) hq_p _)) (fun hHeld => ?_)
          clear hK K k_p z_p
          (try simp only [Act.put, List.setIfI1ounds_toArray, List.set_cons_zero, List.set_cons_succ])
          replace hU := hU.set (p := ⟨q_p, 0, none⟩) hq_p (.slice A5 1 c5)
          replace R5 := R5.far hB_p (.slice A5 1 c5)
          replace hB_q := (Below.heap_setCell _ ⟨q_p, 0, none⟩ (.slice A5 1 c5) q_q (by simp; omega)).trans hB_q
          replace R6 := R6.far hB_p (.slice A5 1 c5)
          replace hB_p := heap_setCell_same _ q_p 0 _ _ (.slice A5 1 c5) hB_p
          generalize World.setCell _ ⟨q_p, 0, none⟩ (.slice A5 1 c5) = s5 at *
          refine wpAnyH_ready (rs := [9]) (by kernel_rfl) (by simp) ?_
          refine AllReadyH.cons (o := ⟨_, _, _, _, _, _⟩) rfl (fun K hK => ?_) AllReadyH.nil
          obtain ⟨k_q, z_q⟩ := blk_one hB_q
          go_simp
          refine hK.out _ _ (MK.out _ (hU.set (p := ⟨q_q, 0, none⟩) hq_q _)) (fun hHeld => ?_)
          clear hK K k_q z_q
          (try simp only [Act.put, List.setIfI1ounds_toArray, List.set_cons_zero, List.set_cons_succ])
          replace hU := hU.set (p := ⟨q_q, 0, none⟩) hq_q (.slice A6 1 c6)
          replace R5 := R5.far hB_q (.slice A6 1 c6)
          replace hB_p := (Below.heap_setCell _ ⟨q_q, 0, none⟩ (.slice A6 1 c6) q_p (by simp; omega)).trans hB_p
          replace R6 := R6.far hB_q (.slice A6 1 c6)
          replace hB_q := heap_setCell_same _ q_q 0 _ _ (.slice A6 1 c6) hB_q
          generalize World.setCell _ ⟨q_q, 0, none⟩ (.slice A6 1 c6) = s6 at *
          refine wpAnyH_done (by kernel_rfl) ?_ _
          exact FIN A5 c5 A6 c6 q_p q_q s6 ⟨hU, hB_p, hB_q, R5, R6, hne_q_p.symm⟩
    · go_simp
      refine hK.out _ _ (MK.out _ (hU.alloc _)) (fun hHeld => ?_)
      clear hK K
      (try simp only [Act.put, List.setIfI1ounds_toArray, List.set_cons_zero, List.set_cons_succ])
      have hB_p := heap_alloc_new y0 (.cells #[.slice none 0 0] 26)
      have ha := (Up.refl y0).alloc (.cells #[.slice none 0 0] 26)
      have hq_p := hU.le
      replace hU := hU.trans ha
      generalize y0.alloc (.cells #[.slice none 0 0] 26) = z1 at *
      generalize y0.heap.size = q_p at *
      clear ha
      refine wpAnyH_ready (rs := [2, 7]) (by kernel_rfl) (by simp) ?_
      refine AllReadyH.cons (o := ⟨_, _, _, _, _, _⟩) rfl (fun K hK => ?_) (AllReadyH.cons (o := ⟨_, _, _, _, _, _⟩) rfl (fun K hK => ?_) AllReadyH.nil)
      · go_simp
        go_at_call 25
        with_reducible refine (ON _ (HR1.out.up hU) (HR2.out.up hU)).out.mono ?_
        rintro e y2 ⟨A5, c5, rfl, R5, hu⟩
        refine hK.out _ _ (MK.out _ (hU.trans hu)) (fun hHeld => ?_)
        clear hK K
        (try simp only [Act.put, List.setIfI1ounds_toArray, List.set_cons_zero, List.set_cons_succ])
        replace hU := hU.trans hu
        replace hB_p := hu.obj hB_p
        clear hu
        refine wpAnyH_ready (rs := [5, 7]) (by kernel_rfl) (by simp) ?_
        refine AllReadyH.cons (o := ⟨_, _, _, _, _, _⟩) rfl (fun K hK => ?_) (AllReadyH.cons (o := ⟨_, _, _, _, _, _⟩) rfl (fun K hK => ?_) AllReadyH.nil)
        · go_simp
          go_at_call 27
          with_reducible refine (BO _ (HR1.out.up hU) (HR2.out.up hU)).out.mono ?_
          rintro e y3 ⟨A6, c6, rfl, R6, hu⟩
          refine hK.out _ _ (MK.out _ (hU.trans hu)) (fun hHeld => ?_)
          clear hK K
          (try simp only [Act.put, List.setIfI1ounds_toArray, List.set_cons_zero, List.set_cons_succ])
          replace hU := hU.trans hu
          replace hB_p := hu.obj hB_p
          replace R5 := R5.up hu
          clear hu
          refine wpAnyH_ready (rs := [7]) (by kernel_rfl) (by simp) ?_
          refine AllReadyH.cons (o := ⟨_, _, _, _, _, _⟩) rfl (fun K hK => ?_) AllReadyH.nil
          go_simp
          refine hK.out _ _ (MK.out _ (hU.alloc _)) (fun hHeld => ?_)
          clear hK K
          (try simp only [Act.put, List.setIfI1ounds_toArray, List.set_cons_zero, List.set_cons_succ])
          have hB_q := heap_alloc_new y3 (.cells #[.slice none 0 0] 26)
          have ha := (Up.refl y3).alloc (.cells #[.slice none 0 0] 26)
          have hq_q := hU.le
          have hne_p_q : q_p ≠ y3.heap.size := by have := (Array.getElem?_eq_some_iff.1 hB_p).1; omega
          replace hU := hU.trans ha
          replace hB_p := ha.obj hB_p
          replace R5 := R5.up ha
          replace R6 := R6.up ha
          generalize y3.alloc (.cells #[.slice none 0 0] 26) = z4 at *
          generalize y3.heap.size = q_q at *
          clear ha
          refine wpAnyH_ready (rs := [8]) (by kernel_rfl) (by simp) ?_
          refine AllReadyH.cons (o := ⟨_, _, _, _, _, _⟩) rfl (fun K hK => ?_) AllReadyH.nil
          obtain ⟨k_p, z_p⟩ := blk_one hB_p
          go_simp
          refine hK.out _ _ (MK.out _ (hU.set (p := ⟨q_p, 0, none⟩) hq_p _)) (fun hHeld => ?_)
          clear hK K k_p z_p
          (try simp only [Act.put, List.setIfI1ounds_toArray, List.set_cons_zero, List.set_cons_succ])
          replace hU := hU.set (p := ⟨q_p, 0, none⟩) hq_p (.slice A5 1 c5)
          replace R5 := R5.far hB_p (.slice A5 1 c5)
          replace R6 := R6.far hB_p (.slice A5 1 c5)
          replace hB_q := (Below.heap_setCell _ ⟨q_p, 0, none⟩ (.slice A5 1 c5) q_q (by simp; omega)).trans hB_q
          replace hB_p := heap_setCell_same _ q_p 0 _ _ (.slice A5 1 c5) hB_p
          generalize World.setCell _ ⟨q_p, 0, none⟩ (.slice A5 1 c5) = s5 at *
          refine wpAnyH_ready (rs := [9]) (by kernel_rfl) (by simp) ?_
          refine AllReadyH.cons (o := ⟨_, _, _, _, _, _⟩) rfl (fun K hK => ?_) AllReadyH.nil
          obtain ⟨k_q, z_q⟩ := blk_one hB_q
          go_simp
          refine hK.out _ _ (MK.out _ (hU.set (p := ⟨q_q, 0, none⟩) hq_q _)) (fun hHeld => ?_)
          clear hK K k_q z_q
          (try simp only [Act.put, List.setIfI1ounds_toArray, List.set_cons_zero, List.set_cons_succ])
          replace hU := hU.set (p := ⟨q_q, 0, none⟩) hq_q (.slice A6 1 c6)
          replace hB_p := (Below.heap_setCell _ ⟨q_q, 0, none⟩ (.slice A6 1 c6) q_p (by simp; omega)).trans hB_p
          replace R5 := R5.far hB_q (.slice A6 1 c6)
          replace R6 := R6.far hB_q (.slice A6 1 c6)
          replace hB_q := heap_setCell_same _ q_q 0 _ _ (.slice A6 1 c6) hB_q
          generalize World.setCell _ ⟨q_q, 0, none⟩ (.slice A6 1 c6) = s6 at *
          refine wpAnyH_done (by kernel_rfl) ?_ _
          exact FIN A5 c5 A6 c6 q_p q_q s6 ⟨hU, hB_p, hB_q, R5, R6, hne_p_q⟩
        · go_simp
          refine hK.out _ _ (MK.out _ (hU.alloc _)) (fun hHeld => ?_)
          clear hK K
          (try simp only [Act.put, List.setIfI1ounds_toArray, List.set_cons_zero, List.set_cons_succ])
          have hB_q := heap_alloc_new y2 (.cells #[.slice none 0 0] 26)
          have ha := (Up.refl y2).alloc (.cells #[.slice none 0 0] 26)
          have hq_q := hU.le
          have hne_p_q : q_p ≠ y2.heap.size := by have := (Array.getElem?_eq_some_iff.1 hB_p).1; omega
          replace hU := hU.trans ha
          replace hB_p := ha.obj hB_p
          replace R5 := R5.up ha
          generalize y2.alloc (.cells #[.slice none 0 0] 26) = z3 at *
          generalize y2.heap.size = q_q at *
          clear ha
          refine wpAnyH_ready (rs := [5]) (by kernel_rfl) (by simp) ?_
          refine AllReadyH.cons (o := ⟨_, _, _, _, _, _⟩) rfl (fun K hK => ?_) AllReadyH.nil
          go_simp
          go_at_call 27
          with_reducible refine (BO _ (HR1.out.up hU) (HR2.out.up hU)).out.mono ?_
          rintro e y4 ⟨A6, c6, rfl, R6, hu⟩
          refine hK.out _ _ (MK.out _ (hU.trans hu)) (fun hHeld => ?_)
          clear hK K
          (try simp only [Act.put, List.setIfI1ounds_toArray, List.set_cons_zero, List.set_cons_succ])
          replace hU := hU.trans hu
          replace hB_p := hu.obj hB_p
          replace R5 := R5.up hu
          replace hB_q := hu.obj hB_q
          clear hu
          refine wpAnyH_ready (rs := [8]) (by kernel_rfl) (by simp) ?_
          refine AllReadyH.cons (o := ⟨_, _, _, _, _, _⟩) rfl (fun K hK => ?_) AllReadyH.nil
          obtain ⟨k_p, z_p⟩ := blk_one hB_p
          go_simp
          refine hK.out _ _ (MK.out _ (hU.set (p := ⟨q_p, 0, none⟩) hq_p _)) (fun hHeld => ?_)
          clear hK K k_p z_p
          (try simp only [Act.put, List.setIfI1ounds_toArray, List.set_cons_zero, List.set_cons_succ])
          replace hU := hU.set (p := ⟨q_p, 0, none⟩) hq_p (.slice A5 1 c5)
          replace R5 := R5.far hB_p (.slice A5 1 c5)
          replace hB_q := (Below.heap_setCell _ ⟨q_p, 0, none⟩ (.slice A5 1 c5) q_q (by simp; omega)).trans hB_q
          replace R6 := R6.far hB_p (.slice A5 1 c5)
          replace hB_p := heap_setCell_same _ q_p 0 _ _ (.slice A5 1 c5) hB_p
          generalize World.setCell _ ⟨q_p, 0, none⟩ (.slice A5 1 c5) = s5 at *
          refine wpAnyH_ready (rs := [9]) (by kernel_rfl) (by simp) ?_
          refine AllReadyH.cons (o := ⟨_, _, _, _, _, _⟩) rfl (fun K hK => ?_) AllReadyH.nil
          obtain ⟨k_q, z_q⟩ := blk_one hB_q
          go_simp
          refine hK.out _ _ (MK.out _ (hU.set (p := ⟨q_q, 0, none⟩) hq_q _)) (fun hHeld => ?_)
          clear hK K k_q z_q
          (try simp only [Act.put, List.setIfI1ounds_toArray, List.set_cons_zero, List.set_cons_succ])
          replace hU := hU.set (p := ⟨q_q, 0, none⟩) hq_q (.slice A6 1 c6)
          replace hB_p := (Below.heap_setCell _ ⟨q_q, 0, none⟩ (.slice A6 1 c6) q_p (by simp; omega)).trans hB_p
          replace R5 := R5.far hB_q (.slice A6 1 c6)
          replace R6 := R6.far hB_q (.slice A6 1 c6)
          replace hB_q := heap_setCell_same _ q_q 0 _ _ (.slice A6 1 c6) hB_q
          generalize World.setCell _ ⟨q_q, 0, none⟩ (.slice A6 1 c6) = s6 at *
          refine wpAnyH_done (by kernel_rfl) ?_ _
          exact FIN A5 c5 A6 c6 q_p q_q s6 ⟨hU, hB_p, hB_q, R5, R6, hne_p_q⟩
      · go_simp
        refine hK.out _ _ (MK.out _ (hU.alloc _)) (fun hHeld => ?_)
        clear hK K
        (try simp only [Act.put, List.setIfI1ounds_toArray, List.set_cons_zero, List.set_cons_succ])
        have hB_q := heap_alloc_new z1 (.cells #[.slice none 0 0] 26)
        have ha := (Up.refl z1).alloc (.cells #[.slice none 0 0] 26)
        have hq_q := hU.le
        have hne_p_q : q_p ≠ z1.heap.size := by have := (Array.getElem?_eq_some_iff.1 hB_p).1; omega
        replace hU := hU.trans ha
        replace hB_p := ha.obj hB_p
        generalize z1.alloc (.cells #[.slice none 0 0] 26) = z2 at *
        generalize z1.heap.size = q_q at *
        clear ha
        refine wpAnyH_ready (rs := [2]) (by kernel_rfl) (by simp) ?_
        refine AllReadyH.cons (o := ⟨_, _, _, _, _, _⟩) rfl (fun K hK => ?_) AllReadyH.nil
        go_simp
        go_at_call 25
        with_reducible refine (ON _ (HR1.out.up hU) (HR2.out.up hU)).out.mono ?_
        rintro e y3 ⟨A5, c5, rfl, R5, hu⟩
        refine hK.out _ _ (MK.out _ (hU.trans hu)) (fun hHeld => ?_)
        clear hK K
        (try simp only [Act.put, List.setIfI1ounds_toArray, List.set_cons_zero, List.set_cons_succ])
        replace hU := hU.trans hu
        replace hB_p := hu.obj hB_p
        replace hB_q := hu.obj hB_q
        clear hu
        refine wpAnyH_ready (rs := [5]) (by kernel_rfl) (by simp) ?_
        refine AllReadyH.cons (o := ⟨_, _, _, _, _, _⟩) rfl (fun K hK => ?_) AllReadyH.nil
        go_simp
        go_at_call 27
        with_reducible refine (BO _ (HR1.out.up hU) (HR2.out.up hU)).out.mono ?_
        rintro e y4 ⟨A6, c6, rfl, R6, hu⟩
        refine hK.out _ _ (MK.out _ (hU.trans hu)) (fun hHeld => ?_)
        clear hK K
        (try simp only [Act.put, List.setIfI1ounds_toArray, List.set_cons_zero, List.set_cons_succ])
        replace hU := hU.trans hu
        replace hB_p := hu.obj hB_p
        replace hB_q := hu.obj hB_q
        replace R5 := R5.up hu
        clear hu
        refine wpAnyH_ready (rs := [8]) (by kernel_rfl) (by simp) ?_
        refine AllReadyH.cons (o := ⟨_, _, _, _, _, _⟩) rfl (fun K hK => ?_) AllReadyH.nil
        obtain ⟨k_p, z_p⟩ := blk_one hB_p
        go_simp
        refine hK.out _ _ (MK.out _ (hU.set (p := ⟨q_p, 0, none⟩) hq_p _)) (fun hHeld => ?_)
        clear hK K k_p z_p
        (try simp only [Act.put, List.setIfI1ounds_toArray, List.set_cons_zero, List.set_cons_succ])
        replace hU := hU.set (p := ⟨q_p, 0, none⟩) hq_p (.slice A5 1 c5)
        replace hB_q := (Below.heap_setCell _ ⟨q_p, 0, none⟩ (.slice A5 1 c5) q_q (by simp; omega)).trans hB_q
        replace R5 := R5.far hB_p (.slice A5 1 c5)
        replace R6 := R6.far hB_p (.slice A5 1 c5)
        replace hB_p := heap_setCell_same _ q_p 0 _ _ (.slice A5 1 c5) hB_p
        generalize World.setCell _ ⟨q_p, 0, none⟩ (.slice A5 1 c5) = s5 at *
        refine wpAnyH_ready (rs := [9]) (by kernel_rfl) (by simp) ?_
        refine AllReadyH.cons (o := ⟨_, _, _, _, _, _⟩) rfl (fun K hK => ?_) AllReadyH.nil
        obtain ⟨k_q, z_q⟩ := blk_one hB_q
        go_simp
        refine hK.out _ _ (MK.out _ (hU.set (p := ⟨q_q, 0, none⟩) hq_q _)) (fun hHeld => ?_)
        clear hK K k_q z_q
        (try simp only [Act.put, List.setIfI1ounds_toArray, List.set_cons_zero, List.set_cons_succ])
        replace hU := hU.set (p := ⟨q_q, 0, none⟩) hq_q (.slice A6 1 c6)
        replace hB_p := (Below.heap_setCell _ ⟨q_q, 0, none⟩ (.slice A6 1 c6) q_p (by simp; omega)).trans hB_p
        replace R5 := R5.far hB_q (.slice A6 1 c6)
        replace R6 := R6.far hB_q (.slice A6 1 c6)
        replace hB_q := heap_setCell_same _ q_q 0 _ _ (.slice A6 1 c6) hB_q
        generalize World.setCell _ ⟨q_q, 0, none⟩ (.slice A6 1 c6) = s6 at *
        refine wpAnyH_done (by kernel_rfl) ?_ _
        exact FIN A5 c5 A6 c6 q_p q_q s6 ⟨hU, hB_p, hB_q, R5, R6, hne_p_q⟩
    · go_simp
      refine hK.out _ _ (MK.out _ (hU.alloc _)) (fun hHeld => ?_)
      clear hK K
      (try simp only [Act.put, List.setIfI1ounds_toArray, List.set_cons_zero, List.set_cons_succ])
      have hB_q := heap_alloc_new y0 (.cells #[.slice none 0 0] 26)
      have ha := (Up.refl y0).alloc (.cells #[.slice none 0 0] 26)
      have hq_q := hU.le
      replace hU := hU.trans ha
      generalize y0.alloc (.cells #[.slice none 0 0] 26) = z1 at *
      generalize y0.heap.size = q_q at *
      clear ha
      refine wpAnyH_ready (rs := [2, 6]) (by kernel_rfl) (by simp) ?_
      refine AllReadyH.cons (o := ⟨_, _, _, _, _, _⟩) rfl (fun K hK => ?_) (AllReadyH.cons (o := ⟨_, _, _, _, _, _⟩) rfl (fun K hK => ?_) AllReadyH.nil)
      · go_simp
        go_at_call 25
        with_reducible refine (ON _ (HR1.out.up hU) (HR2.out.up hU)).out.mono ?_
        rintro e y2 ⟨A5, c5, rfl, R5, hu⟩
        refine hK.out _ _ (MK.out _ (hU.trans hu)) (fun hHeld => ?_)
        clear hK K
        (try simp only [Act.put, List.setIfI1ounds_toArray, List.set_cons_zero, List.set_cons_succ])
        replace hU := hU.trans hu
        replace hB_q := hu.obj hB_q
        clear hu
        refine wpAnyH_ready (rs := [5, 6]) (by kernel_rfl) (by simp) ?_
        refine AllReadyH.cons (o := ⟨_, _, _, _, _, _⟩) rfl (fun K hK => ?_) (AllReadyH.cons (o := ⟨_, _, _, _, _, _⟩) rfl (fun K hK => ?_) AllReadyH.nil)
        · go_simp
          go_at_call 27
          with_reducible refine (BO _ (HR1.out.up hU) (HR2.out.up hU)).out.mono ?_
          rintro e y3 ⟨A6, c6, rfl, R6, hu⟩
          refine hK.out _ _ (MK.out _ (hU.trans hu)) (fun hHeld => ?_)
          clear hK K
          (try simp only [Act.put, List.setIfI1ounds_toArray, List.set_cons_zero, List.set_cons_succ])
          replace hU := hU.trans hu
          replace hB_q := hu.obj hB_q
          replace R5 := R5.up hu
          clear hu
          refine wpAnyH_ready (rs := [6]) (by kernel_rfl) (by simp) ?_
          refine AllReadyH.cons (o := ⟨_, _, _, _, _, _⟩) rfl (fun K hK => ?_) AllReadyH.nil
          go_simp
          refine hK.out _ _ (MK.out _ (hU.alloc _)) (fun hHeld => ?_)
          clear hK K
          (try simp only [Act.put, List.setIfI1ounds_toArray, List.set_cons_zero, List.set_cons_succ])
          have hB_p := heap_alloc_new y3 (.cells #[.slice none 0 0] 26)
          have ha := (Up.refl y3).alloc (.cells #[.slice none 0 0] 26)
          have hq_p := hU.le
          have hne_q_p : q_q ≠ y3.heap.size := by have := (Array.getElem?_eq_some_iff.1 hB_q).1; omega
          replace hU := hU.trans ha
          replace hB_q := ha.obj hB_q
          replace R5 := R5.up ha
          replace R6 := R6.up ha
          generalize y3.alloc (.cells #[.slice none 0 0] 26) = z4 at *
          generalize y3.heap.size = q_p at *
          clear ha
          refine wpAnyH_ready (rs := [8]) (by kernel_rfl) (by simp) ?_
          refine AllReadyH.cons (o := ⟨_, _, _, _, _, _⟩) rfl (fun K hK => ?_) AllReadyH.nil
          obtain ⟨k_p, z_p⟩ := blk_one hB_p
          go_simp
          refine hK.out _ _ (MK.out _ (hU.set (p := ⟨q_p, 0, none⟩) hq_p _)) (fun hHeld => ?_)
          clear hK K k_p z_p
          (try simp only [Act.put, List.setIfI1ounds_toArray, List.set_cons_zero, List.set_cons_succ])
          replace hU := hU.set (p := ⟨q_p, 0, none⟩) hq_p (.slice A5 1 c5)
          replace hB_q := (Below.heap_setCell _ ⟨q_p, 0, none⟩ (.slice A5 1 c5) q_q (by simp; omega)).trans hB_q
          replace R5 := R5.far hB_p (.slice A5 1 c5)
          replace R6 := R6.far hB_p (.slice A5 1 c5)
          replace hB_p := heap_setCell_same _ q_p 0 _ _ (.slice A5 1 c5) hB_p
          generalize World.setCell _ ⟨q_p, 0, none⟩ (.slice A5 1 c5) = s5 at *
          refine wpAnyH_ready (rs := [9]) (by kernel_rfl) (by simp) ?_
          refine AllReadyH.cons (o := ⟨_, _, _, _, _, _⟩) rfl (fun K hK => ?_) AllReadyH.nil
          obtain ⟨k_q, z_q⟩ := blk_one hB_q
          go_simp
          refine hK.out _ _ (MK.out _ (hU.set (p := ⟨q_q, 0, none⟩) hq_q _)) (fun hHeld => ?_)
          clear hK K k_q z_q
          (try simp only [Act.put, List.setIfI1ounds_toArray, List.set_cons_zero, List.set_cons_succ])
          replace hU := hU.set (p := ⟨q_q, 0, none⟩) hq_q (.slice A6 1 c6)
          replace R5 := R5.far hB_q (.slice A6 1 c6)
          replace R6 := R6.far hB_q (.slice A6 1 c6)
          replace hB_p := (Below.heap_setCell _ ⟨q_q, 0, none⟩ (.slice A6 1 c6) q_p (by simp; omega)).trans hB_p
          replace hB_q := heap_setCell_same _ q_q 0 _ _ (.slice A6 1 c6) hB_q
          generalize World.setCell _ ⟨q_q, 0, none⟩ (.slice A6 1 c6) = s6 at *
          refine wpAnyH_done (by kernel_rfl) ?_ _
          exact FIN A5 c5 A6 c6 q_p q_q s6 ⟨hU, hB_p, hB_q, R5, R6, hne_q_p.symm⟩
        · go_simp
          refine hK.out _ _ (MK.out _ (hU.alloc _)) (fun hHeld => ?_)
          clear hK K
          (try simp only [Act.put, List.setIfI1ounds_toArray, List.set_cons_zero, List.set_cons_succ])
          have hB_p := heap_alloc_new y2 (.cells #[.slice none 0 0] 26)
          have ha := (Up.refl y2).alloc (.cells #[.slice none 0 0] 26)
          have hq_p := hU.le
          have hne_q_p : q_q ≠ y2.heap.size := by have := (Array.getElem?_eq_some_iff.1 hB_q).1; omega
          replace hU := hU.trans ha
          replace hB_q := ha.obj hB_q
          replace R5 := R5.up ha
          generalize y2.alloc (.cells #[.slice none 0 0] 26) = z3 at *
          generalize y2.heap.size = q_p at *
          clear ha
          refine wpAnyH_ready (rs := [5]) (by kernel_rfl) (by simp) ?_
          refine AllReadyH.cons (o := ⟨_, _, _, _, _, _⟩) rfl (fun K hK => ?_) AllReadyH.nil
          go_simp
          go_at_call 27
          with_reducible refine (BO _ (HR1.out.up hU) (HR2.out.up hU)).out.mono ?_
          rintro e y4 ⟨A6, c6, rfl, R6, hu⟩
          refine hK.out _ _ (MK.out _ (hU.trans hu)) (fun hHeld => ?_)
          clear hK K
          (try simp only [Act.put, List.setIfI1ounds_toArray, List.set_cons_zero, List.set_cons_succ])
          replace hU := hU.trans hu
          replace hB_q := hu.obj hB_q
          replace R5 := R5.up hu
          replace hB_p := hu.obj hB_p
          clear hu
          refine wpAnyH_ready (rs := [8]) (by kernel_rfl) (by simp) ?_
          refine AllReadyH.cons (o := ⟨_, _, _, _, _, _⟩) rfl (fun K hK => ?_) AllReadyH.nil
          obtain ⟨k_p, z_p⟩ := blk_one hB_p
          go_simp
          refine hK.out _ _ (MK.out _ (hU.set (p := ⟨q_p, 0, none⟩) hq_p _)) (fun hHeld => ?_)
          clear hK K k_p z_p
          (try simp only [Act.put, List.setIfI1ounds_toArray, List.set_cons_zero, List.set_cons_succ])
          replace hU := hU.set (p := ⟨q_p, 0, none⟩) hq_p (.slice A5 1 c5)
          replace hB_q := (Below.heap_setCell _ ⟨q_p, 0, none⟩ (.slice A5 1 c5) q_q (by simp; omega)).trans hB_q
          replace R5 := R5.far hB_p (.slice A5 1 c5)
          replace R6 := R6.far hB_p (.slice A5 1 c5)
          replace hB_p := heap_setCell_same _ q_p 0 _ _ (.slice A5 1 c5) hB_p
          generalize World.setCell _ ⟨q_p, 0, none⟩ (.slice A5 1 c5) = s5 at *
          refine wpAnyH_ready (rs := [9]) (by kernel_rfl) (by simp) ?_
          refine AllReadyH.cons (o := ⟨_, _, _, _, _, _⟩) rfl (fun K hK => ?_) AllReadyH.nil
          obtain ⟨k_q, z_q⟩ := blk_one hB_q
          go_simp
          refine hK.out _ _ (MK.out _ (hU.set (p := ⟨q_q, 0, none⟩) hq_q _)) (fun hHeld => ?_)
          clear hK K k_q z_q
          (try simp only [Act.put, List.setIfI1ounds_toArray, List.set_cons_zero, List.set_cons_succ])
          replace hU := hU.set (p := ⟨q_q, 0, none⟩) hq_q (.slice A6 1 c6)
          replace R5 := R5.far hB_q (.slice A6 1 c6)
          replace hB_p := (Below.heap_setCell _ ⟨q_q, 0, none⟩ (.slice A6 1 c6) q_p (by simp; omega)).trans hB_p
          replace R6 := R6.far hB_q (.slice A6 1 c6)
          replace hB_q := heap_setCell_same _ q_q 0 _ _ (.slice A6 1 c6) hB_q
          generalize World.setCell _ ⟨q_q, 0, none⟩ (.slice A6 1 c6) = s6 at *
          refine wpAnyH_done (by kernel_rfl) ?_ _
          exact FIN A5 c5 A6 c6 q_p q_q s6 ⟨hU, hB_p, hB_q, R5, R6, hne_q_p.symm⟩
      · go_simp
        refine hK.out _ _ (MK.out _ (hU.alloc _)) (fun hHeld => ?_)
        clear hK K
        (try simp only [Act.put, List.setIfI1ounds_toArray, List.set_cons_zero, List.set_cons_succ])
        have hB_p := heap_alloc_new z1 (.cells #[.slice none 0 0] 26)
        have ha := (Up.refl z1).alloc (.cells #[.slice none 0 0] 26)
        have hq_p := hU.le
        have hne_q_p : q_q ≠ z1.heap.size := by have := (Array.getElem?_eq_some_iff.1 hB_q).1; omega
        replace hU := hU.trans ha
        replace hB_q := ha.obj hB_q
        generalize z1.alloc (.cells #[.slice none 0 0] 26) = z2 at *
        generalize z1.heap.size = q_p at *
        clear ha
        refine wpAnyH_ready (rs := [2]) (by kernel_rfl) (by simp) ?_
        refine AllReadyH.cons (o := ⟨_, _, _, _, _, _⟩) rfl (fun K hK => ?_) AllReadyH.nil
        go_simp
        go_at_call 25
        with_reducible refine (ON _ (HR1.out.up hU) (HR2.out.up hU)).out.mono ?_
        rintro e y3 ⟨A5, c5, rfl, R5, hu⟩
        refine hK.out _ _ (MK.out _ (hU.trans hu)) (fun hHeld => ?_)
        clear hK K
        (try simp only [Act.put, List.setIfI1ounds_toArray, List.set_cons_zero, List.set_cons_succ])
        replace hU := hU.trans hu
        replace hB_q := hu.obj hB_q
        replace hB_p := hu.obj hB_p
        clear hu
        refine wpAnyH_ready (rs := [5]) (by kernel_rfl) (by simp) ?_
        refine AllReadyH.cons (o := ⟨_, _, _, _, _, _⟩) rfl (fun K hK => ?_) AllReadyH.nil
        go_simp
        go_at_call 27
        with_reducible refine (BO _ (HR1.out.up hU) (HR2.out.up hU)).out.mono ?_
        rintro e y4 ⟨A6, c6, rfl, R6, hu⟩
        refine hK.out _ _ (MK.out _ (hU.trans hu)) (fun hHeld => ?_)
        clear hK K
        (try simp only [Act.put, List.setIfI1ounds_toArray, List.set_cons_zero, List.set_cons_succ])
        replace hU := hU.trans hu
        replace hB_q := hu.obj hB_q
        replace hB_p := hu.obj hB_p
        replace R5 := R5.up hu
        clear hu
        refine wpAnyH_ready (rs := [8]) (by kernel_rfl) (by simp) ?_
        refine AllReadyH.cons (o := ⟨_, _, _, _, _, _⟩) rfl (fun K hK => ?_) AllReadyH.nil
        obtain ⟨k_p, z_p⟩ := blk_one hB_p
        go_simp
        refine hK.out _ _ (MK.out _ (hU.set (p := ⟨q_p, 0, none⟩) hq_p _)) (fun hHeld => ?_)
        clear hK K k_p z_p
        (try simp only [Act.put, List.setIfI1ounds_toArray, List.set_cons_zero, List.set_cons_succ])
        replace hU := hU.set (p := ⟨q_p, 0, none⟩) hq_p (.slice A5 1 c5)
        replace hB_q := (Below.heap_setCell _ ⟨q_p, 0, none⟩ (.slice A5 1 c5) q_q (by simp; omega)).trans hB_q
        replace R5 := R5.far hB_p (.slice A5 1 c5)
        replace R6 := R6.far hB_p (.slice A5 1 c5)
        replace hB_p := heap_setCell_same _ q_p 0 _ _ (.slice A5 1 c5) hB_p
        generalize World.setCell _ ⟨q_p, 0, none⟩ (.slice A5 1 c5) = s5 at *
        refine wpAnyH_ready (rs := [9]) (by kernel_rfl) (by simp) ?_
        refine AllReadyH.cons (o := ⟨_, _, _, _, _, _⟩) rfl (fun K hK => ?_) AllReadyH.nil
        obtain ⟨k_q, z_q⟩ := blk_one hB_q
        go_simp
        refine hK.out _ _ (MK.out _ (hU.set (p := ⟨q_q, 0, none⟩) hq_q _)) (fun hHeld => ?_)
        clear hK K k_q z_q
        (try simp only [Act.put, List.setIfI1ounds_toArray, List.set_cons_zero, List.set_cons_succ])
        replace hU := hU.set (p := ⟨q_q, 0, none⟩) hq_q (.slice A6 1 c6)
        replace hB_p := (Below.heap_setCell _ ⟨q_q, 0, none⟩ (.slice A6 1 c6) q_p (by simp; omega)).trans hB_p
        replace R5 := R5.far hB_q (.slice A6 1 c6)
        replace R6 := R6.far hB_q (.slice A6 1 c6)
        replace hB_q := heap_setCell_same _ q_q 0 _ _ (.slice A6 1 c6) hB_q
        generalize World.setCell _ ⟨q_q, 0, none⟩ (.slice A6 1 c6) = s6 at *
        refine wpAnyH_done (by kernel_rfl) ?_ _
        exact FIN A5 c5 A6 c6 q_p q_q s6 ⟨hU, hB_p, hB_q, R5, R6, hne_q_p.symm⟩
  intro A5 c5 A6 c6 p q Y hF
  obtain ⟨hY, hp, hq, _, r6, _⟩ := hF
  have kp := (blk_one hp).1
  have kq := (blk_one hq).1
  replace k3 := hY.cell k3
  replace HU := Lib.hid (HU.out.trans hY)
  have HR6 := Lib.hid r6
  clear hp hq r6 hY k1 k2 HR1 HR2 ON BO
  go_wp2_with fail
  with_reducible refine (GB _ _ _ HR6.out).out.mono ?_
  rintro e Y1 ⟨rfl, hu⟩
  replace k3 := hu.cell k3
  replace kp := hu.cell kp
  replace kq := hu.cell kq
  replace HU := Lib.hid (HU.out.trans hu)
  clear hu GB HR6
  go_wp2_with fail
  with_reducible refine (FN _ _ _ _).out.mono ?_
  rintro e Y2 ⟨rfl, hu⟩
  replace k3 := hu.cell k3
  replace kp := hu.cell kp
  replace kq := hu.cell kq
  replace HU := Lib.hid (HU.out.trans hu)
  clear hu FN
  have mk := make_17
  go_wp2_with fail
  with_reducible refine (FM _ _ _ _ _ _).out.mono ?_
  rintro e Y3 ⟨rfl, hu⟩
  have hw := ((Up.refl Y2).alloc _).trans hu
  replace k3 := hw.cell k3
  replace kp := hw.cell kp
  replace kq := hw.cell kq
  replace HU := Lib.hid (HU.out.trans hw)
  clear hu hw FM mk
  go_wp2_with fail
  with_reducible refine (LN _ _ _ _).out.mono ?_
  rintro e Y4 ⟨rfl, hu⟩
  replace kp := hu.cell kp
  replace kq := hu.cell kq
  replace HU := Lib.hid (HU.out.trans hu)
  clear hu k3
  go_wp2_with fail
  with_reducible refine (LN _ _ _ _).out.mono ?_
  rintro e Y5 ⟨rfl, hu⟩
  replace kq := hu.cell kq
  replace HU := Lib.hid (HU.out.trans hu)
  clear hu kp
  go_wp2_with fail
  with_reducible refine (LN _ _ _ _).out.mono ?_
  rintro e Y6 ⟨rfl, hu⟩
  replace HU := Lib.hid (HU.out.trans hu)
  clear hu kq LN
  go_wp2_with fail
  go_ret
  exact ⟨rfl, HU.out⟩
end Go.Proofs.YtkfococpanailaaGreatDoor
