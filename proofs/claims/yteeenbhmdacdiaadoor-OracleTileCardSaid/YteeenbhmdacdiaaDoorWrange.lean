/- Walks: ranges of bytes: what may be, how long, what is asked, what is told, what is left. -/
import Derived.Test.YteeenbhmdacdiaaDoorPrange
import Derived.Test.YteeenbhmdacdiaaDoorWbyte34
namespace Go.Proofs.YteeenbhmdacdiaaDoor
open Go.RowKit Go.Gz

/-- a struct of two numbers, just laid -/
theorem new2 (w1 : World) (t : TypeId) (z x : Int) :
    Up w1 (w1.alloc (.cells #[.int .i64 z, .int .i64 x] t)) ∧
    (w1.alloc (.cells #[.int .i64 z, .int .i64 x] t)).cell? ⟨w1.heap.size, 0, none⟩ = some (.int .i64 z) ∧
    (w1.alloc (.cells #[.int .i64 z, .int .i64 x] t)).cell? ⟨w1.heap.size, 1, none⟩ = some (.int .i64 x) := by
  have hb := heap_alloc_new w1 (.cells #[.int .i64 z, .int .i64 x] t)
  exact ⟨(Up.refl _).alloc _, blk_cell hb 0 _ rfl, blk_cell hb 1 _ rfl⟩
/-- two of them -/
theorem lay22 (w : World) (t : TypeId) (f x : Int) :
    Up w ((w.alloc (.cells #[.int .i64 f, .int .i64 x] t)).alloc (.cells #[.int .i64 0, .int .i64 0] t)) ∧
    ((w.alloc (.cells #[.int .i64 f, .int .i64 x] t)).alloc (.cells #[.int .i64 0, .int .i64 0] t)).heap[w.heap.size]? = some (.cells #[.int .i64 f, .int .i64 x] t (0, 0)) ∧
    ((w.alloc (.cells #[.int .i64 f, .int .i64 x] t)).alloc (.cells #[.int .i64 0, .int .i64 0] t)).heap[w.heap.size + 1]? = some (.cells #[.int .i64 0, .int .i64 0] t (0, 0)) := by
  refine ⟨((Up.refl _).alloc _).alloc _, blk_alloc (heap_alloc_new w _) _, ?_⟩
  have h := heap_alloc_new (w.alloc (.cells #[.int .i64 f, .int .i64 x] t)) (.cells #[.int .i64 0, .int .i64 0] t)
  have e : (w.alloc (.cells #[.int .i64 f, .int .i64 x] t)).heap.size = w.heap.size + 1 := by simp
  rw [e] at h
  exact h
theorem up_set2 {w W : World} (h : Up w W) {b : Nat} (hb : w.heap.size ≤ b) (a c : Value) : Up w ((W.setCell ⟨b, 0, none⟩ a).setCell ⟨b, 1, none⟩ c) :=
  (h.set hb _).set hb _
theorem blk_set2 {w1 : World} {b : Nat} {t : TypeId} {a0 a1 : Value} (hb : w1.heap[b]? = some (.cells #[a0, a1] t (0, 0))) (x y : Value) :
    ((w1.setCell ⟨b, 0, none⟩ x).setCell ⟨b, 1, none⟩ y).heap[b]? = some (.cells #[x, y] t (0, 0)) :=
  heap_setCell_same _ b 1 _ t y (heap_setCell_same w1 b 0 _ t x hb)
theorem check_any (f t : Int) (w : World) :
    Calls Tryd.prog 27 #[.agg #[.int .i64 f, .int .i64 t]] w fun e w' => e = .returned (.int .i64 (chk f t)) ∧ Up w w' := by
  by_cases h1 : f < 0
  · rw [chk_bad (.inl h1)]
    go_enter Tryd.func27, Tryd.ntmps27
    go_wp2_with fail
    go_ret
    exact ⟨rfl, (Up.refl w).alloc _⟩
  by_cases h2 : t < f
  · rw [chk_bad (.inr (.inl h2))]
    go_enter Tryd.func27, Tryd.ntmps27
    go_wp2_with fail
    go_ret
    exact ⟨rfl, (Up.refl w).alloc _⟩
  by_cases h3 : 9007199254740990 < t
  · rw [chk_bad (.inr (.inr h3))]
    go_enter Tryd.func27, Tryd.ntmps27
    go_wp2_with fail
    go_ret
    exact ⟨rfl, (Up.refl w).alloc _⟩
  rw [chk_ok (by omega)]
  go_enter Tryd.func27, Tryd.ntmps27
  go_wp2_with fail
  go_ret
  exact ⟨rfl, (Up.refl w).alloc _⟩
theorem length_any (f t : Int) (w : World) :
    Calls Tryd.prog 29 #[.agg #[.int .i64 f, .int .i64 t]] w fun e w' => e = .returned (.int .i64 (lenR f t)) ∧ Up w w' := by
  have A := fun w => Lib.hid (check_any f t w)
  have n0 := new2 w 43 f t
  rcases chk_cases f t with h | h
  · have hf := chk_fits h
    rw [h] at A
    have HL := Lib.hid (show lenR f t = t - f + 1 from by unfold lenR; rw [if_neg (by omega)])
    clear h
    go_enter Tryd.func29, Tryd.ntmps29
    go_wp2_with fail
    refine (A _).out.mono ?_
    rintro e w1 ⟨rfl, hu⟩
    have c0 := hu.cell n0.2.1
    have c1 := hu.cell n0.2.2
    have HU := Lib.hid (n0.1.trans hu)
    clear hu n0
    go_wp2_with fail
    go_ret
    exact ⟨ret_int (by rw [HL.out]), HU.out⟩
  · rw [h] at A
    have HL := Lib.hid (show lenR f t = 0 from by unfold lenR; rw [if_pos (by omega)])
    clear h
    go_enter Tryd.func29, Tryd.ntmps29
    go_wp2_with fail
    refine (A _).out.mono ?_
    rintro e w1 ⟨rfl, hu⟩
    have HU := Lib.hid (n0.1.trans hu)
    clear hu n0
    go_wp2_with fail
    go_ret
    exact ⟨ret_int (by rw [HL.out]), HU.out⟩
set_option maxHeartbeats 1000000 in
theorem clip_any (f t n : Int) (hn : -9223372036854775808 ≤ n ∧ n ≤ 9223372036854775807) (w : World) :
    Calls Tryd.prog 25 #[.agg #[.int .i64 f, .int .i64 t], .int .i64 n] w fun e w' => e = .returned (.tuple #[.agg #[.int .i64 (clipR f t n).1.1, .int .i64 (clipR f t n).1.2], .int .i64 (clipR f t n).2]) ∧ Up w w' := by
  have A := fun w => Lib.hid (check_any f t w)
  obtain ⟨n1, n2, n3⟩ := lay22 w 43 f t
  rcases chk_cases f t with h | h
  · have hf := chk_fits h
    rw [h] at A
    by_cases hq : n ≤ f
    · rw [show clipR f t n = ((0, 0), 8) from by unfold clipR; rw [if_neg (by omega), if_pos hq]]
      clear h
      go_enter Tryd.func25, Tryd.ntmps25
      go_wp2_with fail
      refine (A _).out.mono ?_
      rintro e w1 ⟨rfl, hu⟩
      have hb1 := hu.obj n2
      have c0 := blk_cell hb1 0 _ rfl
      have c1 := blk_cell hb1 1 _ rfl
      have HB := Lib.hid (hu.obj n3)
      have f0 := blk_free HB.out 0
      have f1 := blk_free HB.out 1
      have b0 := blk_cell HB.out 0 _ rfl
      have b1 := blk_cell HB.out 1 _ rfl
      have HU := Lib.hid (n1.trans hu)
      clear hu n1 n2 n3 hb1
      go_wp2_with fail
      have hb3 := blk_set2 HB.out (.int .i64 0) (.int .i64 0)
      have d0 := blk_cell hb3 0 _ rfl
      have d1 := blk_cell hb3 1 _ rfl
      refine bodyPost_ret (v := .tuple #[.agg #[.int .i64 0, .int .i64 0], .int .i64 8]) (by simp [results, Tryd.results25, go_sem, d0, d1]) rfl ⟨rfl, ?_⟩
      exact up_set2 HU.out (by omega) _ _
    · rw [show clipR f t n = ((f, min t (n - 1)), 0) from by unfold clipR; rw [if_neg (by omega), if_neg hq]]
      clear h
      go_enter Tryd.func25, Tryd.ntmps25
      go_wp2_with fail
      refine (A _).out.mono ?_
      rintro e w1 ⟨rfl, hu⟩
      have HB1 := Lib.hid (hu.obj n2)
      have c0 := blk_cell HB1.out 0 _ rfl
      have c1 := blk_cell HB1.out 1 _ rfl
      have e0 := blk_free HB1.out 0
      have e1 := blk_free HB1.out 1
      have HB := Lib.hid (hu.obj n3)
      have f0 := blk_free HB.out 0
      have f1 := blk_free HB.out 1
      have b0 := blk_cell HB.out 0 _ rfl
      have b1 := blk_cell HB.out 1 _ rfl
      have HU := Lib.hid (n1.trans hu)
      clear hu n1 n2 n3
      go_wp2_with fail
      have hb2 : (w1.setCell ⟨w.heap.size, 1, none⟩ (.int .i64 (min t (n - 1)))).heap[w.heap.size + 1]? = some (.cells #[.int .i64 0, .int .i64 0] 43 (0, 0)) := (heap_setCell_other _ _ _ _ (by simp)).trans HB.out
      have hb3 := blk_set2 hb2 (.int .i64 f) (.int .i64 (min t (n - 1)))
      have d0 := blk_cell hb3 0 _ rfl
      have d1 := blk_cell hb3 1 _ rfl
      refine bodyPost_ret (v := .tuple #[.agg #[.int .i64 f, .int .i64 (min t (n - 1))], .int .i64 0]) (by simp [results, Tryd.results25, go_sem, d0, d1]) rfl ⟨rfl, ?_⟩
      exact up_set2 (HU.out.set (Nat.le_refl _) _) (by omega) _ _
  · rw [h] at A
    rw [show clipR f t n = ((0, 0), 8) from by unfold clipR; rw [if_pos (by omega)]]
    clear h
    go_enter Tryd.func25, Tryd.ntmps25
    go_wp2_with fail
    refine (A _).out.mono ?_
    rintro e w1 ⟨rfl, hu⟩
    have HB := Lib.hid (hu.obj n3)
    have f0 := blk_free HB.out 0
    have f1 := blk_free HB.out 1
    have b0 := blk_cell HB.out 0 _ rfl
    have b1 := blk_cell HB.out 1 _ rfl
    have HU := Lib.hid (n1.trans hu)
    clear hu n1 n2 n3
    go_wp2_with fail
    have hb3 := blk_set2 HB.out (.int .i64 0) (.int .i64 0)
    have d0 := blk_cell hb3 0 _ rfl
    have d1 := blk_cell hb3 1 _ rfl
    refine bodyPost_ret (v := .tuple #[.agg #[.int .i64 0, .int .i64 0], .int .i64 8]) (by simp [results, Tryd.results25, go_sem, d0, d1]) rfl ⟨rfl, ?_⟩
    exact up_set2 HU.out (by omega) _ _
theorem rcheck_any (f t : Int) (w : World) :
    Calls Tryd.prog 28 #[.agg #[.int .i64 f, .int .i64 t]] w fun e w' => e = .returned (.int .i64 (chk f t)) ∧ Up w w' := by
  by_cases h1 : f < 0
  · rw [chk_bad (.inl h1)]
    go_enter Tryd.func28, Tryd.ntmps28
    go_wp2_with fail
    go_ret
    exact ⟨rfl, (Up.refl w).alloc _⟩
  by_cases h2 : t < f
  · rw [chk_bad (.inr (.inl h2))]
    go_enter Tryd.func28, Tryd.ntmps28
    go_wp2_with fail
    go_ret
    exact ⟨rfl, (Up.refl w).alloc _⟩
  by_cases h3 : 9007199254740990 < t
  · rw [chk_bad (.inr (.inr h3))]
    go_enter Tryd.func28, Tryd.ntmps28
    go_wp2_with fail
    go_ret
    exact ⟨rfl, (Up.refl w).alloc _⟩
  rw [chk_ok (by omega)]
  go_enter Tryd.func28, Tryd.ntmps28
  go_wp2_with fail
  go_ret
  exact ⟨rfl, (Up.refl w).alloc _⟩
theorem rlength_any (f t : Int) (w : World) :
    Calls Tryd.prog 30 #[.agg #[.int .i64 f, .int .i64 t]] w fun e w' => e = .returned (.int .i64 (lenR f t)) ∧ Up w w' := by
  have A := fun w => Lib.hid (rcheck_any f t w)
  have n0 := new2 w 42 f t
  rcases chk_cases f t with h | h
  · have hf := chk_fits h
    rw [h] at A
    have HL := Lib.hid (show lenR f t = t - f + 1 from by unfold lenR; rw [if_neg (by omega)])
    clear h
    go_enter Tryd.func30, Tryd.ntmps30
    go_wp2_with fail
    refine (A _).out.mono ?_
    rintro e w1 ⟨rfl, hu⟩
    have c0 := hu.cell n0.2.1
    have c1 := hu.cell n0.2.2
    have HU := Lib.hid (n0.1.trans hu)
    clear hu n0
    go_wp2_with fail
    go_ret
    exact ⟨ret_int (by rw [HL.out]), HU.out⟩
  · rw [h] at A
    have HL := Lib.hid (show lenR f t = 0 from by unfold lenR; rw [if_pos (by omega)])
    clear h
    go_enter Tryd.func30, Tryd.ntmps30
    go_wp2_with fail
    refine (A _).out.mono ?_
    rintro e w1 ⟨rfl, hu⟩
    have HU := Lib.hid (n0.1.trans hu)
    clear hu n0
    go_wp2_with fail
    go_ret
    exact ⟨ret_int (by rw [HL.out]), HU.out⟩
set_option maxHeartbeats 1000000 in
theorem rclip_any (f t n : Int) (hn : -9223372036854775808 ≤ n ∧ n ≤ 9223372036854775807) (w : World) :
    Calls Tryd.prog 26 #[.agg #[.int .i64 f, .int .i64 t], .int .i64 n] w fun e w' => e = .returned (.tuple #[.agg #[.int .i64 (clipR f t n).1.1, .int .i64 (clipR f t n).1.2], .int .i64 (clipR f t n).2]) ∧ Up w w' := by
  have A := fun w => Lib.hid (rcheck_any f t w)
  obtain ⟨n1, n2, n3⟩ := lay22 w 42 f t
  rcases chk_cases f t with h | h
  · have hf := chk_fits h
    rw [h] at A
    by_cases hq : n ≤ f
    · rw [show clipR f t n = ((0, 0), 8) from by unfold clipR; rw [if_neg (by omega), if_pos hq]]
      clear h
      go_enter Tryd.func26, Tryd.ntmps26
      go_wp2_with fail
      refine (A _).out.mono ?_
      rintro e w1 ⟨rfl, hu⟩
      have hb1 := hu.obj n2
      have c0 := blk_cell hb1 0 _ rfl
      have c1 := blk_cell hb1 1 _ rfl
      have HB := Lib.hid (hu.obj n3)
      have f0 := blk_free HB.out 0
      have f1 := blk_free HB.out 1
      have b0 := blk_cell HB.out 0 _ rfl
      have b1 := blk_cell HB.out 1 _ rfl
      have HU := Lib.hid (n1.trans hu)
      clear hu n1 n2 n3 hb1
      go_wp2_with fail
      have hb3 := blk_set2 HB.out (.int .i64 0) (.int .i64 0)
      have d0 := blk_cell hb3 0 _ rfl
      have d1 := blk_cell hb3 1 _ rfl
      refine bodyPost_ret (v := .tuple #[.agg #[.int .i64 0, .int .i64 0], .int .i64 8]) (by simp [results, Tryd.results26, go_sem, d0, d1]) rfl ⟨rfl, ?_⟩
      exact up_set2 HU.out (by omega) _ _
    · rw [show clipR f t n = ((f, min t (n - 1)), 0) from by unfold clipR; rw [if_neg (by omega), if_neg hq]]
      clear h
      go_enter Tryd.func26, Tryd.ntmps26
      go_wp2_with fail
      refine (A _).out.mono ?_
      rintro e w1 ⟨rfl, hu⟩
      have HB1 := Lib.hid (hu.obj n2)
      have c0 := blk_cell HB1.out 0 _ rfl
      have c1 := blk_cell HB1.out 1 _ rfl
      have e0 := blk_free HB1.out 0
      have e1 := blk_free HB1.out 1
      have HB := Lib.hid (hu.obj n3)
      have f0 := blk_free HB.out 0
      have f1 := blk_free HB.out 1
      have b0 := blk_cell HB.out 0 _ rfl
      have b1 := blk_cell HB.out 1 _ rfl
      have HU := Lib.hid (n1.trans hu)
      clear hu n1 n2 n3
      go_wp2_with fail
      have hb3 := blk_set2 HB.out (.int .i64 f) (.int .i64 (min t (n - 1)))
      have d0 := blk_cell hb3 0 _ rfl
      have d1 := blk_cell hb3 1 _ rfl
      refine bodyPost_ret (v := .tuple #[.agg #[.int .i64 f, .int .i64 (min t (n - 1))], .int .i64 0]) (by simp [results, Tryd.results26, go_sem, d0, d1]) rfl ⟨rfl, ?_⟩
      exact up_set2 HU.out (by omega) _ _
  · rw [h] at A
    rw [show clipR f t n = ((0, 0), 8) from by unfold clipR; rw [if_pos (by omega)]]
    clear h
    go_enter Tryd.func26, Tryd.ntmps26
    go_wp2_with fail
    refine (A _).out.mono ?_
    rintro e w1 ⟨rfl, hu⟩
    have HB := Lib.hid (hu.obj n3)
    have f0 := blk_free HB.out 0
    have f1 := blk_free HB.out 1
    have b0 := blk_cell HB.out 0 _ rfl
    have b1 := blk_cell HB.out 1 _ rfl
    have HU := Lib.hid (n1.trans hu)
    clear hu n1 n2 n3
    go_wp2_with fail
    have hb3 := blk_set2 HB.out (.int .i64 0) (.int .i64 0)
    have d0 := blk_cell hb3 0 _ rfl
    have d1 := blk_cell hb3 1 _ rfl
    refine bodyPost_ret (v := .tuple #[.agg #[.int .i64 0, .int .i64 0], .int .i64 8]) (by simp [results, Tryd.results26, go_sem, d0, d1]) rfl ⟨rfl, ?_⟩
    exact up_set2 HU.out (by omega) _ _
theorem keep2 {w2 w w' : World} {b : Nat} {x y : Value} (h : Up w2 w ∧ Gl w ∧ w.cell? ⟨b, 0, none⟩ = some x ∧ w.cell? ⟨b, 1, none⟩ = some y) (hu : Up w w') :
    Up w2 w' ∧ Gl w' ∧ w'.cell? ⟨b, 0, none⟩ = some x ∧ w'.cell? ⟨b, 1, none⟩ = some y :=
  ⟨h.1.trans hu, h.2.1.up hu, hu.cell h.2.2.1, hu.cell h.2.2.2⟩
set_option maxHeartbeats 4000000 in
theorem text_any (f t : Int) (hf : 0 ≤ f ∧ f ≤ t ∧ t ≤ 9007199254740990) (w : World) (hg : Gl w) :
    Calls Tryd.prog 54 #[.agg #[.int .i64 f, .int .i64 t]] w fun e w' => e = .returned (.string ⟨(textR f t).toArray⟩) ∧ Up w w' := by
  have lf := digs_len (n := f) (by omega)
  have lt := digs_len (n := t) (by omega)
  have n0 := new2 w 43 f t
  have s1 : ¬ (9223372036854775807 < (digs f).length + 1) := by omega
  have s2 : ¬ (9223372036854775806 < (digs f).length) := by omega
  have s3 : ¬ (9223372036854775807 < (digs f).length + 1 + (digs t).length) := by omega
  have s4 : ¬ (9223372036854775807 < (digs f).length + (1 + (digs t).length)) := by omega
  have s5 : ¬ (9223372036854775807 < (digs f).length + ((digs t).length + 1)) := by omega
  have HX := Lib.hid (show textR f t = digs f ++ 45 :: digs t from rfl)
  obtain ⟨hf0, hf1, hf2⟩ := hf
  go_enter Tryd.func54, Tryd.ntmps54
  go_wp2_with fail
  go_region_held3 (fun w' => Up w w' ∧ Gl w' ∧ w'.cell? ⟨w.heap.size, 0, none⟩ = some (.int .i64 f) ∧ w'.cell? ⟨w.heap.size, 1, none⟩ = some (.int .i64 t))
    (first | assumption | exact ⟨n0.1.drew, hg.up n0.1.drew, n0.2.1, n0.2.2⟩ | exact keep2 (by assumption) (by assumption) | exact keep2 (by assumption) ((Up.refl _).alloc _))
    (first | (go_at_call 52; refine (digits_any _ (by omega) (by omega) _ (by go_split_ands; assumption)).mono ?_; rintro e w4 ⟨rfl, hu4⟩))
  all_goals
    go_wp2_with fail
    go_ret
    exact ⟨ret_str (by rw [HX.out]; simp), by go_split_ands; assumption⟩
set_option maxHeartbeats 1000000 in
theorem ask_any (f t : Int) (w : World) (hg : Gl w) :
    Calls Tryd.prog 21 #[.agg #[.int .i64 f, .int .i64 t]] w fun e w' => e = .returned (.tuple #[.string ⟨(askR f t).1.toArray⟩, .int .i64 (askR f t).2]) ∧ Up w w' := by
  have A := fun w => Lib.hid (check_any f t w)
  have n0 := new2 w 43 f t
  rcases chk_cases f t with h | h
  · have hf := chk_fits h
    rw [h] at A
    have T := fun w hg => Lib.hid (text_any f t hf w hg)
    rw [show askR f t = ([98, 121, 116, 101, 115, 61] ++ textR f t, 0) from by unfold askR; rw [if_neg (by omega)]]
    have lt : (textR f t).length ≤ 41 := by
      have l1 := digs_len (n := f) (by omega)
      have l2 := digs_len (n := t) (by omega)
      unfold textR; simp only [List.length_append, List.length_cons]; omega
    generalize textR f t = x at *
    clear h
    go_enter Tryd.func21, Tryd.ntmps21
    go_wp2_with fail
    refine (A _).out.mono ?_
    rintro e w1 ⟨rfl, hu⟩
    have c0 := hu.cell n0.2.1
    have c1 := hu.cell n0.2.2
    have HU := Lib.hid (n0.1.trans hu)
    clear hu n0
    go_wp2_with fail
    refine (T _ (hg.up HU.out)).out.mono ?_
    rintro e w2 ⟨rfl, hu⟩
    go_wp2_with fail
    go_ret2
    exact ⟨ret_two (str_eq (by simp)) rfl, HU.out.trans hu⟩
  · rw [h] at A
    rw [show askR f t = ([], 8) from by unfold askR; rw [if_pos (by omega)]]
    clear h
    go_enter Tryd.func21, Tryd.ntmps21
    go_wp2_with fail
    refine (A _).out.mono ?_
    rintro e w1 ⟨rfl, hu⟩
    have HU := Lib.hid (n0.1.trans hu)
    clear hu n0
    go_wp2_with fail
    go_ret2
    exact ⟨rfl, HU.out⟩
end Go.Proofs.YteeenbhmdacdiaaDoor
