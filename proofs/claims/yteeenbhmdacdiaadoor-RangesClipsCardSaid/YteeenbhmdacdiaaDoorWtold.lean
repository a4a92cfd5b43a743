/- Walks: what is told of a range; the reference's own ways to lay. -/
import Derived.Test.YteeenbhmdacdiaaDoorWrange
namespace Go.Proofs.YteeenbhmdacdiaaDoor
open Go.RowKit Go.Gz

theorem wrong_pick {f t n : Int} (h : chk f t = 0) : (n ≤ t → wrongV f t n = 8) ∧ (¬ n ≤ t → 9007199254740991 < n → wrongV f t n = 8) ∧ (¬ n ≤ t → ¬ 9007199254740991 < n → wrongV f t n = 0) := by
  unfold wrongV
  refine ⟨fun a => ?_, fun a b => ?_, fun a b => ?_⟩
  · rw [if_neg (by omega), if_pos (.inl a)]
  · rw [if_neg (by omega), if_pos (.inr b)]
  · rw [if_neg (by omega), if_neg (by omega)]
set_option maxHeartbeats 1000000 in
theorem wrong_any (f t n : Int) (w : World) :
    Calls Tryd.prog 55 #[.agg #[.int .i64 f, .int .i64 t, .int .i64 n]] w fun e w' => e = .returned (.int .i64 (wrongV f t n)) ∧ Up w w' := by
  have A := fun w => Lib.hid (check_any f t w)
  have n0 := new3 w 106 f t n
  rcases chk_cases f t with h | h
  · obtain ⟨p1, p2, p3⟩ := wrong_pick (n := n) h
    rw [h] at A
    clear h
    by_cases h1 : n ≤ t
    · rw [p1 h1]
      clear p1 p2 p3
      go_enter Tryd.func55, Tryd.ntmps55
      go_wp2_with fail
      refine (A _).out.mono ?_
      rintro e w1 ⟨rfl, hu⟩
      have c0 := hu.cell n0.2.1
      have c1 := hu.cell n0.2.2.1
      have c2 := hu.cell n0.2.2.2
      have HU := Lib.hid (n0.1.trans hu)
      clear hu n0
      go_wp2_with fail
      go_ret
      exact ⟨rfl, HU.out⟩
    by_cases h2 : 9007199254740991 < n
    · rw [p2 h1 h2]
      clear p1 p2 p3
      go_enter Tryd.func55, Tryd.ntmps55
      go_wp2_with fail
      refine (A _).out.mono ?_
      rintro e w1 ⟨rfl, hu⟩
      have c0 := hu.cell n0.2.1
      have c1 := hu.cell n0.2.2.1
      have c2 := hu.cell n0.2.2.2
      have HU := Lib.hid (n0.1.trans hu)
      clear hu n0
      go_wp2_with fail
      go_ret
      exact ⟨rfl, HU.out⟩
    · rw [p3 h1 h2]
      clear p1 p2 p3
      go_enter Tryd.func55, Tryd.ntmps55
      go_wp2_with fail
      refine (A _).out.mono ?_
      rintro e w1 ⟨rfl, hu⟩
      have c0 := hu.cell n0.2.1
      have c1 := hu.cell n0.2.2.1
      have c2 := hu.cell n0.2.2.2
      have HU := Lib.hid (n0.1.trans hu)
      clear hu n0
      go_wp2_with fail
      go_ret
      exact ⟨rfl, HU.out⟩
  · rw [h] at A
    rw [show wrongV f t n = 8 from by unfold wrongV; rw [if_pos (by omega)]]
    clear h
    go_enter Tryd.func55, Tryd.ntmps55
    go_wp2_with fail
    refine (A _).out.mono ?_
    rintro e w1 ⟨rfl, hu⟩
    have HU := Lib.hid (n0.1.trans hu)
    clear hu n0
    go_wp2_with fail
    go_ret
    exact ⟨rfl, HU.out⟩
/-- a range, and it told -/
theorem lay23 (w : World) (t u : TypeId) (f x n : Int) :
    Up w ((w.alloc (.cells #[.int .i64 f, .int .i64 x] t)).alloc (.cells #[.int .i64 f, .int .i64 x, .int .i64 n] u)) ∧
    ((w.alloc (.cells #[.int .i64 f, .int .i64 x] t)).alloc (.cells #[.int .i64 f, .int .i64 x, .int .i64 n] u)).heap[w.heap.size + 1]? = some (.cells #[.int .i64 f, .int .i64 x, .int .i64 n] u (0, 0)) := by
  refine ⟨((Up.refl _).alloc _).alloc _, ?_⟩
  have h := heap_alloc_new (w.alloc (.cells #[.int .i64 f, .int .i64 x] t)) (.cells #[.int .i64 f, .int .i64 x, .int .i64 n] u)
  have e : (w.alloc (.cells #[.int .i64 f, .int .i64 x] t)).heap.size = w.heap.size + 1 := by simp
  rw [e] at h
  exact h
set_option maxHeartbeats 4000000 in
theorem told_any (f t n : Int) (w : World) (hg : Gl w) :
    Calls Tryd.prog 23 #[.agg #[.int .i64 f, .int .i64 t], .int .i64 n] w fun e w' => e = .returned (.tuple #[.string ⟨(toldR f t n).1.toArray⟩, .int .i64 (toldR f t n).2]) ∧ Up w w' := by
  have A := fun w => Lib.hid (wrong_any f t n w)
  obtain ⟨n0, n1⟩ := lay23 w 43 106 f t n
  rcases wrong_cases f t n with h | h
  · obtain ⟨hc, hn1, hn2⟩ := wrong_fits h
    have hf := chk_fits hc
    rw [h] at A
    have T := fun w hg => text_any f t hf w hg
    have HR := Lib.hid (show toldR f t n = ([98, 121, 116, 101, 115, 32] ++ textR f t ++ 47 :: digs n, 0) from by unfold toldR; rw [if_neg (by omega)])
    have lt : (textR f t).length ≤ 41 := by
      have l1 := digs_len (n := f) (by omega)
      have l2 := digs_len (n := t) (by omega)
      unfold textR; simp only [List.length_append, List.length_cons]; omega
    have ln := digs_len (n := n) (by omega)
    generalize textR f t = x at *
    obtain ⟨hf0, hf1, hf2⟩ := hf
    have s1 : ¬ (9223372036854775807 < 6 + x.length) := by omega
    have s2 : ¬ (9223372036854775807 < 6 + x.length + 1) := by omega
    have s3 : ¬ (9223372036854775807 < 6 + x.length + 1 + (digs n).length) := by omega
    have s4 : ¬ (9223372036854775807 < x.length + 1 + 1 + 1 + 1 + 1 + 1) := by omega
    have s5 : ¬ (9223372036854775807 < x.length + 1 + 1 + 1 + 1 + 1 + 1 + 1) := by omega
    have s6 : ¬ (9223372036854775807 < x.length + 1 + 1 + 1 + 1 + 1 + 1 + 1 + (digs n).length) := by omega
    have s7 : ¬ (9223372036854775801 < x.length) := by omega
    have s8 : ¬ (9223372036854775800 < x.length) := by omega
    clear h hc
    go_enter Tryd.func23, Tryd.ntmps23
    go_wp2_with fail
    refine (A _).out.mono ?_
    rintro e w1 ⟨rfl, hu⟩
    have hb := hu.obj n1
    have c0 := blk_cell hb 0 _ rfl
    have c1 := blk_cell hb 1 _ rfl
    have c2 := blk_cell hb 2 _ rfl
    have HU := Lib.hid (n0.trans hu)
    have hg1 := hg.up HU.out
    clear hu n0 n1 hb
    go_wp2_with fail
    go_region_held3 (fun w' => Up w w' ∧ Gl w' ∧ w'.cell? ⟨w.heap.size + 1, 0, none⟩ = some (.int .i64 f) ∧ w'.cell? ⟨w.heap.size + 1, 1, none⟩ = some (.int .i64 t) ∧ w'.cell? ⟨w.heap.size + 1, 2, none⟩ = some (.int .i64 n))
      (first | assumption | exact ⟨HU.out.drew, hg1.up (Up.refl _).drew, c0, c1, c2⟩ | exact keepP (by assumption) (by assumption) | exact keepP (by assumption) ((Up.refl _).alloc _))
      (first | (go_at_call 52; refine (digits_any _ (by omega) (by omega) _ (by go_split_ands; assumption)).mono ?_; rintro e w4 ⟨rfl, hu4⟩) | (go_at_call 54; refine (T _ (by go_split_ands; assumption)).mono ?_; rintro e w4 ⟨rfl, hu4⟩))
    all_goals
      go_wp2_with fail
      go_ret2
      exact ⟨ret_two (str_eq (by rw [HR.out]; simp)) (int_eq (by rw [HR.out])), by go_split_ands; assumption⟩
  · rw [h] at A
    rw [show toldR f t n = ([], 8) from by unfold toldR; rw [if_pos (by omega)]]
    clear h
    go_enter Tryd.func23, Tryd.ntmps23
    go_wp2_with fail
    refine (A _).out.mono ?_
    rintro e w1 ⟨rfl, hu⟩
    have HU := Lib.hid (n0.trans hu)
    clear hu n0 n1
    go_wp2_with fail
    go_ret2
    exact ⟨rfl, HU.out⟩
end Go.Proofs.YteeenbhmdacdiaaDoor
