/- Walks: the reference's Ask and Told. -/
import Derived.Test.YteeenbhmdacdiaaDoorWtold
namespace Go.Proofs.YteeenbhmdacdiaaDoor
open Go.RowKit Go.Gz

theorem rdigits_b (n : Int) (h0 : 0 ≤ n) (h1 : n ≤ 9007199254740991) (w : World) (k : Nat) :
    Calls Tryd.prog 53 #[.int .i64 n] (w.drewN k) fun e w'' => e = .returned (.string ⟨(digs n).toArray⟩) ∧ ∃ m, w'' = w.drewN m := by
  refine (rdigits_any 9007199254740991 n _ (by omega) (by omega) (by omega)).mono ?_
  rintro e w3 ⟨rfl, rfl⟩
  exact ⟨rfl, k, rfl⟩
set_option maxHeartbeats 4000000 in
theorem rask_any (f t : Int) (w : World) :
    Calls Tryd.prog 22 #[.agg #[.int .i64 f, .int .i64 t]] w fun e w' => e = .returned (.tuple #[.string ⟨(askR f t).1.toArray⟩, .int .i64 (askR f t).2]) ∧ Up w w' := by
  have A := fun w => Lib.hid (rcheck_any f t w)
  have n0 := new2 w 42 f t
  rcases chk_cases f t with h | h
  · obtain ⟨hf0, hf1, hf2⟩ := chk_fits h
    rw [h] at A
    have HR := Lib.hid (show askR f t = ([98, 121, 116, 101, 115, 61] ++ (digs f ++ 45 :: digs t), 0) from by unfold askR; rw [if_neg (by omega)]; rfl)
    have l1 := digs_len (n := f) (by omega)
    have l2 := digs_len (n := t) (by omega)
    have hf3 : f ≤ 9007199254740990 := by omega
    have ht0 : 0 ≤ t := by omega
    clear h
    go_enter Tryd.func22, Tryd.ntmps22
    go_wp2_with fail
    refine (A _).out.mono ?_
    rintro e w1 ⟨rfl, hu⟩
    have c0 := hu.cell n0.2.1
    have c1 := hu.cell n0.2.2
    have HU := Lib.hid (n0.1.trans hu)
    clear hu n0
    go_wp2_with fail
    go_quiet (first | (go_at_call 53; exact rdigits_b _ (by assumption) (by omega) _ _))
    go_wp2_with fail
    go_ret2
    exact ⟨ret_two (str_eq (by rw [HR.out]; simp)) (int_eq (by rw [HR.out])), HU.out.drewN _⟩
  · rw [h] at A
    rw [show askR f t = ([], 8) from by unfold askR; rw [if_pos (by omega)]]
    clear h
    go_enter Tryd.func22, Tryd.ntmps22
    go_wp2_with fail
    refine (A _).out.mono ?_
    rintro e w1 ⟨rfl, hu⟩
    have HU := Lib.hid (n0.1.trans hu)
    clear hu n0
    go_wp2_with fail
    go_ret2
    exact ⟨rfl, HU.out⟩
set_option maxHeartbeats 4000000 in
theorem rtold_any (f t n : Int) (w : World) :
    Calls Tryd.prog 24 #[.agg #[.int .i64 f, .int .i64 t], .int .i64 n] w fun e w' => e = .returned (.tuple #[.string ⟨(toldR f t n).1.toArray⟩, .int .i64 (toldR f t n).2]) ∧ Up w w' := by
  have A := fun w => Lib.hid (rcheck_any f t w)
  have n0 := new2 w 42 f t
  rcases chk_cases f t with h | h
  · obtain ⟨hf0, hf1, hf2⟩ := chk_fits h
    obtain ⟨p1, p2, p3⟩ := wrong_pick (n := n) h
    rw [h] at A
    by_cases h1 : n ≤ t
    · rw [show toldR f t n = ([], 8) from by unfold toldR; rw [if_pos (by rw [p1 h1]; omega)]]
      clear p1 p2 p3 h
      go_enter Tryd.func24, Tryd.ntmps24
      go_wp2_with fail
      refine (A _).out.mono ?_
      rintro e w1 ⟨rfl, hu⟩
      have c0 := hu.cell n0.2.1
      have c1 := hu.cell n0.2.2
      have HU := Lib.hid (n0.1.trans hu)
      clear hu n0
      go_wp2_with fail
      go_ret2
      exact ⟨rfl, HU.out⟩
    by_cases h2 : 9007199254740991 < n
    · rw [show toldR f t n = ([], 8) from by unfold toldR; rw [if_pos (by rw [p2 h1 h2]; omega)]]
      clear p1 p2 p3 h
      go_enter Tryd.func24, Tryd.ntmps24
      go_wp2_with fail
      refine (A _).out.mono ?_
      rintro e w1 ⟨rfl, hu⟩
      have c0 := hu.cell n0.2.1
      have c1 := hu.cell n0.2.2
      have HU := Lib.hid (n0.1.trans hu)
      clear hu n0
      go_wp2_with fail
      go_ret2
      exact ⟨rfl, HU.out⟩
    have HR := Lib.hid (show toldR f t n = ([98, 121, 116, 101, 115, 32] ++ (digs f ++ 45 :: digs t) ++ 47 :: digs n, 0) from by unfold toldR; rw [if_neg (by rw [p3 h1 h2]; omega)]; rfl)
    have l1 := digs_len (n := f) (by omega)
    have l2 := digs_len (n := t) (by omega)
    have l3 := digs_len (n := n) (by omega)
    have hf3 : f ≤ 9007199254740990 := by omega
    have ht0 : 0 ≤ t := by omega
    have hn0 : 0 ≤ n := by omega
    have hn1 : n ≤ 9007199254740991 := by omega
    clear p1 p2 p3 h
    go_enter Tryd.func24, Tryd.ntmps24
    go_wp2_with fail
    refine (A _).out.mono ?_
    rintro e w1 ⟨rfl, hu⟩
    have c0 := hu.cell n0.2.1
    have c1 := hu.cell n0.2.2
    have HU := Lib.hid (n0.1.trans hu)
    clear hu n0
    go_wp2_with fail
    go_quiet (first | (go_at_call 53; exact rdigits_b _ (by assumption) (by omega) _ _))
    go_wp2_with fail
    go_ret2
    exact ⟨ret_two (str_eq (by rw [HR.out]; simp)) (int_eq (by rw [HR.out])), HU.out.drewN _⟩
  · rw [h] at A
    rw [show toldR f t n = ([], 8) from by unfold toldR; rw [if_pos (by unfold wrongV; rw [if_pos (by omega)]; omega)]]
    clear h
    go_enter Tryd.func24, Tryd.ntmps24
    go_wp2_with fail
    refine (A _).out.mono ?_
    rintro e w1 ⟨rfl, hu⟩
    have HU := Lib.hid (n0.1.trans hu)
    clear hu n0
    go_wp2_with fail
    go_ret2
    exact ⟨rfl, HU.out⟩
end Go.Proofs.YteeenbhmdacdiaaDoor
