/- Walk: the reference's Print. -/
import Derived.Test.YteeenbhmdacdiaaDoorWrparse
import Derived.Test.YteeenbhmdacdiaaDoorWrid
import Derived.Test.YteeenbhmdacdiaaDoorWdig
namespace Go.Proofs.YteeenbhmdacdiaaDoor
open Go.RowKit Go.Gz

theorem rdigits_q (n : Int) (h0 : 0 ≤ n) (h1 : n ≤ 67108864) (w : World) (k : Nat) :
    Calls Tryd.prog 53 #[.int .i64 n] (w.drewN k) fun e w'' => e = .returned (.string ⟨(digs n).toArray⟩) ∧ ∃ m, w'' = w.drewN m := by
  refine (rdigits_any 100000000 n _ (by omega) (by omega) (by omega)).mono ?_
  rintro e w3 ⟨rfl, rfl⟩
  exact ⟨rfl, k, rfl⟩
set_option maxRecDepth 2000 in
set_option maxHeartbeats 4000000 in
theorem rprint_any (z x y : Int) (ext : Bs) (hx : ext.length ≤ 1000000) (w : World) :
    Calls Tryd.prog 18 #[.agg #[.int .i64 z, .int .i64 x, .int .i64 y], .string ⟨ext.toArray⟩] w fun e w' => e = .returned (.tuple #[.string ⟨(prT z x y ext).1.toArray⟩, .int .i64 (prT z x y ext).2]) ∧ Up w w' := by
  have A := fun w => Lib.hid (rid_any z x y w)
  have KC := fun w => Lib.hid (rknown_any ext w)
  by_cases h : placeE z x y = 0
  · rw [h] at A
    obtain ⟨hz0, hz1, hx0, hy0, hx1, hy1⟩ := place_good h
    have hp := two_pow_le26 (z := z.toNat) (by omega)
    have hx2 : x ≤ 67108864 := by omega
    have hy2 : y ≤ 67108864 := by omega
    have lz := digs_len (n := z) (by omega)
    have lx := digs_len (n := x) (by omega)
    have ly := digs_len (n := y) (by omega)
    have HPB := Lib.hid (show pathB z x y ext = 47 :: (digs z ++ 47 :: digs x ++ 47 :: digs y) ++ (if ext = [] then [] else 46 :: ext) from by simp [pathB])
    have HPR := Lib.hid (show prT z x y ext = if ext ≠ [] ∧ knownB ext = false then ([], 14) else (pathB z x y ext, 0) from by unfold prT; rw [if_neg (by simp [h])])
    clear hp hx1 hy1 h
    generalize idV z x y = iv at *
    by_cases he : ext = []
    · subst he
      go_enter Tryd.func18, Tryd.ntmps18
      go_wp2_with (first | (go_at_call 50; refine (A _).out.mono ?_; rintro e w1 ⟨rfl, hu⟩; have c0 := hu.cell (p := ⟨w.heap.size, 0, none⟩) (v := .int .i64 z) (by simp); have c1 := hu.cell (p := ⟨w.heap.size, 1, none⟩) (v := .int .i64 x) (by simp); have c2 := hu.cell (p := ⟨w.heap.size, 2, none⟩) (v := .int .i64 y) (by simp); have HU := Lib.hid (((Up.refl w).alloc _).trans hu); clear hu))
      go_quiet (first | (go_at_call 53; exact rdigits_q _ (by assumption) (by omega) _ _))
      go_wp2_with fail
      go_ret2
      exact ⟨ret_two (str_eq (by rw [HPR.out, HPB.out]; simp)) (int_eq (by rw [HPR.out]; simp)), HU.out.drewN _⟩
    · have g0 : (ext == []) = false := by simp [he]
      have g1 : (!(ext == [])) = true := by simp [he]
      have g2 : ext.isEmpty = false := by cases ext with
        | nil => exact absurd rfl he
        | cons => rfl
      have HPB2 := Lib.hid (HPB.out.trans (by rw [if_neg he]))
      have HPR2 := Lib.hid (show prT z x y ext = if knownB ext = false then ([], 14) else (pathB z x y ext, 0) from by rw [HPR.out]; simp [he])
      clear HPB HPR he
      by_cases hk : knownB ext = false
      · rw [hk] at KC
        go_enter Tryd.func18, Tryd.ntmps18
        go_wp2_with (first | (go_at_call 50; refine (A _).out.mono ?_; rintro e w1 ⟨rfl, hu⟩; have HU := Lib.hid (((Up.refl w).alloc _).trans hu); clear hu) | (go_at_call 20; refine (KC _).out.mono ?_; rintro e w9 ⟨rfl, hu9⟩; have HU9 := Lib.hid (HU.out.trans hu9); clear hu9))
        go_ret2
        exact ⟨ret_two (str_eq (by rw [HPR2.out]; simp [hk])) (int_eq (by rw [HPR2.out]; simp [hk])), HU9.out⟩
      · have hkt : knownB ext = true := by simpa using hk
        rw [hkt] at KC
        clear hk
        go_enter Tryd.func18, Tryd.ntmps18
        go_wp2_with (first | (go_at_call 50; refine (A _).out.mono ?_; rintro e w1 ⟨rfl, hu⟩; have c0 := hu.cell (p := ⟨w.heap.size, 0, none⟩) (v := .int .i64 z) (by simp); have c1 := hu.cell (p := ⟨w.heap.size, 1, none⟩) (v := .int .i64 x) (by simp); have c2 := hu.cell (p := ⟨w.heap.size, 2, none⟩) (v := .int .i64 y) (by simp); have HU := Lib.hid (((Up.refl w).alloc _).trans hu); clear hu) | (go_at_call 20; refine (KC _).out.mono ?_; rintro e w9 ⟨rfl, hu9⟩; replace c0 := hu9.cell c0; replace c1 := hu9.cell c1; replace c2 := hu9.cell c2; have HU9 := Lib.hid (HU.out.trans hu9); clear hu9))
        go_quiet (first | (go_at_call 53; exact rdigits_q _ (by assumption) (by omega) _ _))
        go_wp2_with fail
        go_ret2
        exact ⟨ret_two (str_eq (by rw [HPR2.out, hkt, HPB2.out]; simp)) (int_eq (by rw [HPR2.out, hkt]; simp)), HU9.out.drewN _⟩
  · have hb : (placeE z x y != 0) = true := by rw [bne_iff_ne]; exact h
    have HPR := Lib.hid (show prT z x y ext = ([], placeE z x y) from by unfold prT; rw [if_pos h])
    clear h
    generalize placeE z x y = pe at *
    generalize idV z x y = iv at *
    go_enter Tryd.func18, Tryd.ntmps18
    go_wp2_with (first | (go_at_call 50; refine (A _).out.mono ?_; rintro e w1 ⟨rfl, hu⟩; have HU := Lib.hid (((Up.refl w).alloc _).trans hu); clear hu))
    go_ret2
    exact ⟨ret_two (str_eq (by rw [HPR.out])) (int_eq (by rw [HPR.out])), HU.out⟩
end Go.Proofs.YteeenbhmdacdiaaDoor
