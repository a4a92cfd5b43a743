/- Walk: route.Print. -/
import Derived.Test.YteeenbhmdacdiaaDoorWparse
import Derived.Test.YteeenbhmdacdiaaDoorWdig
namespace Go.Proofs.YteeenbhmdacdiaaDoor
open Go.RowKit Go.Gz

theorem join3 (a b c : Bs) (bk : Nat) (w : World) (h : w.heap[bk]? = some (.cells #[strV a, strV b, strV c] 9 (0, 0))) (la : a.length ≤ 100) (lb : b.length ≤ 100) (lc : c.length ≤ 100) :
    Calls Tryd.prog 51 #[.slice (some ⟨bk, 0, none⟩) 3 3, .string ⟨#[47]⟩] w fun e w' => e = .returned (.string ⟨(a ++ 47 :: b ++ 47 :: c).toArray⟩) ∧ Up w w' := by
  have hj : Lib.join (([⟨a.toArray⟩, ⟨b.toArray⟩, ⟨c.toArray⟩] : List ByteArray).map (·.data.toList)) (⟨#[47]⟩ : ByteArray).data.toList = a ++ 47 :: b ++ 47 :: c := by
    simp [Lib.join]
  refine (Tryd.strings_Join bk 0 3 [⟨a.toArray⟩, ⟨b.toArray⟩, ⟨c.toArray⟩] ⟨#[47]⟩ w ?_ (Array.getElem?_eq_some_iff.1 h).1 (by simp) (by simp) (by rw [hj]; simp; omega)).mono ?_
  · intro j x hx
    match j, hx with
    | 0, hx => simp at hx; subst hx; exact blk_cell h 0 _ rfl
    | 1, hx => simp at hx; subst hx; exact blk_cell h 1 _ rfl
    | 2, hx => simp at hx; subst hx; exact blk_cell h 2 _ rfl
    | j + 3, hx => simp at hx
  · rintro e w' ⟨rfl, hu⟩
    rw [hj]
    exact ⟨rfl, hu⟩
set_option maxHeartbeats 1000000 in
theorem print_bad (z x y : Int) (ext : Bs) (h : placeE z x y ≠ 0) (w : World) :
    Calls Tryd.prog 17 #[.agg #[.int .i64 z, .int .i64 x, .int .i64 y], .string ⟨ext.toArray⟩] w fun e w' => e = .returned (.tuple #[.string ⟨(prT z x y ext).1.toArray⟩, .int .i64 (prT z x y ext).2]) ∧ Up w w' := by
  have hr : prT z x y ext = ([], placeE z x y) := by unfold prT; rw [if_pos h]
  rw [hr]
  have A := fun w => Lib.hid (id_any z x y w)
  have hb : (placeE z x y != 0) = true := by rw [bne_iff_ne]; exact h
  clear hr h
  generalize placeE z x y = pe at *
  generalize idV z x y = iv at *
  go_enter Tryd.func17, Tryd.ntmps17
  go_wp2_with (first | (go_at_call 45; refine (A _).out.mono ?_; rintro e w1 ⟨rfl, hu⟩))
  go_ret2
  exact ⟨rfl, ((Up.refl w).alloc _).trans hu⟩
theorem keepP {w2 w w' : World} {b : Nat} {x y z : Value} (h : Up w2 w ∧ Gl w ∧ w.cell? ⟨b, 0, none⟩ = some x ∧ w.cell? ⟨b, 1, none⟩ = some y ∧ w.cell? ⟨b, 2, none⟩ = some z) (hu : Up w w') :
    Up w2 w' ∧ Gl w' ∧ w'.cell? ⟨b, 0, none⟩ = some x ∧ w'.cell? ⟨b, 1, none⟩ = some y ∧ w'.cell? ⟨b, 2, none⟩ = some z :=
  ⟨h.1.trans hu, h.2.1.up hu, hu.cell h.2.2.1, hu.cell h.2.2.2.1, hu.cell h.2.2.2.2⟩
set_option maxHeartbeats 4000000 in
theorem print_ok (z x y : Int) (ext : Bs) (hx : ext.length ≤ 1000000) (h : placeE z x y = 0) (w : World) (hg : Gl w) :
    Calls Tryd.prog 17 #[.agg #[.int .i64 z, .int .i64 x, .int .i64 y], .string ⟨ext.toArray⟩] w fun e w' => e = .returned (.tuple #[.string ⟨(prT z x y ext).1.toArray⟩, .int .i64 (prT z x y ext).2]) ∧ Up w w' := by
  have A := fun w => Lib.hid (id_any z x y w)
  rw [h] at A
  obtain ⟨hz0, hz1, hx0, hy0, hx1, hy1⟩ := place_good h
  have hp := two_pow_le26 (z := z.toNat) (by omega)
  have hx2 : x ≤ 67108864 := by omega
  have hy2 : y ≤ 67108864 := by omega
  have lz := digs_len (n := z) (by omega)
  have lx := digs_len (n := x) (by omega)
  have ly := digs_len (n := y) (by omega)
  have KC := fun w => Lib.hid (known_any ext w)
  have JC := fun bk w h => join3 (digs z) (digs x) (digs y) bk w h (by omega) (by omega) (by omega)
  have HJL : (digs z ++ 47 :: digs x ++ 47 :: digs y).length ≤ 62 := by simp only [List.length_append, List.length_cons]; omega
  obtain ⟨J, hJ⟩ : ∃ J, J = digs z ++ 47 :: digs x ++ 47 :: digs y := ⟨_, rfl⟩
  rw [← hJ] at JC HJL
  have HJ := Lib.hid hJ
  clear hJ
  have hJ1 : ¬ (9223372036854775807 < 1 + J.length) := by omega
  have hJ2 : ¬ (9223372036854775806 < J.length) := by omega
  have hJ3 : (¬ 9223372036854775807 < 1 + J.length) = True := by simp only [hJ1, not_false_eq_true]
  have hJ4 : 1 + J.length ≤ 9223372036854775807 := by omega
  have hJ5 : J.length ≤ 9223372036854775806 := by omega
  by_cases he : ext = []
  · subst he
    have hr : prT z x y [] = (pathB z x y [], 0) := by unfold prT; rw [if_neg (by simp [h]), if_neg (by simp)]
    rw [hr]
    have HPB := Lib.hid (show pathB z x y [] = 47 :: (digs z ++ 47 :: digs x ++ 47 :: digs y) from by simp [pathB])
    clear hr hp hx1 hy1 h
    go_enter Tryd.func17, Tryd.ntmps17
    go_wp2_with (first | (go_at_call 45; refine (A _).out.mono ?_; rintro e w1 ⟨rfl, hu⟩; have c0 := hu.cell (p := ⟨w.heap.size, 0, none⟩) (v := .int .i64 z) (by simp); have c1 := hu.cell (p := ⟨w.heap.size, 1, none⟩) (v := .int .i64 x) (by simp); have c2 := hu.cell (p := ⟨w.heap.size, 2, none⟩) (v := .int .i64 y) (by simp); have HU := Lib.hid (((Up.refl w).alloc _).trans hu); clear hu))
    go_region_held3 (fun w' => Up w w' ∧ Gl w' ∧ w'.cell? ⟨w.heap.size, 0, none⟩ = some (.int .i64 z) ∧ w'.cell? ⟨w.heap.size, 1, none⟩ = some (.int .i64 x) ∧ w'.cell? ⟨w.heap.size, 2, none⟩ = some (.int .i64 y))
      (first | assumption | exact ⟨HU.out.drew, hg.up HU.out.drew, c0, c1, c2⟩ | exact keepP (by assumption) (by assumption) | exact keepP (by assumption) ((Up.refl _).alloc _))
      (first
        | (go_at_call 52; refine (digits_any _ (by omega) (by omega) _ (by go_split_ands; assumption)).mono ?_; rintro e w4 ⟨rfl, hu4⟩)
        | (go_at_call 51; refine (JC _ _ (heap_alloc_new _ _)).mono ?_; rintro e w5 ⟨rfl, hu5⟩))
    have hS := ‹Up w w5 ∧ _›
    have HS := Lib.hid hS.1
    clear hS
    go_wp2_with fail
    go_ret2
    exact ⟨ret_two (str_eq (by rw [HPB.out, HJ.out]; simp)) rfl, HS.out⟩
  · have g0 : (ext == []) = false := by simp [he]
    have g1 : (!(ext == [])) = true := by simp [he]
    have g2 : ext.isEmpty = false := by cases ext with
      | nil => exact absurd rfl he
      | cons => rfl
    by_cases hk : knownB ext = false
    · have hr : prT z x y ext = ([], 14) := by unfold prT; rw [if_neg (by simp [h]), if_pos ⟨he, hk⟩]
      rw [hr]
      rw [hk] at KC
      clear hr hp hx1 hy1 h he hk
      go_enter Tryd.func17, Tryd.ntmps17
      go_wp2_with (first | (go_at_call 45; refine (A _).out.mono ?_; rintro e w1 ⟨rfl, hu⟩) | (go_at_call 19; refine (KC _).out.mono ?_; rintro e w9 ⟨rfl, rfl⟩))
      go_ret2
      exact ⟨rfl, ((Up.refl w).alloc _).trans hu⟩
    · have hkt : knownB ext = true := by simpa using hk
      have hr : prT z x y ext = (pathB z x y ext, 0) := by unfold prT; rw [if_neg (by simp [h]), if_neg (by simp [hkt])]
      rw [hr]
      rw [hkt] at KC
      have HPB := Lib.hid (show pathB z x y ext = (47 :: (digs z ++ 47 :: digs x ++ 47 :: digs y)) ++ (46 :: ext) from by simp [pathB, he])
      clear hr hp hx1 hy1 h he hk hkt
      go_enter Tryd.func17, Tryd.ntmps17
      go_wp2_with (first | (go_at_call 19; refine (KC _).out.mono ?_; rintro e w9 ⟨rfl, rfl⟩) | (go_at_call 45; refine (A _).out.mono ?_; rintro e w1 ⟨rfl, hu⟩; have c0 := hu.cell (p := ⟨w.heap.size, 0, none⟩) (v := .int .i64 z) (by simp); have c1 := hu.cell (p := ⟨w.heap.size, 1, none⟩) (v := .int .i64 x) (by simp); have c2 := hu.cell (p := ⟨w.heap.size, 2, none⟩) (v := .int .i64 y) (by simp); have HU := Lib.hid (((Up.refl w).alloc _).trans hu); clear hu))
      go_region_held3 (fun w' => Up w w' ∧ Gl w' ∧ w'.cell? ⟨w.heap.size, 0, none⟩ = some (.int .i64 z) ∧ w'.cell? ⟨w.heap.size, 1, none⟩ = some (.int .i64 x) ∧ w'.cell? ⟨w.heap.size, 2, none⟩ = some (.int .i64 y))
        (first | assumption | exact ⟨HU.out.drew, hg.up HU.out.drew, c0, c1, c2⟩ | exact keepP (by assumption) (by assumption) | exact keepP (by assumption) ((Up.refl _).alloc _))
        (first
          | (go_at_call 52; refine (digits_any _ (by omega) (by omega) _ (by go_split_ands; assumption)).mono ?_; rintro e w4 ⟨rfl, hu4⟩)
          | (go_at_call 51; refine (JC _ _ (heap_alloc_new _ _)).mono ?_; rintro e w5 ⟨rfl, hu5⟩))
      have hS := ‹Up w w5 ∧ _›
      have HS := Lib.hid hS.1
      clear hS
      go_wp2_with fail
      go_ret2
      exact ⟨ret_two (str_eq (by rw [HPB.out, HJ.out]; simp)) rfl, HS.out⟩
theorem print_any (z x y : Int) (ext : Bs) (hx : ext.length ≤ 1000000) (w : World) (hg : Gl w) :
    Calls Tryd.prog 17 #[.agg #[.int .i64 z, .int .i64 x, .int .i64 y], .string ⟨ext.toArray⟩] w fun e w' => e = .returned (.tuple #[.string ⟨(prT z x y ext).1.toArray⟩, .int .i64 (prT z x y ext).2]) ∧ Up w w' := by
  by_cases h : placeE z x y = 0
  · exact print_ok z x y ext hx h w hg
  · exact print_bad z x y ext h w
end Go.Proofs.YteeenbhmdacdiaaDoor
