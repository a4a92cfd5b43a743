/- Walks: curve.Place at all, tileid.base, tileid.ID. -/
import Derived.Test.YteeenbhmdacdiaaDoorWplace
namespace Go.Proofs.YteeenbhmdacdiaaDoor
open Go.RowKit Go.Gz

set_option maxHeartbeats 1000000 in
theorem place_any (z x y : Int) (w : World) :
    Calls Tryd.prog 65 #[.int .i64 z, .int .i64 x, .int .i64 y] w fun e w' => e = .returned (.tuple #[.int .u64 (placeV z x y), .int .i64 (placeE z x y)]) ∧ Up w w' := by
  by_cases hz : z < 0 ∨ 26 < z
  · have hs : sideV z = 0 := by unfold sideV; rw [if_neg (by omega)]
    have hE : placeE z x y = 2 := by unfold placeE; rw [if_pos hz]
    have hV : placeV z x y = 0 := by unfold placeV; rw [hE]; rfl
    have S := fun w => Lib.hid (side_any z w)
    rw [hs] at S
    rw [hE, hV]
    clear hs hE hV hz
    go_enter Tryd.func65, Tryd.ntmps65
    go_wp2_with (first | (go_at_call 83; refine (S _).out.mono ?_; rintro e w1 ⟨rfl, rfl⟩))
    go_ret2
    exact ⟨rfl, Up.refl _⟩
  obtain ⟨zn, rfl⟩ : ∃ n : Nat, z = n := ⟨z.toNat, by omega⟩
  have hz26 : zn ≤ 26 := by omega
  by_cases hr : x < 0 ∨ y < 0 ∨ ((2 ^ zn : Nat) : Int) ≤ x ∨ ((2 ^ zn : Nat) : Int) ≤ y
  · have hp := two_pow_le26 hz26
    have hp0 : 1 ≤ 2 ^ zn := Nat.two_pow_pos zn
    have hs : sideV zn = ((2 ^ zn : Nat) : Int) := by unfold sideV; rw [if_pos (by omega)]; simp
    have hE : placeE zn x y = 8 := by unfold placeE; rw [if_neg hz, Int.toNat_natCast, if_pos hr]
    have hV : placeV zn x y = 0 := by unfold placeV; rw [hE]; rfl
    have S := fun w => Lib.hid (side_any zn w)
    rw [hs] at S
    rw [hE, hV]
    clear hs hE hV hz
    generalize 2 ^ zn = P at *
    have hb : ((P : Int) == 0) = false := by rw [beq_eq_false_iff_ne]; omega
    by_cases h1 : x < 0
    · clear hr
      go_enter Tryd.func65, Tryd.ntmps65
      go_wp2_with (first | (go_at_call 83; refine (S _).out.mono ?_; rintro e w1 ⟨rfl, rfl⟩))
      go_ret2
      exact ⟨rfl, Up.refl _⟩
    by_cases h2 : y < 0
    · clear hr
      go_enter Tryd.func65, Tryd.ntmps65
      go_wp2_with (first | (go_at_call 83; refine (S _).out.mono ?_; rintro e w1 ⟨rfl, rfl⟩))
      go_ret2
      exact ⟨rfl, Up.refl _⟩
    by_cases h3 : (P : Int) ≤ x
    · clear hr
      go_enter Tryd.func65, Tryd.ntmps65
      go_wp2_with (first | (go_at_call 83; refine (S _).out.mono ?_; rintro e w1 ⟨rfl, rfl⟩))
      go_ret2
      exact ⟨rfl, Up.refl _⟩
    have h4 : (P : Int) ≤ y := by omega
    clear hr
    go_enter Tryd.func65, Tryd.ntmps65
    go_wp2_with (first | (go_at_call 83; refine (S _).out.mono ?_; rintro e w1 ⟨rfl, rfl⟩))
    go_ret2
    exact ⟨rfl, Up.refl _⟩
  · obtain ⟨xn, rfl⟩ : ∃ n : Nat, x = n := ⟨x.toNat, by omega⟩
    obtain ⟨yn, rfl⟩ : ∃ n : Nat, y = n := ⟨y.toNat, by omega⟩
    have hE : placeE zn xn yn = 0 := by unfold placeE; rw [if_neg hz, Int.toNat_natCast, if_neg hr]
    have hV : placeV zn xn yn = hil zn xn yn := by unfold placeV; rw [if_pos hE]; simp
    rw [hE, hV]
    exact place_ok zn xn yn hz26 (by omega) (by omega) w

set_option maxHeartbeats 400000 in
theorem base_any (z : Nat) (hz : z ≤ 27) (w : World) :
    Calls Tryd.prog 66 #[.int .i64 z] w fun e w' => e = .returned (.int .u64 (baseN z)) ∧ w = w' := by
  have h4 := four_pow_le27 hz
  have hb := baseN_eq z
  have hw : IntKind.u64.wrap (2 ^ (2 * z)) = ((4 ^ z : Nat) : Int) := by
    have e : ((2 : Int) ^ (2 * z)) = ((4 ^ z : Nat) : Int) := by rw [Int.pow_mul]; simp
    rw [e, IntKind.wrap_u64]; generalize 4 ^ z = p at *; omega
  generalize 4 ^ z = p at *
  generalize baseN z = q at *
  have HB := Lib.hid hb
  clear hb
  have h1 : 1 ≤ p := by have := HB.out; omega
  go_enter Tryd.func66, Tryd.ntmps66
  go_wp2
  go_ret
  exact ⟨ret_int (by have := HB.out; omega), rfl⟩

theorem idV_bad {z x y : Int} (h : placeE z x y ≠ 0) : idV z x y = 0 := by unfold idV; rw [if_neg h]
theorem placeV_bad {z x y : Int} (h : placeE z x y ≠ 0) : placeV z x y = 0 := by unfold placeV; rw [if_neg h]
theorem place_good {z x y : Int} (h : placeE z x y = 0) : 0 ≤ z ∧ z ≤ 26 ∧ 0 ≤ x ∧ 0 ≤ y ∧ x < (2 ^ z.toNat : Nat) ∧ y < (2 ^ z.toNat : Nat) := by
  unfold placeE at h
  split at h
  · simp at h
  · split at h
    · simp at h
    · omega
theorem placeV_lt (z x y : Int) : placeV z x y < 18014398509481984 := by
  by_cases h : placeE z x y = 0
  · obtain ⟨h1, h2, h3, h4, h5, h6⟩ := place_good h
    unfold placeV; rw [if_pos h]
    exact Nat.lt_of_lt_of_le (hil_lt z.toNat x.toNat y.toNat (by omega) (by omega)) (four_pow_le27 (by omega))
  · rw [placeV_bad h]; omega
theorem idV_eq {z x y : Int} (h : placeE z x y = 0) : idV z x y = baseN z.toNat + placeV z x y := by unfold idV placeV; rw [if_pos h, if_pos h]
set_option maxHeartbeats 400000 in
theorem id_any (z x y : Int) (w : World) :
    Calls Tryd.prog 45 #[.agg #[.int .i64 z, .int .i64 x, .int .i64 y]] w fun e w' => e = .returned (.tuple #[.int .u64 (idV z x y), .int .i64 (placeE z x y)]) ∧ Up w w' := by
  have A := fun w => Lib.hid (place_any z x y w)
  by_cases h : placeE z x y = 0
  · have hz := place_good h
    have hl := placeV_lt z x y
    have hI := idV_eq h
    rw [h] at A
    rw [h]
    obtain ⟨zn, rfl⟩ : ∃ n : Nat, z = n := ⟨z.toNat, by omega⟩
    simp only [Int.toNat_natCast] at hI
    have B := fun w => Lib.hid (base_any zn (by omega) w)
    have hb := baseN_eq zn
    have h4 := four_pow_le27 (z := zn) (by omega)
    have hbl : baseN zn < 18014398509481984 := by omega
    generalize baseN zn = bn at *
    generalize placeV zn x y = pv at *
    have HI := Lib.hid hI
    clear hI hb h4 hz h
    go_enter Tryd.func45, Tryd.ntmps45
    go_wp2_with (first | (go_at_call 65; refine (A _).out.mono ?_; rintro e w1 ⟨rfl, hu⟩; have hc1 := hu.cell (p := ⟨w.heap.size, 0, none⟩) (v := .int .i64 zn) (by simp)) | (go_at_call 66; refine (B _).out.mono ?_; rintro e w2 ⟨rfl, rfl⟩))
    go_ret2
    exact ⟨ret_two (int_eq (by rw [HI.out]; omega)) rfl, ((Up.refl w).alloc _).trans hu⟩
  · rw [idV_bad h]
    rw [placeV_bad h] at A
    have hb : (placeE z x y == 0) = false := by rw [beq_eq_false_iff_ne]; exact h
    have hb' : (placeE z x y != 0) = true := by rw [bne_iff_ne]; exact h
    generalize placeE z x y = pe at *
    clear h
    go_enter Tryd.func45, Tryd.ntmps45
    go_wp2_with (first | (go_at_call 65; refine (A _).out.mono ?_; rintro e w1 ⟨rfl, hu⟩))
    go_ret2
    exact ⟨rfl, ((Up.refl w).alloc _).trans hu⟩
end Go.Proofs.YteeenbhmdacdiaaDoor
