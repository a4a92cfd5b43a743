/- Walks: curve.Place at all, tileid.base, tileid.ID. -/
import Derived.Test.YtjhgaildbeokkaaGreatDoorGT02
namespace Go.Proofs.YtjhgaildbeokkaaGreatDoor
open Go.RowKit Go.Gz

set_option maxHeartbeats 1000000 in
theorem place_any (z x y : Int) (w : World) :
    Calls Tryz.prog 335 #[.int .i64 z, .int .i64 x, .int .i64 y] w fun e w' => e = .returned (.tuple #[.int .u64 (placeV z x y), .int .i64 (placeE z x y)]) ∧ Up w w' := by
  by_cases hz : z < 0 ∨ 26 < z
  · have hs : sideV z = 0 := by unfold sideV; rw [if_neg (by omega)]
    have hE : placeE z x y = 2 := by unfold placeE; rw [if_pos hz]
    have hV : placeV z x y = 0 := by unfold placeV; rw [hE]; rfl
    have S := fun w => Lib.hid (side_any z w);rw [hs] at S;rw [hE, hV];clear hs hE hV hz;go_enter Tryz.func335, Tryz.ntmps335;go_wp2_with (first | (go_at_call 231; refine (S _).out.mono ?_; rintro e w1 ⟨rfl, rfl⟩))
    go_ret2
    exact ⟨rfl, Up.refl _⟩
  obtain ⟨zn, rfl⟩ : ∃ n : Nat, z = n := ⟨z.toNat, by omega⟩;have hz26 : zn ≤ 26 := by omega
  by_cases hr : x < 0 ∨ y < 0 ∨ ((2 ^ zn : Nat) : Int) ≤ x ∨ ((2 ^ zn : Nat) : Int) ≤ y
  · have hp := two_pow_le26 hz26;have hp0 : 1 ≤ 2 ^ zn := Nat.two_pow_pos zn;have hs : sideV zn = ((2 ^ zn : Nat) : Int) := by unfold sideV; rw [if_pos (by omega)]; simp
    have hE : placeE zn x y = 8 := by unfold placeE; rw [if_neg hz, Int.toNat_natCast, if_pos hr]
    have hV : placeV zn x y = 0 := by unfold placeV; rw [hE]; rfl
    have S := fun w => Lib.hid (side_any zn w);rw [hs] at S;rw [hE, hV];clear hs hE hV hz;generalize 2 ^ zn = P at *;have hb : ((P : Int) == 0) = false := by rw [beq_eq_false_iff_ne]; omega
    by_cases h1 : x < 0
    · clear hr;go_enter Tryz.func335, Tryz.ntmps335;go_wp2_with (first | (go_at_call 231; refine (S _).out.mono ?_; rintro e w1 ⟨rfl, rfl⟩))
      go_ret2
      exact ⟨rfl, Up.refl _⟩
    by_cases h2 : y < 0
    · clear hr;go_enter Tryz.func335, Tryz.ntmps335;go_wp2_with (first | (go_at_call 231; refine (S _).out.mono ?_; rintro e w1 ⟨rfl, rfl⟩))
      go_ret2
      exact ⟨rfl, Up.refl _⟩
    by_cases h3 : (P : Int) ≤ x
    · clear hr;go_enter Tryz.func335, Tryz.ntmps335;go_wp2_with (first | (go_at_call 231; refine (S _).out.mono ?_; rintro e w1 ⟨rfl, rfl⟩))
      go_ret2
      exact ⟨rfl, Up.refl _⟩
    have h4 : (P : Int) ≤ y := by omega
    clear hr;go_enter Tryz.func335, Tryz.ntmps335;go_wp2_with (first | (go_at_call 231; refine (S _).out.mono ?_; rintro e w1 ⟨rfl, rfl⟩))
    go_ret2
    exact ⟨rfl, Up.refl _⟩
  · obtain ⟨xn, rfl⟩ : ∃ n : Nat, x = n := ⟨x.toNat, by omega⟩;obtain ⟨yn, rfl⟩ : ∃ n : Nat, y = n := ⟨y.toNat, by omega⟩;have hE : placeE zn xn yn = 0 := by unfold placeE; rw [if_neg hz, Int.toNat_natCast, if_neg hr]
    have hV : placeV zn xn yn = hil zn xn yn := by unfold placeV; rw [if_pos hE]; simp
    rw [hE, hV];exact place_ok zn xn yn hz26 (by omega) (by omega) w
set_option maxHeartbeats 400000 in
theorem base_any (z : Nat) (hz : z ≤ 27) (w : World) :
    Calls Tryz.prog 230 #[.int .i64 z] w fun e w' => e = .returned (.int .u64 (baseN z)) ∧ w = w' := by
  have h4 := four_pow_le27 hz;have hb := baseN_eq z;have hw : IntKind.u64.wrap (2 ^ (2 * z)) = ((4 ^ z : Nat) : Int) := by
    have e : ((2 : Int) ^ (2 * z)) = ((4 ^ z : Nat) : Int) := by rw [Int.pow_mul]; simp
    rw [e, IntKind.wrap_u64]; generalize 4 ^ z = p at *; omega
  generalize 4 ^ z = p at *;generalize baseN z = q at *;have HB := Lib.hid hb;clear hb;have h1 : 1 ≤ p := by have := HB.out; omega
  go_enter Tryz.func230, Tryz.ntmps230;go_wp2
  go_ret;exact ⟨ret_int (by have := HB.out; omega), rfl⟩

theorem idV_bad {z x y : Int} (h : placeE z x y ≠ 0) : idV z x y = 0 := by unfold idV; rw [if_neg h]
theorem placeV_bad {z x y : Int} (h : placeE z x y ≠ 0) : placeV z x y = 0 := by unfold placeV; rw [if_neg h]
theorem place_good {z x y : Int} (h : placeE z x y = 0) : 0 ≤ z ∧ z ≤ 26 ∧ 0 ≤ x ∧ 0 ≤ y ∧ x < (2 ^ z.toNat : Nat) ∧ y < (2 ^ z.toNat : Nat) := by
  unfold placeE at h;split at h
  · simp at h
  · split at h
    · simp at h
    · omega
theorem placeV_lt (z x y : Int) : placeV z x y < 18014398509481984 := by
  by_cases h : placeE z x y = 0
  · obtain ⟨h1, h2, h3, h4, h5, h6⟩ := place_good h;unfold placeV; rw [if_pos h];exact Nat.lt_of_lt_of_le (hil_lt z.toNat x.toNat y.toNat (by omega) (by omega)) (four_pow_le27 (by omega))
  · rw [placeV_bad h]; omega
theorem idV_eq {z x y : Int} (h : placeE z x y = 0) : idV z x y = baseN z.toNat + placeV z x y := by unfold idV placeV; rw [if_pos h, if_pos h]
set_option maxHeartbeats 400000 in
theorem id_any (z x y : Int) (w : World) :
    Calls Tryz.prog 292 #[.agg #[.int .i64 z, .int .i64 x, .int .i64 y]] w fun e w' => e = .returned (.tuple #[.int .u64 (idV z x y), .int .i64 (placeE z x y)]) ∧ Up w w' := by
  have A := fun w => Lib.hid (place_any z x y w);by_cases h : placeE z x y = 0
  · have hz := place_good h;have hl := placeV_lt z x y;have hI := idV_eq h;rw [h] at A;rw [h];obtain ⟨zn, rfl⟩ : ∃ n : Nat, z = n := ⟨z.toNat, by omega⟩;simp only [Int.toNat_natCast] at hI;have B := fun w => Lib.hid (base_any zn (by omega) w);have hb := baseN_eq zn;have h4 := four_pow_le27 (z := zn) (by omega);have hbl : baseN zn < 18014398509481984 := by omega
    generalize baseN zn = bn at *;generalize placeV zn x y = pv at *;have HI := Lib.hid hI;clear hI hb h4 hz h;go_enter Tryz.func292, Tryz.ntmps292;go_wp2_with (first | (go_at_call 335; refine (A _).out.mono ?_; rintro e w1 ⟨rfl, hu⟩; have hc1 := hu.cell (p := ⟨w.heap.size, 0, none⟩) (v := .int .i64 zn) (by simp)) | (go_at_call 230; refine (B _).out.mono ?_; rintro e w2 ⟨rfl, rfl⟩))
    go_ret2
    exact ⟨ret_two (int_eq (by rw [HI.out]; omega)) rfl, ((Up.refl w).alloc _).trans hu⟩
  · rw [idV_bad h];rw [placeV_bad h] at A;have hb : (placeE z x y == 0) = false := by rw [beq_eq_false_iff_ne]; exact h
    have hb' : (placeE z x y != 0) = true := by rw [bne_iff_ne]; exact h
    generalize placeE z x y = pe at *;clear h;go_enter Tryz.func292, Tryz.ntmps292;go_wp2_with (first | (go_at_call 335; refine (A _).out.mono ?_; rintro e w1 ⟨rfl, hu⟩))
    go_ret2
    exact ⟨rfl, ((Up.refl w).alloc _).trans hu⟩
end Go.Proofs.YtjhgaildbeokkaaGreatDoor
/- Walks: the reference's place, base, identifier. -/
namespace Go.Proofs.YtjhgaildbeokkaaGreatDoor
open Go.RowKit Go.Gz

def SRel (z : Nat) (n i : Value) : Prop := ∃ k : Nat, k ≤ z ∧ i = .int .i64 k ∧ n = .int .i64 ((2 ^ k : Nat) : Int)
set_option maxHeartbeats 1000000 in
theorem rside_any (z : Int) (w : World) :
    Calls Tryz.prog 163 #[.int .i64 z] w fun e w' => e = .returned (.int .i64 (sideV z)) ∧ w = w' := by
  by_cases h0 : z < 0
  · have hs : sideV z = 0 := by unfold sideV; rw [if_neg (by omega)]
    rw [hs];clear hs;go_enter Tryz.func163, Tryz.ntmps163;go_wp2
    go_ret;exact ⟨rfl, rfl⟩
  by_cases h1 : 26 < z
  · have hs : sideV z = 0 := by unfold sideV; rw [if_neg (by omega)]
    rw [hs];clear hs;go_enter Tryz.func163, Tryz.ntmps163;go_wp2
    go_ret;exact ⟨rfl, rfl⟩
  obtain ⟨z, rfl⟩ : ∃ n : Nat, z = n := ⟨z.toNat, by omega⟩;obtain ⟨F, hF⟩ : ∃ F : Nat, F = 2 ^ z := ⟨_, rfl⟩;have hs : sideV z = (F : Int) := by unfold sideV; rw [if_pos (by omega), hF]; simp
  rw [hs];have HF := Lib.hid hF;clear hs hF;go_enter Tryz.func163, Tryz.ntmps163;go_wp2
  go_loop [3, 4] (fun n i => SRel z n i) (fun _ i => z - (intOf i).toNat)
  case atStart => exact ⟨0, by omega, rfl, rfl⟩
  case round =>
    obtain ⟨k, hk, rfl, rfl⟩ := hrel;have hp := two_pow_le26 (z := k) (by omega);by_cases hlt : k < z
    · have hs := Lib.hid (show 2 ^ (k + 1) = 2 * 2 ^ k by rw [Nat.pow_succ]; omega);have HP := Lib.hid (show ∃ P, 2 ^ k = P from ⟨_, rfl⟩);generalize hP : 2 ^ k = P at *;have HPP := Lib.hid hP;clear hP HP;go_wp2
      go_round
      case rel => exact ⟨k + 1, by omega, by go_num, int_eq (by rw [hs.out]; omega)⟩
      case measure => simp [intOf]; omega
    · obtain rfl : k = z := by omega
      generalize hP : 2 ^ k = P at *;have HPP := Lib.hid hP;clear hP;go_wp2
      go_ret;exact ⟨ret_int (by rw [HF.out]), rfl⟩
set_option maxHeartbeats 2000000 in
theorem rplace_ok (z : Nat) : ∀ (x y : Nat) (w : World), z ≤ 26 → x < 2 ^ z → y < 2 ^ z →
    Calls Tryz.prog 301 #[.int .i64 ((2 ^ z : Nat) : Int), .int .i64 x, .int .i64 y] w fun e w' => e = .returned (.int .u64 (hil z x y)) ∧ w = w' := by
  induction z with
  | zero =>
    intro x y w _ _ _;go_enter Tryz.func301, Tryz.ntmps301;go_wp2_with fail;go_ret;exact ⟨rfl, rfl⟩
  | succ m ih =>
    intro x y w hz hx hy;have hs : 2 ^ (m + 1) = 2 * 2 ^ m := by rw [Nat.pow_succ]; omega
    have hp := two_pow_le26 (z := m) (by omega);have hp0 : 1 ≤ 2 ^ m := Nat.two_pow_pos m;have h4 := four_pow_le27 (z := m) (by omega);have hq := pow4 m;have A := hil_a (m := m) (x := x) (y := y);have B := hil_b (m := m) (x := x) (y := y);have C := hil_c (m := m) (x := x) (y := y);have D := hil_d (m := m) (x := x) (y := y);have hm : m ≤ 26 := by omega
    have LT := Lib.hid (fun x y => hil_lt m x y);have IH : Hid (∀ (X Y : Int) (x y : Nat) (w : World), X = x → Y = y → x < 2 ^ m → y < 2 ^ m → Calls Tryz.prog 301 #[.int .i64 ((2 ^ m : Nat) : Int), .int .i64 X, .int .i64 Y] w fun e w' => e = .returned (.int .u64 (hil m x y)) ∧ w = w') :=
      Lib.hid (fun X Y x y w hX hY h1 h2 => by subst hX hY; exact ih x y w hm h1 h2)
    rw [hs] at hx hy ⊢;generalize hil (m + 1) x y = H at *;generalize 2 ^ m = P at *;generalize 4 ^ m = Q at *;have hpp : ((P : Int) * (P : Int)) = (Q : Int) := by rw [hq]; simp
    clear ih hs hq;by_cases h1 : x < P
    · by_cases h2 : y < P
      · have HA := Lib.hid (A h1 h2);clear A B C D;go_enter Tryz.func301, Tryz.ntmps301;go_wp2_with fail;refine (IH.out _ _ (y) (x) _ (by omega) (by omega) (by omega) (by omega)).mono ?_;rintro e w1 ⟨rfl, rfl⟩;have lt := LT.out (y) (x) (by omega) (by omega);go_wp2_with fail;go_ret;exact ⟨ret_int (by have := HA.out; omega), rfl⟩
      · have HA := Lib.hid (B h1 h2);clear A B C D;go_enter Tryz.func301, Tryz.ntmps301;go_wp2_with fail;refine (IH.out _ _ (x) (y - P) _ (by omega) (by omega) (by omega) (by omega)).mono ?_;rintro e w1 ⟨rfl, rfl⟩;have lt := LT.out (x) (y - P) (by omega) (by omega);go_wp2_with fail;go_ret;exact ⟨ret_int (by have := HA.out; omega), rfl⟩
    · by_cases h2 : y < P
      · have HA := Lib.hid (D h1 h2);clear A B C D;go_enter Tryz.func301, Tryz.ntmps301;go_wp2_with fail;refine (IH.out _ _ (P - 1 - y) (P - 1 - (x - P)) _ (by omega) (by omega) (by omega) (by omega)).mono ?_;rintro e w1 ⟨rfl, rfl⟩;have lt := LT.out (P - 1 - y) (P - 1 - (x - P)) (by omega) (by omega);go_wp2_with fail;go_ret;exact ⟨ret_int (by have := HA.out; omega), rfl⟩
      · have HA := Lib.hid (C h1 h2);clear A B C D;go_enter Tryz.func301, Tryz.ntmps301;go_wp2_with fail;refine (IH.out _ _ (x - P) (y - P) _ (by omega) (by omega) (by omega) (by omega)).mono ?_;rintro e w1 ⟨rfl, rfl⟩;have lt := LT.out (x - P) (y - P) (by omega) (by omega);go_wp2_with fail;go_ret;exact ⟨ret_int (by have := HA.out; omega), rfl⟩
set_option maxHeartbeats 1000000 in
theorem rplace_any (z x y : Int) (w : World) :
    Calls Tryz.prog 242 #[.int .i64 z, .int .i64 x, .int .i64 y] w fun e w' => e = .returned (.tuple #[.int .u64 (placeV z x y), .int .i64 (placeE z x y)]) ∧ w = w' := by
  by_cases hz : z < 0 ∨ 26 < z
  · have hs : sideV z = 0 := by unfold sideV; rw [if_neg (by omega)]
    have hE : placeE z x y = 2 := by unfold placeE; rw [if_pos hz]
    have hV : placeV z x y = 0 := by unfold placeV; rw [hE]; rfl
    have S := fun w => Lib.hid (rside_any z w);rw [hs] at S;rw [hE, hV];clear hs hE hV hz;go_enter Tryz.func242, Tryz.ntmps242;go_wp2_with (first | (go_at_call 163; refine (S _).out.mono ?_; rintro e w1 ⟨rfl, rfl⟩))
    go_ret2
    exact ⟨rfl, rfl⟩
  obtain ⟨zn, rfl⟩ : ∃ n : Nat, z = n := ⟨z.toNat, by omega⟩;have hz26 : zn ≤ 26 := by omega
  by_cases hr : x < 0 ∨ y < 0 ∨ ((2 ^ zn : Nat) : Int) ≤ x ∨ ((2 ^ zn : Nat) : Int) ≤ y
  · have hp := two_pow_le26 hz26;have hp0 : 1 ≤ 2 ^ zn := Nat.two_pow_pos zn;have hs : sideV zn = ((2 ^ zn : Nat) : Int) := by unfold sideV; rw [if_pos (by omega)]; simp
    have hE : placeE zn x y = 8 := by unfold placeE; rw [if_neg hz, Int.toNat_natCast, if_pos hr]
    have hV : placeV zn x y = 0 := by unfold placeV; rw [hE]; rfl
    have S := fun w => Lib.hid (rside_any zn w);rw [hs] at S;rw [hE, hV];clear hs hE hV hz;generalize 2 ^ zn = P at *;have hb : ((P : Int) == 0) = false := by rw [beq_eq_false_iff_ne]; omega
    by_cases h1 : x < 0
    · clear hr;go_enter Tryz.func242, Tryz.ntmps242;go_wp2_with (first | (go_at_call 163; refine (S _).out.mono ?_; rintro e w1 ⟨rfl, rfl⟩))
      go_ret2
      exact ⟨rfl, rfl⟩
    by_cases h2 : y < 0
    · clear hr;go_enter Tryz.func242, Tryz.ntmps242;go_wp2_with (first | (go_at_call 163; refine (S _).out.mono ?_; rintro e w1 ⟨rfl, rfl⟩))
      all_goals (go_ret2; exact ⟨rfl, rfl⟩)
    by_cases h3 : (P : Int) ≤ x
    · clear hr;go_enter Tryz.func242, Tryz.ntmps242;go_wp2_with (first | (go_at_call 163; refine (S _).out.mono ?_; rintro e w1 ⟨rfl, rfl⟩))
      go_ret2
      exact ⟨rfl, rfl⟩
    have h4 : (P : Int) ≤ y := by omega
    clear hr;go_enter Tryz.func242, Tryz.ntmps242;go_wp2_with (first | (go_at_call 163; refine (S _).out.mono ?_; rintro e w1 ⟨rfl, rfl⟩))
    go_ret2
    exact ⟨rfl, rfl⟩
  · obtain ⟨xn, rfl⟩ : ∃ n : Nat, x = n := ⟨x.toNat, by omega⟩;obtain ⟨yn, rfl⟩ : ∃ n : Nat, y = n := ⟨y.toNat, by omega⟩;have hE : placeE zn xn yn = 0 := by unfold placeE; rw [if_neg hz, Int.toNat_natCast, if_neg hr]
    have hV : placeV zn xn yn = hil zn xn yn := by unfold placeV; rw [if_pos hE]; simp
    rw [hE, hV];have hp := two_pow_le26 hz26;have hp0 : 1 ≤ 2 ^ zn := Nat.two_pow_pos zn;have hs : sideV zn = ((2 ^ zn : Nat) : Int) := by unfold sideV; rw [if_pos (by omega)]; simp
    have S := fun w => Lib.hid (rside_any zn w);rw [hs] at S;have A := fun w => Lib.hid (rplace_ok zn xn yn w hz26 (by omega) (by omega));clear hs hE hV hz;generalize hil zn xn yn = H at *;generalize 2 ^ zn = P at *;have hb : ((P : Int) == 0) = false := by rw [beq_eq_false_iff_ne]; omega
    have h1 : (xn : Int) < P := by omega
    have h2 : (yn : Int) < P := by omega
    clear hr;go_enter Tryz.func242, Tryz.ntmps242;go_wp2_with (first | (go_at_call 163; refine (S _).out.mono ?_; rintro e w1 ⟨rfl, rfl⟩) | (go_at_call 301; refine (A _).out.mono ?_; rintro e w1 ⟨rfl, rfl⟩))
    go_ret2
    exact ⟨rfl, rfl⟩
def BRel (z : Nat) (n a i : Value) : Prop := ∃ k : Nat, k ≤ z ∧ i = .int .i64 k ∧ n = .int .u64 ((4 ^ k : Nat) : Int) ∧ a = .int .u64 (baseN k)
set_option maxHeartbeats 1000000 in
theorem rbase_any (z : Nat) (hz : z ≤ 27) (w : World) :
    Calls Tryz.prog 161 #[.int .i64 z] w fun e w' => e = .returned (.tuple #[.int .u64 (baseN z), .int .i64 0]) ∧ w = w' := by
  obtain ⟨F, hF⟩ : ∃ F : Nat, F = baseN z := ⟨_, rfl⟩;rw [← hF];have HF := Lib.hid hF;clear hF;go_enter Tryz.func161, Tryz.ntmps161;go_wp2
  go_loop [4, 5, 6] (fun n a i => BRel z n a i) (fun _ _ i => z - (intOf i).toNat)
  case atStart => exact ⟨0, by omega, rfl, rfl, rfl⟩
  case round =>
    obtain ⟨k, hk, rfl, rfl, rfl⟩ := hrel;have hp := four_pow_le27 (z := k) (by omega);have hb := baseN_eq k;by_cases hlt : k < z
    · have hs := Lib.hid (show 4 ^ (k + 1) = 4 * 4 ^ k by rw [Nat.pow_succ]; omega);have hs2 := Lib.hid (show baseN (k + 1) = baseN k + 4 ^ k from rfl);generalize hP : 4 ^ k = P at *;generalize hQ : baseN k = Q at *;have HPP := Lib.hid hP;have HQQ := Lib.hid hQ;have hq : Q ≤ 18014398509481984 := by omega
      clear hP hQ hb;go_wp2
      go_round
      case rel => exact ⟨k + 1, by omega, by go_num, int_eq (by rw [hs.out]; omega), int_eq (by rw [hs2.out]; omega)⟩
      case measure => simp [intOf]; omega
    · obtain rfl : k = z := by omega
      generalize hP : 4 ^ k = P at *;generalize hQ : baseN k = Q at *;have HPP := Lib.hid hP;have HQQ := Lib.hid hQ;clear hP hQ hb;go_wp2
      go_ret2
      exact ⟨ret_two (int_eq (by rw [HF.out])) rfl, rfl⟩
set_option maxHeartbeats 400000 in
theorem rid_any (z x y : Int) (w : World) :
    Calls Tryz.prog 172 #[.agg #[.int .i64 z, .int .i64 x, .int .i64 y]] w fun e w' => e = .returned (.tuple #[.int .u64 (idV z x y), .int .i64 (placeE z x y)]) ∧ Up w w' := by
  have A := fun w => Lib.hid (rplace_any z x y w);by_cases h : placeE z x y = 0
  · have hz := place_good h;have hl := placeV_lt z x y;have hI := idV_eq h;rw [h] at A;rw [h];obtain ⟨zn, rfl⟩ : ∃ n : Nat, z = n := ⟨z.toNat, by omega⟩;simp only [Int.toNat_natCast] at hI;have B := fun w => Lib.hid (rbase_any zn (by omega) w);have hb := baseN_eq zn;have h4 := four_pow_le27 (z := zn) (by omega);have hbl : baseN zn < 18014398509481984 := by omega
    generalize baseN zn = bn at *;generalize placeV zn x y = pv at *;have HI := Lib.hid hI;clear hI hb h4 hz h;go_enter Tryz.func172, Tryz.ntmps172;go_wp2_with (first | (go_at_call 242; refine (A _).out.mono ?_; rintro e w1 ⟨rfl, rfl⟩) | (go_at_call 161; refine (B _).out.mono ?_; rintro e w2 ⟨rfl, rfl⟩))
    go_ret2
    exact ⟨ret_two (int_eq (by rw [HI.out]; omega)) rfl, (Up.refl w).alloc _⟩
  · rw [idV_bad h];rw [placeV_bad h] at A;have hb : (placeE z x y == 0) = false := by rw [beq_eq_false_iff_ne]; exact h
    have hb' : (placeE z x y != 0) = true := by rw [bne_iff_ne]; exact h
    generalize placeE z x y = pe at *;clear h;go_enter Tryz.func172, Tryz.ntmps172;go_wp2_with (first | (go_at_call 242; refine (A _).out.mono ?_; rintro e w1 ⟨rfl, rfl⟩))
    go_ret2
    exact ⟨rfl, (Up.refl w).alloc _⟩
end Go.Proofs.YtjhgaildbeokkaaGreatDoor
