/- Walks: the reference's point, zoom, tile of an identifier. -/
import Derived.Test.YtjhgaildbeokkaaGreatDoorGT12
import Derived.Test.YtjhgaildbeokkaaGreatDoorGT09
namespace Go.Proofs.YtjhgaildbeokkaaGreatDoor
open Go.RowKit Go.Gz Go.Shelf

set_option maxRecDepth 100000
theorem ret2_int {a b c d : Int} (h1 : a = c) (h2 : b = d) : (Ending.returned (.tuple #[.int .i64 a, .int .i64 b])) = .returned (.tuple #[.int .i64 c, .int .i64 d]) := by rw [h1, h2]
theorem unhil_s0 {m d : Nat} (h : d / 4 ^ m = 0) : unhil (m + 1) d = ((unhil m (d % 4 ^ m)).2, (unhil m (d % 4 ^ m)).1) := by rw [unhil, if_pos h]
theorem unhil_s1 {m d : Nat} (h : d / 4 ^ m = 1) : unhil (m + 1) d = ((unhil m (d % 4 ^ m)).1, 2 ^ m + (unhil m (d % 4 ^ m)).2) := by rw [unhil, if_neg (by omega), if_pos h]
theorem unhil_s2 {m d : Nat} (h : d / 4 ^ m = 2) : unhil (m + 1) d = (2 ^ m + (unhil m (d % 4 ^ m)).1, 2 ^ m + (unhil m (d % 4 ^ m)).2) := by rw [unhil, if_neg (by omega), if_neg (by omega), if_pos h]
theorem unhil_s3 {m d : Nat} (h : 3 ≤ d / 4 ^ m) : unhil (m + 1) d = (2 ^ m + (2 ^ m - 1 - (unhil m (d % 4 ^ m)).2), 2 ^ m - 1 - (unhil m (d % 4 ^ m)).1) := by rw [unhil, if_neg (by omega), if_neg (by omega), if_neg (by omega)]
set_option maxHeartbeats 4000000 in
theorem rpoint_ok (z : Nat) : ∀ (d : Nat) (w : World), z ≤ 26 → d < 4 ^ z →
    Calls Tryz.prog 233 #[.int .i64 ((2 ^ z : Nat) : Int), .int .u64 (d : Int)] w fun e w' => e = .returned (.tuple #[.int .i64 ((unhil z d).1 : Int), .int .i64 ((unhil z d).2 : Int)]) ∧ w = w' := by
  induction z with
  | zero =>
    intro d w _ _;go_enter Tryz.func233, Tryz.ntmps233;go_wp2_with fail;go_ret2
    exact ⟨rfl, rfl⟩
  | succ m ih =>
    intro d w hz hd;have hs : 2 ^ (m + 1) = 2 * 2 ^ m := by rw [Nat.pow_succ]; omega
    have hp := two_pow_le26 (z := m) (by omega);have hp0 : 1 ≤ 2 ^ m := Nat.two_pow_pos m;have h4 := four_pow_le27 (z := m) (by omega);have hq := pow4 m;have hu := unhil_lt m (d % 4 ^ m);have IH := fun w => Lib.hid (ih (d % 4 ^ m) w (by omega) (Nat.mod_lt _ (Nat.pow_pos (by omega))));have hd4 : d < 18446744073709551616 := by
      have := four_pow_le27 (z := m + 1) (by omega);omega
    have ht : d / 4 ^ m < 4 := Nat.div_lt_of_lt_mul (by rw [← Nat.pow_succ]; exact hd);have A := unhil_s0 (m := m) (d := d);have B := unhil_s1 (m := m) (d := d);have C := unhil_s2 (m := m) (d := d);have D := unhil_s3 (m := m) (d := d);have e1 : (d : Int) % ((4 ^ m : Nat) : Int) = ((d % 4 ^ m : Nat) : Int) := by simp
    have e2 : (d : Int) / ((4 ^ m : Nat) : Int) = ((d / 4 ^ m : Nat) : Int) := by simp
    rw [hs];generalize unhil (m + 1) d = H at *;generalize unhil m (d % 4 ^ m) = U at *;generalize d % 4 ^ m = r at *;generalize d / 4 ^ m = t at *;generalize 2 ^ m = P at *;generalize 4 ^ m = Q at *;have hpp : ((P : Int) * (P : Int)) = (Q : Int) := by rw [hq]; simp
    obtain ⟨u, v⟩ := U;simp only at hu IH A B C D;clear ih hs hq hd;have hw : IntKind.u64.wrap ((P : Int) * (P : Int)) = (Q : Int) := by rw [hpp]; exact IntWalk.u64_in _ (by omega)
    have hQ1 : ¬ (Q : Int) = 0 := by rw [← hpp]; have := Int.mul_pos (a := (P : Int)) (b := (P : Int)) (by omega) (by omega); omega
    by_cases h0 : t = 0
    · have e3 : (d : Int) / (Q : Int) = 0 := by rw [e2, h0]; rfl
      clear e2;obtain rfl := A h0;clear A B C D;go_enter Tryz.func233, Tryz.ntmps233;go_wp2_with fail;refine (IH _).out.mono ?_;rintro e w1 ⟨rfl, rfl⟩;go_wp2_with fail;go_ret2
      exact ⟨ret2_int (by omega) (by omega), rfl⟩
    by_cases h1 : t = 1
    · have e3 : (d : Int) / (Q : Int) = 1 := by rw [e2, h1]; rfl
      clear e2;obtain rfl := B h1;clear A B C D;go_enter Tryz.func233, Tryz.ntmps233;go_wp2_with fail;refine (IH _).out.mono ?_;rintro e w1 ⟨rfl, rfl⟩;go_wp2_with fail;go_ret2
      exact ⟨ret2_int (by omega) (by omega), rfl⟩
    by_cases h2 : t = 2
    focus
      have e3 : (d : Int) / (Q : Int) = 2 := by rw [e2, h2]; rfl
      clear e2;obtain rfl := C h2
    rotate_left;focus
      have e3 : (d : Int) / (Q : Int) = 3 := by rw [e2, show t = 3 by omega]; rfl
      clear e2;obtain rfl := D (by omega)
    rotate_left;all_goals
      clear A B C D;go_enter Tryz.func233, Tryz.ntmps233;go_wp2_with fail;refine (IH _).out.mono ?_;rintro e w1 ⟨rfl, rfl⟩;go_wp2_with fail;go_ret2
      exact ⟨ret2_int (by omega) (by omega), rfl⟩
set_option maxHeartbeats 4000000 in
theorem rPoint_any (z d : Nat) (hz : z ≤ 26) (hd : d < 4 ^ z) (w : World) :
    Calls Tryz.prog 162 #[.int .i64 (z : Int), .int .u64 (d : Int)] w fun e w' => e = .returned (.tuple #[.int .i64 ((unhil z d).1 : Int), .int .i64 ((unhil z d).2 : Int), .int .i64 0]) ∧ w = w' := by
  have hs : sideV z = ((2 ^ z : Nat) : Int) := by unfold sideV; rw [if_pos (by omega)]; simp
  have S := fun w => Lib.hid (rside_any z w);rw [hs] at S;have PT := fun w => Lib.hid (rpoint_ok z d w hz hd);have hp := two_pow_le26 hz;have hp0 : 1 ≤ 2 ^ z := Nat.two_pow_pos z;have h4 := four_pow_le27 (z := z) (by omega);have hq := pow4 z;generalize unhil z d = U at *;generalize 2 ^ z = P at *;generalize 4 ^ z = Q at *;have hpp : ((P : Int) * (P : Int)) = (Q : Int) := by rw [hq]; simp
  have hw : IntKind.u64.wrap ((P : Int) * (P : Int)) = (Q : Int) := by rw [hpp]; exact IntWalk.u64_in _ (by omega)
  have hb : ((P : Int) == 0) = false := by rw [beq_eq_false_iff_ne]; omega
  clear hs hq;go_enter Tryz.func162, Tryz.ntmps162;go_wp2_with (first | (go_at_call 163; refine (S _).out.mono ?_; rintro e w1 ⟨rfl, rfl⟩) | (go_at_call 233; refine (PT _).out.mono ?_; rintro e w1 ⟨rfl, rfl⟩))
  change bodyPost _ _ _ _ _ _;refine bodyPost_ret (v := .tuple #[.int .i64 (U.1 : Int), .int .i64 (U.2 : Int), .int .i64 0]) (by simp [results, Tryz.results162, go_sem]) rfl ⟨rfl, rfl⟩
set_option maxHeartbeats 4000000 in
theorem rzoom_any (id : Nat) (h : id < 6004799503160661) (w : World) :
    Calls Tryz.prog 92 #[.int .u64 (id : Int)] w fun e w' => e = .returned (.int .i64 (zoomN id : Int)) ∧ w = w' := by
  have B := fun z hz w => Lib.hid (rbase_any z hz w);have hzb := zoomN_base h;have hz := zoomN_le h;generalize zoomN id = n at *;have hmono : ∀ z, n < z → z ≤ 27 → id < baseN z := fun z h1 _ => by have := baseN_mono (show n + 1 ≤ z by omega); have e : baseN (n + 1) = baseN n + 4 ^ n := rfl; omega
  have he : baseN n + 4 ^ n = baseN (n + 1) := rfl;rw [he] at hzb;have hbd : ∀ z, z ≤ 27 → baseN z < 18446744073709551616 := fun z hz => by have := baseN_mono hz; have := baseN_eq 27; omega
  clear he;go_enter Tryz.func92, Tryz.ntmps92;go_wp2_with fail;go_loopg [3] 27 (fun gk i wr => ∃ k : Nat, k + 1 = gk ∧ n ≤ k ∧ k ≤ 26 ∧ i = .int .i64 (k : Int) ∧ w = wr)
  case atStart => exact ⟨26, rfl, hz, Nat.le_refl _, rfl, rfl⟩
  case round =>
    obtain ⟨k, rfl, hk, hk26, rfl, rfl⟩ := hrel;have B1 := B k (by omega);have B2 := B (k + 1) (by omega);have hm := hmono k;have b1 := hbd k (by omega);have b2 := hbd (k + 1) (by omega);clear B hmono hbd;by_cases hkn : n = k
    · subst hkn;have kI : (0 : Int) ≤ (n : Int) := by omega
      have xI : (baseN n : Int) ≤ (id : Int) := by omega
      have yI : (id : Int) < (baseN (n + 1) : Int) := by omega
      clear hm;generalize baseN n = x at *;generalize baseN (n + 1) = y at *;go_wp2_with fail;refine (B1 _).out.mono ?_;rintro e w1 ⟨rfl, rfl⟩;go_wp2_with fail;refine (B2 _).out.mono ?_;rintro e w1 ⟨rfl, rfl⟩;go_wp2_with fail;go_ret;exact ⟨rfl, rfl⟩
    · have hlt := hm (by omega) (by omega);have kI : (0 : Int) ≤ (k : Int) := by omega
      have xI : ¬ ((baseN k : Int) ≤ (id : Int)) := by omega
      clear hm hzb;generalize baseN k = x at *;generalize baseN (k + 1) = y at *;go_wp2_with fail;refine (B1 _).out.mono ?_;rintro e w1 ⟨rfl, rfl⟩;go_wp2_with fail;refine (B2 _).out.mono ?_;rintro e w1 ⟨rfl, rfl⟩;go_wp2_with fail;go_roundg k
      case measure => omega
      case rel => exact ⟨k - 1, by omega, by omega, by omega, by go_num, rfl⟩
end Go.Proofs.YtjhgaildbeokkaaGreatDoor
