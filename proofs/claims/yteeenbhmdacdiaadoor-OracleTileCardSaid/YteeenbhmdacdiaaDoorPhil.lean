/- Plain laws: Hilbert's curve. -/
import Derived.Test.YteeenbhmdacdiaaDoorPure
import Derived.Laws.BitsAllLaws
import Derived.Laws.BitsLemmas
import Derived.Laws.Bits64b
namespace Go.Gz

/-- the place of (x, y) on the way through a square that is 2^z wide -/
def hil : Nat → Nat → Nat → Nat
  | 0, _, _ => 0
  | z + 1, x, y =>
    if x < 2 ^ z then (if y < 2 ^ z then hil z y x else 4 ^ z + hil z x (y - 2 ^ z))
    else (if 2 ^ z ≤ y then 2 * 4 ^ z + hil z (x - 2 ^ z) (y - 2 ^ z) else 3 * 4 ^ z + hil z (2 ^ z - 1 - y) (2 ^ z - 1 - (x - 2 ^ z)))

theorem hil_a {m x y : Nat} (h1 : x < 2 ^ m) (h2 : y < 2 ^ m) : hil (m + 1) x y = hil m y x := by
  show (if x < 2 ^ m then _ else _) = _
  rw [if_pos h1, if_pos h2]
theorem hil_b {m x y : Nat} (h1 : x < 2 ^ m) (h2 : ¬ y < 2 ^ m) : hil (m + 1) x y = 4 ^ m + hil m x (y - 2 ^ m) := by
  show (if x < 2 ^ m then _ else _) = _
  rw [if_pos h1, if_neg h2]
theorem hil_c {m x y : Nat} (h1 : ¬ x < 2 ^ m) (h2 : ¬ y < 2 ^ m) : hil (m + 1) x y = 2 * 4 ^ m + hil m (x - 2 ^ m) (y - 2 ^ m) := by
  show (if x < 2 ^ m then _ else _) = _
  rw [if_neg h1, if_pos (by omega)]
theorem hil_d {m x y : Nat} (h1 : ¬ x < 2 ^ m) (h2 : y < 2 ^ m) : hil (m + 1) x y = 3 * 4 ^ m + hil m (2 ^ m - 1 - y) (2 ^ m - 1 - (x - 2 ^ m)) := by
  show (if x < 2 ^ m then _ else _) = _
  rw [if_neg h1, if_neg (by omega)]
theorem pow4 (z : Nat) : 4 ^ z = 2 ^ z * 2 ^ z := by rw [← Nat.mul_pow]
theorem hil_lt : ∀ (z x y : Nat), x < 2 ^ z → y < 2 ^ z → hil z x y < 4 ^ z := by
  intro z
  induction z with
  | zero => intro x y _ _; simp [hil]
  | succ z ih =>
    intro x y hx hy
    have hp : 0 < 2 ^ z := Nat.two_pow_pos z
    have h4 : 4 ^ (z + 1) = 4 * 4 ^ z := by rw [Nat.pow_succ]; omega
    have h2 : 2 ^ (z + 1) = 2 * 2 ^ z := by rw [Nat.pow_succ]; omega
    unfold hil
    split
    · split
      · have := ih y x (by omega) (by omega); omega
      · have := ih x (y - 2 ^ z) (by omega) (by omega); omega
    · split
      · have := ih (x - 2 ^ z) (y - 2 ^ z) (by omega) (by omega); omega
      · have := ih (2 ^ z - 1 - y) (2 ^ z - 1 - (x - 2 ^ z)) (by omega) (by omega); omega

def placeE (z x y : Int) : Int := if z < 0 ∨ 26 < z then 2 else if x < 0 ∨ y < 0 ∨ (2 ^ z.toNat : Nat) ≤ x ∨ (2 ^ z.toNat : Nat) ≤ y then 8 else 0
def placeV (z x y : Int) : Nat := if placeE z x y = 0 then hil z.toNat x.toNat y.toNat else 0
def sideV (z : Int) : Int := if 0 ≤ z ∧ z ≤ 26 then ((2 ^ z.toNat : Nat) : Int) else 0
/-- how many tiles the zooms ahead have -/
def baseN : Nat → Nat
  | 0 => 0
  | z + 1 => baseN z + 4 ^ z
theorem baseN_eq (z : Nat) : 3 * baseN z + 1 = 4 ^ z := by
  induction z with
  | zero => simp [baseN]
  | succ z ih => unfold baseN; rw [Nat.pow_succ]; omega
def idV (z x y : Int) : Nat := if placeE z x y = 0 then baseN z.toNat + hil z.toNat x.toNat y.toNat else 0

theorem two_pow_le26 {z : Nat} (h : z ≤ 26) : 2 ^ z ≤ 67108864 := by
  have := Nat.pow_le_pow_right (n := 2) (by omega) h
  simpa using this
theorem four_pow_le27 {z : Nat} (h : z ≤ 27) : 4 ^ z ≤ 18014398509481984 := by
  have := Nat.pow_le_pow_right (n := 4) (by omega) h
  simpa using this

/-! ### bits -/
theorem and_low (x m : Nat) (hx : x < 18446744073709551616) (hm : m ≤ 26) : bits BinOp.and IntKind.u64 (x : Int) (((2 ^ m : Nat) : Int) - 1) = ((x % 2 ^ m : Nat) : Int) := by
  have h1 : ((2 ^ m : Nat) : Int) - 1 = ((2 ^ m - 1 : Nat) : Int) := by
    have := Nat.two_pow_pos m; omega
  have h2 := two_pow_le26 hm
  rw [h1, bits_and_u64_nat x (2 ^ m - 1) (by omega) (by omega), Nat.and_two_pow_sub_one_eq_mod]
theorem bit_at (x m : Nat) (hx : x < 2 * 2 ^ m) (hm : m ≤ 26) : bits BinOp.and IntKind.u64 ((x : Int) / 2 ^ m) 1 = if 2 ^ m ≤ x then 1 else 0 := by
  have hp := two_pow_le26 hm
  have hp0 := Nat.two_pow_pos m
  have e : ((x : Int) / 2 ^ m) = ((x / 2 ^ m : Nat) : Int) := by simp
  rw [e, show (1 : Int) = ((1 : Nat) : Int) from rfl, bits_and_u64_nat _ 1 (Nat.lt_of_le_of_lt (Nat.div_le_self _ _) (by omega)) (by omega), Nat.and_one_is_mod]
  by_cases h : 2 ^ m ≤ x
  · rw [if_pos h, Nat.div_eq_of_lt_le (k := 1) (by omega) (by omega)]
  · rw [if_neg h, Nat.div_eq_of_lt (by omega)]; rfl
theorem or_two (d k : Nat) (hk : k < 4) (hd : 4 * d + 3 < 18446744073709551616) : bits BinOp.or IntKind.u64 ((4 * d : Nat) : Int) (k : Int) = ((4 * d + k : Nat) : Int) := by
  rw [bits_or_u64_nat (4 * d) k (by omega) (by omega)]
  have : 4 * d ||| k = 4 * d + k := by
    have := Nat.shiftLeft_add_eq_or_of_lt (i := 2) (b := k) (by omega) d
    rw [Nat.shiftLeft_eq] at this
    rw [show 4 * d = d * 2 ^ 2 by omega]
    exact this.symm
  rw [this]
theorem or_two' (d k : Nat) (hk : k < 4) (hd : 4 * d + 3 < 18446744073709551616) : bits BinOp.or IntKind.u64 ((d : Int) * 4) (k : Int) = ((4 * d + k : Nat) : Int) := by
  rw [← or_two d k hk hd]; congr 1; omega
/-- what is within a quarter, turned -/
def turnX (sw mi : Bool) (m x y : Nat) : Nat := if mi then 2 ^ m - 1 - (if sw then y % 2 ^ m else x % 2 ^ m) else (if sw then y % 2 ^ m else x % 2 ^ m)
def turnY (sw mi : Bool) (m x y : Nat) : Nat := if mi then 2 ^ m - 1 - (if sw then x % 2 ^ m else y % 2 ^ m) else (if sw then x % 2 ^ m else y % 2 ^ m)
theorem mod_low {x p : Nat} (h : x < p) : x % p = x := Nat.mod_eq_of_lt h
theorem mod_high {x p : Nat} (h : p ≤ x) (h2 : x < 2 * p) : x % p = x - p := by rw [Nat.mod_eq_sub_mod h, Nat.mod_eq_of_lt (by omega)]
theorem step00 {m x y : Nat} (hx : ¬ 2 ^ m ≤ x) (hy : ¬ 2 ^ m ≤ y) : hil (m + 1) x y = 0 * 4 ^ m + hil m (turnX true false m x y) (turnY true false m x y) := by
  simp only [hil, turnX, turnY, if_true, if_false, Bool.false_eq_true, mod_low (show x < 2 ^ m by omega), mod_low (show y < 2 ^ m by omega)]
  rw [if_pos (by omega), if_pos (by omega)]; omega
theorem step01 {m x y : Nat} (hx : ¬ 2 ^ m ≤ x) (hy : 2 ^ m ≤ y) (hy2 : y < 2 * 2 ^ m) : hil (m + 1) x y = 1 * 4 ^ m + hil m (turnX false false m x y) (turnY false false m x y) := by
  simp only [hil, turnX, turnY, if_false, Bool.false_eq_true, mod_low (show x < 2 ^ m by omega), mod_high hy hy2]
  rw [if_pos (by omega), if_neg (by omega)]; omega
theorem step11 {m x y : Nat} (hx : 2 ^ m ≤ x) (hx2 : x < 2 * 2 ^ m) (hy : 2 ^ m ≤ y) (hy2 : y < 2 * 2 ^ m) : hil (m + 1) x y = 2 * 4 ^ m + hil m (turnX false false m x y) (turnY false false m x y) := by
  simp only [hil, turnX, turnY, if_false, Bool.false_eq_true, mod_high hx hx2, mod_high hy hy2]
  rw [if_neg (by omega), if_pos (by omega)]
theorem step10 {m x y : Nat} (hx : 2 ^ m ≤ x) (hx2 : x < 2 * 2 ^ m) (hy : ¬ 2 ^ m ≤ y) : hil (m + 1) x y = 3 * 4 ^ m + hil m (turnX true true m x y) (turnY true true m x y) := by
  simp only [hil, turnX, turnY, if_true, mod_high hx hx2, mod_low (show y < 2 ^ m by omega)]
  rw [if_neg (by omega), if_neg (by omega)]
theorem turnX_lt (sw mi : Bool) (m x y : Nat) : turnX sw mi m x y < 2 ^ m := by
  have hp := Nat.two_pow_pos m
  have h1 := Nat.mod_lt x hp
  have h2 := Nat.mod_lt y hp
  unfold turnX
  cases sw <;> cases mi <;> simp <;> omega
theorem turnY_lt (sw mi : Bool) (m x y : Nat) : turnY sw mi m x y < 2 ^ m := by
  have hp := Nat.two_pow_pos m
  have h1 := Nat.mod_lt x hp
  have h2 := Nat.mod_lt y hp
  unfold turnY
  cases sw <;> cases mi <;> simp <;> omega
theorem acc_step {dd m k r H : Nat} (h : dd * 4 ^ (m + 1) + (k * 4 ^ m + r) = H) : (4 * dd + k) * 4 ^ m + r = H := by
  rw [← h, Nat.pow_succ, Nat.add_mul, Nat.mul_comm (4 ^ m) 4, ← Nat.mul_assoc, Nat.mul_comm dd 4]; omega
end Go.Gz
