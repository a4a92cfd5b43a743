/- Walks: the curve (curve.Side, quarters, number, turn, Place). -/
import Derived.Test.YteeenbhmdacdiaaDoorBase
import Derived.Test.YteeenbhmdacdiaaDoorPhil
namespace Go.Proofs.YteeenbhmdacdiaaDoor
open Go.RowKit Go.Gz

set_option maxHeartbeats 400000 in
theorem side_any (z : Int) (w : World) :
    Calls Tryd.prog 83 #[.int .i64 z] w fun e w' => e = .returned (.int .i64 (sideV z)) ∧ w = w' := by
  by_cases h0 : z < 0
  · have hs : sideV z = 0 := by unfold sideV; rw [if_neg (by omega)]
    rw [hs]
    clear hs
    go_enter Tryd.func83, Tryd.ntmps83
    go_wp2
    go_ret
    exact ⟨rfl, rfl⟩
  by_cases h1 : 26 < z
  · have hs : sideV z = 0 := by unfold sideV; rw [if_neg (by omega)]
    rw [hs]
    clear hs
    go_enter Tryd.func83, Tryd.ntmps83
    go_wp2
    go_ret
    exact ⟨rfl, rfl⟩
  · have hs : sideV z = ((2 ^ z.toNat : Nat) : Int) := by unfold sideV; rw [if_pos (by omega)]
    have hp := two_pow_le26 (z := z.toNat) (by omega)
    have hw : wrap64 (2 ^ z.toNat) = ((2 ^ z.toNat : Nat) : Int) := by
      have e : ((2 : Int) ^ z.toNat) = ((2 ^ z.toNat : Nat) : Int) := by simp
      rw [e]; generalize 2 ^ z.toNat = p at hp; unfold wrap64; omega
    rw [hs]
    have HW := Lib.hid hw
    clear hs hp hw
    go_enter Tryd.func83, Tryd.ntmps83
    go_wp2
    go_ret
    exact ⟨ret_int HW.out, rfl⟩

def quartersV : Value := .agg #[.int .u64 0, .int .u64 0, .bool true, .bool false, .int .u64 0, .int .u64 1, .bool false, .bool false, .int .u64 1, .int .u64 1, .bool false, .bool false, .int .u64 1, .int .u64 0, .bool true, .bool true]
set_option maxHeartbeats 400000 in
theorem quarters_any (w : World) :
    Calls Tryd.prog 84 #[] w fun e w' => e = .returned quartersV ∧ Up w w' := by
  go_enter Tryd.func84, Tryd.ntmps84
  go_wp2
  exact bodyPost_ret (v := quartersV) (by simp [results, Tryd.results84, go_sem, quartersV]) rfl ⟨rfl, (Up.refl w).alloc _⟩

/-- the quarter of two binary digits -/
def quadN (x y : Nat) : Nat := if x = 0 then (if y = 0 then 0 else 1) else (if y = 0 then 3 else 2)
set_option maxHeartbeats 400000 in
theorem number_any (x y : Nat) (hx : x < 2) (hy : y < 2) (w : World) :
    Calls Tryd.prog 85 #[.int .u64 x, .int .u64 y] w fun e w' => e = .returned (.int .u64 (quadN x y)) ∧ Up w w' := by
  obtain rfl | rfl : x = 0 ∨ x = 1 := by omega
  all_goals
    obtain rfl | rfl : y = 0 ∨ y = 1 := by omega
    all_goals
      go_enter Tryd.func85, Tryd.ntmps85
      go_wp2
      go_ret
      exact ⟨rfl, (Up.refl w).alloc _⟩

theorem number_i (x y : Nat) (X Y K : Int) (hX : X = x) (hY : Y = y) (hK : (quadN x y : Int) = K) (hx : x < 2) (hy : y < 2) (w : World) :
    Calls Tryd.prog 85 #[.int .u64 X, .int .u64 Y] w fun e w' => e = .returned (.int .u64 K) ∧ Up w w' := by
  subst hX hY hK; exact number_any x y hx hy w
set_option maxHeartbeats 1000000 in
theorem turn_any (qx qy : Int) (sw mi : Bool) (x y m : Nat) (hx : x < 18446744073709551616) (hy : y < 18446744073709551616) (hm : m ≤ 26) (w : World) :
    Calls Tryd.prog 86 #[.agg #[.int .u64 qx, .int .u64 qy, .bool sw, .bool mi], .int .u64 x, .int .u64 y, .int .i64 m] w
      fun e w' => e = .returned (.tuple #[.int .u64 (turnX sw mi m x y), .int .u64 (turnY sw mi m x y)]) ∧ Up w w' := by
  have hp := two_pow_le26 hm
  have hp0 : 1 ≤ 2 ^ m := Nat.two_pow_pos m
  have ex := and_low x m hx hm
  have ey := and_low y m hy hm
  have lx := Nat.mod_lt x hp0
  have ly := Nat.mod_lt y hp0
  have ep : IntKind.u64.wrap (2 ^ m) = ((2 ^ m : Nat) : Int) := by
    have e : ((2 : Int) ^ m) = ((2 ^ m : Nat) : Int) := by simp
    rw [e, IntKind.wrap_u64]; omega
  generalize hP : 2 ^ m = P at *
  generalize hxr : x % P = xr at *
  generalize hyr : y % P = yr at *
  have HP := Lib.hid hP
  have HX := Lib.hid hxr
  have HY := Lib.hid hyr
  clear hP hxr hyr
  cases sw
  all_goals
    cases mi
    all_goals
      go_enter Tryd.func86, Tryd.ntmps86
      go_wp2
      go_ret2
      refine ⟨ret_two (int_eq ?_) (int_eq ?_), (Up.refl w).alloc _⟩ <;> (simp only [turnX, turnY, HP.out, HX.out, HY.out, if_true, if_false, Bool.false_eq_true]; try omega)
theorem turn_i (qx qy : Int) (sw mi : Bool) (x y m : Nat) (tx ty : Nat) (h1 : turnX sw mi m x y = tx) (h2 : turnY sw mi m x y = ty) (hx : x < 18446744073709551616) (hy : y < 18446744073709551616) (hm : m ≤ 26) (w : World) :
    Calls Tryd.prog 86 #[.agg #[.int .u64 qx, .int .u64 qy, .bool sw, .bool mi], .int .u64 x, .int .u64 y, .int .i64 m] w
      fun e w' => e = .returned (.tuple #[.int .u64 tx, .int .u64 ty]) ∧ Up w w' := by
  subst h1 h2; exact turn_any qx qy sw mi x y m hx hy hm w
end Go.Proofs.YteeenbhmdacdiaaDoor
