/- Walk: curve.Place. -/
import Derived.Test.YteeenbhmdacdiaaDoorWcur
namespace Go.Proofs.YteeenbhmdacdiaaDoor
open Go.RowKit Go.Gz

def quartersA : Array Value := #[.int .u64 0, .int .u64 0, .bool true, .bool false, .int .u64 0, .int .u64 1, .bool false, .bool false, .int .u64 1, .int .u64 1, .bool false, .bool false, .int .u64 1, .int .u64 0, .bool true, .bool true]
/-- what the loop holds when gk digits are to come -/
def PRel (w : World) (z B H : Nat) (gk : Nat) (a b d i : Value) (wr : World) : Prop := ∃ x y dd k : Nat, k + gk = z ∧ i = .int .i64 k ∧ a = .int .u64 x ∧ b = .int .u64 y ∧ d = .int .u64 dd ∧ x < 2 ^ gk ∧ y < 2 ^ gk ∧
  dd * 4 ^ gk + hil gk x y = H ∧ Up w wr ∧ w.heap.size ≤ B ∧ wr.heap[B]? = some (.cells quartersA 150 (0, 0))
set_option maxHeartbeats 4000000 in
theorem place_ok (z x y : Nat) (hz : z ≤ 26) (hx : x < 2 ^ z) (hy : y < 2 ^ z) (w : World) :
    Calls Tryd.prog 65 #[.int .i64 z, .int .i64 x, .int .i64 y] w fun e w' => e = .returned (.tuple #[.int .u64 (hil z x y), .int .i64 0]) ∧ Up w w' := by
  have hp := two_pow_le26 hz
  have hp0 : 1 ≤ 2 ^ z := Nat.two_pow_pos z
  have hs : sideV z = ((2 ^ z : Nat) : Int) := by unfold sideV; rw [if_pos (by omega)]; simp
  have HL := Lib.hid (Nat.lt_of_lt_of_le (hil_lt z x y hx hy) (four_pow_le27 (z := z) (by omega)))
  generalize hH : hil z x y = H at *
  have HH := Lib.hid hH
  have HX := Lib.hid hx
  have HY := Lib.hid hy
  clear hH
  generalize hP : 2 ^ z = P at hp hp0 hs hx hy
  have HP := Lib.hid hP
  clear hP
  have hx' : (x : Int) < P := by omega
  have hy' : (y : Int) < P := by omega
  have hb : ((P : Int) == 0) = false := by rw [beq_eq_false_iff_ne]; omega
  have S := fun w => Lib.hid (side_any z w)
  rw [hs] at S
  clear hs
  go_enter Tryd.func65, Tryd.ntmps65
  go_wp2_with (first | (go_at_call 83; refine (S _).out.mono ?_; rintro e w1 ⟨rfl, rfl⟩) | (go_at_call 84; refine (quarters_any _).mono ?_; rintro e w1 ⟨rfl, hu1⟩; unfold quartersV))
  go_loopg [10, 11, 12, 44] z (fun gk a b d i wr => PRel w z w1.heap.size H gk a b d i wr)
  case atStart => exact ⟨x, y, 0, 0, by omega, rfl, rfl, rfl, rfl, HX.out, HY.out, by rw [HH.out]; omega, hu1.alloc _, hu1.le, heap_alloc_new _ _⟩
  case round =>
    obtain ⟨x, y, dd, k, hk, rfl, rfl, rfl, rfl, hx1, hy1, hh, hu, hle, hblk⟩ := hrel
    by_cases hg : gk = 0
    · subst hg
      obtain rfl : k = z := by omega
      have HHH := Lib.hid hh
      clear hh hblk
      go_wp2_with fail
      go_ret2
      have hh := HHH.out
      simp only [hil, Nat.pow_zero, Nat.mul_one, Nat.add_zero] at hh
      exact ⟨ret_two (int_eq (by omega)) rfl, hu⟩
    · obtain ⟨m, rfl⟩ : ∃ m, gk = m + 1 := ⟨gk - 1, by omega⟩
      have hm : m ≤ 26 := by omega
      have hd : (z : Int) - 1 - (k : Int) = (m : Int) := by omega
      have h2 : 2 ^ (m + 1) = 2 * 2 ^ m := by rw [Nat.pow_succ]; omega
      have bx := bit_at x m (by omega) hm
      have by' := bit_at y m (by omega) hm
      have XL := Lib.hid hx1
      have YL := Lib.hid hy1
      have HHH := Lib.hid hh
      have HB := Lib.hid hblk
      have ML := Lib.hid hm
      have hddle : dd ≤ 18014398509481984 := by
        have := HL.out
        have h4 : 1 ≤ 4 ^ (m + 1) := Nat.pos_of_ne_zero (by simp)
        have := Nat.mul_le_mul_left dd h4
        omega
      clear h2 hx1 hy1 hh hblk hm hg
      by_cases hX : 2 ^ m ≤ x
      · by_cases hY : 2 ^ m ≤ y
        · have hxb : bits BinOp.and IntKind.u64 ((x : Int) / 2 ^ m) 1 = 1 := by rw [bx, if_pos hX]
          have hyb : bits BinOp.and IntKind.u64 ((y : Int) / 2 ^ m) 1 = 1 := by rw [by', if_pos hY]
          obtain ⟨nd, hnd⟩ : ∃ nd : Nat, nd = 4 * dd + 2 := ⟨_, rfl⟩
          have hor : bits BinOp.or IntKind.u64 ((dd : Int) * 4) 2 = (nd : Int) := by rw [hnd]; exact or_two' dd 2 (by omega) (by omega)
          have A := fun w => Lib.hid (number_i 1 1 1 1 2 rfl rfl rfl (by omega) (by omega) w)
          have T := fun qx qy w => Lib.hid (turn_any qx qy false false x y m (by have := XL.out; have := two_pow_le26 ML.out; rw [Nat.pow_succ] at *; omega) (by have := YL.out; have := two_pow_le26 ML.out; rw [Nat.pow_succ] at *; omega) ML.out w)
          have HX := Lib.hid hX
          have HY := Lib.hid hY
          have ST := Lib.hid (step11 HX.out (by have := XL.out; rw [Nat.pow_succ] at this; omega) HY.out (by have := YL.out; rw [Nat.pow_succ] at this; omega))
          have LX := Lib.hid (turnX_lt false false m x y)
          have LY := Lib.hid (turnY_lt false false m x y)
          generalize turnX false false m x y = tx at T ST LX
          generalize turnY false false m x y = ty at T ST LY
          have ND := Lib.hid hnd
          clear hX hY bx by' hnd
          go_wp2_with fail
          go_region_held3 (fun w' => Up w w' ∧ w'.heap[w1.heap.size]? = some (.cells quartersA 150 (0, 0))) (first | exact ⟨hu.drew, HB.out⟩ | exact ⟨(hu.drew).trans hu3, hu3.obj HB.out⟩) (first | (go_at_call 85; refine (A _).out.mono ?_; rintro e w3 ⟨rfl, hu3⟩))
          have hu4 : Up w w3 := (hu.drew).trans hu3
          have hb4 := hu3.obj (k := w1.heap.size) HB.out
          have c0 : w3.cell? ⟨w1.heap.size, 8, none⟩ = some (.int .u64 1) := cell_of_row w3 w1.heap.size 8 quartersA _ _ hb4
          have c1 : w3.cell? ⟨w1.heap.size, 9, none⟩ = some (.int .u64 1) := cell_of_row w3 w1.heap.size 9 quartersA _ _ hb4
          have c2 : w3.cell? ⟨w1.heap.size, 10, none⟩ = some (.bool false) := cell_of_row w3 w1.heap.size 10 quartersA _ _ hb4
          have c3 : w3.cell? ⟨w1.heap.size, 11, none⟩ = some (.bool false) := cell_of_row w3 w1.heap.size 11 quartersA _ _ hb4
          have HB4 := Lib.hid hb4
          clear hb4
          go_wp2_with fail
          refine (T _ _ _).out.mono ?_
          rintro e w5 ⟨rfl, hu5⟩
          go_wp2_with fail
          go_roundg m
          case measure => omega
          case rel => exact ⟨tx, ty, nd, k + 1, by omega, by go_num, rfl, rfl, rfl, LX.out, LY.out, by rw [ND.out]; exact acc_step (by rw [← ST.out]; exact HHH.out), hu4.trans hu5, hle, hu5.obj HB4.out⟩
        · have hxb : bits BinOp.and IntKind.u64 ((x : Int) / 2 ^ m) 1 = 1 := by rw [bx, if_pos hX]
          have hyb : bits BinOp.and IntKind.u64 ((y : Int) / 2 ^ m) 1 = 0 := by rw [by', if_neg hY]
          obtain ⟨nd, hnd⟩ : ∃ nd : Nat, nd = 4 * dd + 3 := ⟨_, rfl⟩
          have hor : bits BinOp.or IntKind.u64 ((dd : Int) * 4) 3 = (nd : Int) := by rw [hnd]; exact or_two' dd 3 (by omega) (by omega)
          have A := fun w => Lib.hid (number_i 1 0 1 0 3 rfl rfl rfl (by omega) (by omega) w)
          have T := fun qx qy w => Lib.hid (turn_any qx qy true true x y m (by have := XL.out; have := two_pow_le26 ML.out; rw [Nat.pow_succ] at *; omega) (by have := YL.out; have := two_pow_le26 ML.out; rw [Nat.pow_succ] at *; omega) ML.out w)
          have HX := Lib.hid hX
          have HY := Lib.hid hY
          have ST := Lib.hid (step10 HX.out (by have := XL.out; rw [Nat.pow_succ] at this; omega) HY.out)
          have LX := Lib.hid (turnX_lt true true m x y)
          have LY := Lib.hid (turnY_lt true true m x y)
          generalize turnX true true m x y = tx at T ST LX
          generalize turnY true true m x y = ty at T ST LY
          have ND := Lib.hid hnd
          clear hX hY bx by' hnd
          go_wp2_with fail
          go_region_held3 (fun w' => Up w w' ∧ w'.heap[w1.heap.size]? = some (.cells quartersA 150 (0, 0))) (first | exact ⟨hu.drew, HB.out⟩ | exact ⟨(hu.drew).trans hu3, hu3.obj HB.out⟩) (first | (go_at_call 85; refine (A _).out.mono ?_; rintro e w3 ⟨rfl, hu3⟩))
          have hu4 : Up w w3 := (hu.drew).trans hu3
          have hb4 := hu3.obj (k := w1.heap.size) HB.out
          have c0 : w3.cell? ⟨w1.heap.size, 12, none⟩ = some (.int .u64 1) := cell_of_row w3 w1.heap.size 12 quartersA _ _ hb4
          have c1 : w3.cell? ⟨w1.heap.size, 13, none⟩ = some (.int .u64 0) := cell_of_row w3 w1.heap.size 13 quartersA _ _ hb4
          have c2 : w3.cell? ⟨w1.heap.size, 14, none⟩ = some (.bool true) := cell_of_row w3 w1.heap.size 14 quartersA _ _ hb4
          have c3 : w3.cell? ⟨w1.heap.size, 15, none⟩ = some (.bool true) := cell_of_row w3 w1.heap.size 15 quartersA _ _ hb4
          have HB4 := Lib.hid hb4
          clear hb4
          go_wp2_with fail
          refine (T _ _ _).out.mono ?_
          rintro e w5 ⟨rfl, hu5⟩
          go_wp2_with fail
          go_roundg m
          case measure => omega
          case rel => exact ⟨tx, ty, nd, k + 1, by omega, by go_num, rfl, rfl, rfl, LX.out, LY.out, by rw [ND.out]; exact acc_step (by rw [← ST.out]; exact HHH.out), hu4.trans hu5, hle, hu5.obj HB4.out⟩
      · by_cases hY : 2 ^ m ≤ y
        · have hxb : bits BinOp.and IntKind.u64 ((x : Int) / 2 ^ m) 1 = 0 := by rw [bx, if_neg hX]
          have hyb : bits BinOp.and IntKind.u64 ((y : Int) / 2 ^ m) 1 = 1 := by rw [by', if_pos hY]
          obtain ⟨nd, hnd⟩ : ∃ nd : Nat, nd = 4 * dd + 1 := ⟨_, rfl⟩
          have hor : bits BinOp.or IntKind.u64 ((dd : Int) * 4) 1 = (nd : Int) := by rw [hnd]; exact or_two' dd 1 (by omega) (by omega)
          have A := fun w => Lib.hid (number_i 0 1 0 1 1 rfl rfl rfl (by omega) (by omega) w)
          have T := fun qx qy w => Lib.hid (turn_any qx qy false false x y m (by have := XL.out; have := two_pow_le26 ML.out; rw [Nat.pow_succ] at *; omega) (by have := YL.out; have := two_pow_le26 ML.out; rw [Nat.pow_succ] at *; omega) ML.out w)
          have HX := Lib.hid hX
          have HY := Lib.hid hY
          have ST := Lib.hid (step01 HX.out HY.out (by have := YL.out; rw [Nat.pow_succ] at this; omega))
          have LX := Lib.hid (turnX_lt false false m x y)
          have LY := Lib.hid (turnY_lt false false m x y)
          generalize turnX false false m x y = tx at T ST LX
          generalize turnY false false m x y = ty at T ST LY
          have ND := Lib.hid hnd
          clear hX hY bx by' hnd
          go_wp2_with fail
          go_region_held3 (fun w' => Up w w' ∧ w'.heap[w1.heap.size]? = some (.cells quartersA 150 (0, 0))) (first | exact ⟨hu.drew, HB.out⟩ | exact ⟨(hu.drew).trans hu3, hu3.obj HB.out⟩) (first | (go_at_call 85; refine (A _).out.mono ?_; rintro e w3 ⟨rfl, hu3⟩))
          have hu4 : Up w w3 := (hu.drew).trans hu3
          have hb4 := hu3.obj (k := w1.heap.size) HB.out
          have c0 : w3.cell? ⟨w1.heap.size, 4, none⟩ = some (.int .u64 0) := cell_of_row w3 w1.heap.size 4 quartersA _ _ hb4
          have c1 : w3.cell? ⟨w1.heap.size, 5, none⟩ = some (.int .u64 1) := cell_of_row w3 w1.heap.size 5 quartersA _ _ hb4
          have c2 : w3.cell? ⟨w1.heap.size, 6, none⟩ = some (.bool false) := cell_of_row w3 w1.heap.size 6 quartersA _ _ hb4
          have c3 : w3.cell? ⟨w1.heap.size, 7, none⟩ = some (.bool false) := cell_of_row w3 w1.heap.size 7 quartersA _ _ hb4
          have HB4 := Lib.hid hb4
          clear hb4
          go_wp2_with fail
          refine (T _ _ _).out.mono ?_
          rintro e w5 ⟨rfl, hu5⟩
          go_wp2_with fail
          go_roundg m
          case measure => omega
          case rel => exact ⟨tx, ty, nd, k + 1, by omega, by go_num, rfl, rfl, rfl, LX.out, LY.out, by rw [ND.out]; exact acc_step (by rw [← ST.out]; exact HHH.out), hu4.trans hu5, hle, hu5.obj HB4.out⟩
        · have hxb : bits BinOp.and IntKind.u64 ((x : Int) / 2 ^ m) 1 = 0 := by rw [bx, if_neg hX]
          have hyb : bits BinOp.and IntKind.u64 ((y : Int) / 2 ^ m) 1 = 0 := by rw [by', if_neg hY]
          obtain ⟨nd, hnd⟩ : ∃ nd : Nat, nd = 4 * dd + 0 := ⟨_, rfl⟩
          have hor : bits BinOp.or IntKind.u64 ((dd : Int) * 4) 0 = (nd : Int) := by rw [hnd]; exact or_two' dd 0 (by omega) (by omega)
          have A := fun w => Lib.hid (number_i 0 0 0 0 0 rfl rfl rfl (by omega) (by omega) w)
          have T := fun qx qy w => Lib.hid (turn_any qx qy true false x y m (by have := XL.out; have := two_pow_le26 ML.out; rw [Nat.pow_succ] at *; omega) (by have := YL.out; have := two_pow_le26 ML.out; rw [Nat.pow_succ] at *; omega) ML.out w)
          have HX := Lib.hid hX
          have HY := Lib.hid hY
          have ST := Lib.hid (step00 HX.out HY.out)
          have LX := Lib.hid (turnX_lt true false m x y)
          have LY := Lib.hid (turnY_lt true false m x y)
          generalize turnX true false m x y = tx at T ST LX
          generalize turnY true false m x y = ty at T ST LY
          have ND := Lib.hid hnd
          clear hX hY bx by' hnd
          go_wp2_with fail
          go_region_held3 (fun w' => Up w w' ∧ w'.heap[w1.heap.size]? = some (.cells quartersA 150 (0, 0))) (first | exact ⟨hu.drew, HB.out⟩ | exact ⟨(hu.drew).trans hu3, hu3.obj HB.out⟩) (first | (go_at_call 85; refine (A _).out.mono ?_; rintro e w3 ⟨rfl, hu3⟩))
          have hu4 : Up w w3 := (hu.drew).trans hu3
          have hb4 := hu3.obj (k := w1.heap.size) HB.out
          have c0 : w3.cell? ⟨w1.heap.size, 0, none⟩ = some (.int .u64 0) := cell_of_row w3 w1.heap.size 0 quartersA _ _ hb4
          have c1 : w3.cell? ⟨w1.heap.size, 1, none⟩ = some (.int .u64 0) := cell_of_row w3 w1.heap.size 1 quartersA _ _ hb4
          have c2 : w3.cell? ⟨w1.heap.size, 2, none⟩ = some (.bool true) := cell_of_row w3 w1.heap.size 2 quartersA _ _ hb4
          have c3 : w3.cell? ⟨w1.heap.size, 3, none⟩ = some (.bool false) := cell_of_row w3 w1.heap.size 3 quartersA _ _ hb4
          have HB4 := Lib.hid hb4
          clear hb4
          go_wp2_with fail
          refine (T _ _ _).out.mono ?_
          rintro e w5 ⟨rfl, hu5⟩
          go_wp2_with fail
          go_roundg m
          case measure => omega
          case rel => exact ⟨tx, ty, nd, k + 1, by omega, by go_num, rfl, rfl, rfl, LX.out, LY.out, by rw [ND.out]; exact acc_step (by rw [← ST.out]; exact HHH.out), hu4.trans hu5, hle, hu5.obj HB4.out⟩
end Go.Proofs.YteeenbhmdacdiaaDoor
