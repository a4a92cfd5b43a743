/- Walks: curve.Point, tileid.Of. -/
import Derived.Test.YtkfococpanailaaGreatDoorGX02
import Derived.Test.YtkfococpanailaaGreatDoorGX17
import Derived.Test.YtkfococpanailaaGreatDoorGX11
namespace Go.Proofs.YtkfococpanailaaGreatDoor
open Go.RowKit Go.Gz Go.Shelf

set_option maxRecDepth 100000
theorem quad_bits (d k : Nat) (hd : d < 18446744073709551616) : bits BinOp.and IntKind.u64 ((d : Int) / 2 ^ (2 * k)) 3 = ((d / 4 ^ k % 4 : Nat) : Int) := by
  have e : (d : Int) / 2 ^ (2 * k) = ((d / 4 ^ k : Nat) : Int) := by
    have : (2 : Int) ^ (2 * k) = ((4 ^ k : Nat) : Int) := by rw [Int.pow_mul]; simp
    rw [this]; exact (Int.natCast_ediv d (4 ^ k)).symm
  rw [e, show (3 : Int) = ((3 : Nat) : Int) from rfl, bits_and_u64_nat _ 3 (Nat.lt_of_le_of_lt (Nat.div_le_self _ _) hd) (by omega)]
  rw [show (3 : Nat) = 2 ^ 2 - 1 from rfl, Nat.and_two_pow_sub_one_eq_mod]
theorem unhil_step (k d : Nat) : unhil (k + 1) (d % 4 ^ (k + 1)) = if d / 4 ^ k % 4 = 0 then ((unhil k (d % 4 ^ k)).2, (unhil k (d % 4 ^ k)).1) else if d / 4 ^ k % 4 = 1 then ((unhil k (d % 4 ^ k)).1, 2 ^ k + (unhil k (d % 4 ^ k)).2)
    else if d / 4 ^ k % 4 = 2 then (2 ^ k + (unhil k (d % 4 ^ k)).1, 2 ^ k + (unhil k (d % 4 ^ k)).2) else (2 ^ k + (2 ^ k - 1 - (unhil k (d % 4 ^ k)).2), 2 ^ k - 1 - (unhil k (d % 4 ^ k)).1) := by
  have e1 : d % 4 ^ (k + 1) / 4 ^ k = d / 4 ^ k % 4 := by rw [Nat.pow_succ, Nat.mod_mul_right_div_self]
  have e2 : d % 4 ^ (k + 1) % 4 ^ k = d % 4 ^ k := by rw [Nat.pow_succ, Nat.mod_mul_right_mod]
  rw [unhil, e1, e2]
theorem or_none (t : Nat) (h : t < 67108864) : bits BinOp.or IntKind.u64 (t : Int) (IntKind.u64.wrap 0) = (t : Int) := by
  rw [IntWalk.u64_in 0 (by omega), show (0 : Int) = ((0 : Nat) : Int) from rfl, bits_or_u64_nat t 0 (by omega) (by omega), Nat.or_zero]
theorem or_high (t k : Nat) (hk : k ≤ 26) (h : t < 2 ^ k) : bits BinOp.or IntKind.u64 (t : Int) (IntKind.u64.wrap (2 ^ k)) = ((2 ^ k + t : Nat) : Int) := by
  have hp := two_pow_le26 hk
  have e : (2 : Int) ^ k = ((2 ^ k : Nat) : Int) := by simp
  rw [e, IntWalk.u64_in _ (by omega), bits_or_u64_nat t (2 ^ k) (by omega) (by omega)]
  have := Nat.shiftLeft_add_eq_or_of_lt (i := k) (b := t) h 1
  rw [Nat.shiftLeft_eq, Nat.one_mul] at this
  rw [Nat.or_comm, ← this]
def PtR (w : World) (z d B gk : Nat) (a b i : Value) (wr : World) : Prop := ∃ k : Nat, k + gk = z ∧ i = .int .i64 (k : Int) ∧ a = .int .u64 ((unhil k (d % 4 ^ k)).1 : Int) ∧ b = .int .u64 ((unhil k (d % 4 ^ k)).2 : Int) ∧ Up w wr ∧ w.heap.size ≤ B ∧ wr.heap[B]? = some (.cells quartersA 319 (0, 0))
set_option maxHeartbeats 8000000 in
theorem point_ok (z d : Nat) (hz : z ≤ 26) (hd : d < 4 ^ z) (w : World) :
    Calls Tryz.prog 174 #[.int .i64 (z : Int), .int .u64 (d : Int)] w fun e w' => e = .returned (.tuple #[.int .i64 ((unhil z d).1 : Int), .int .i64 ((unhil z d).2 : Int), .int .i64 0]) ∧ Up w w' := by
  have hp := two_pow_le26 hz
  have hs : sideV z = ((2 ^ z : Nat) : Int) := by unfold sideV; rw [if_pos (by omega)]; simp
  have S := fun w => Lib.hid (side_any z w)
  rw [hs] at S
  have h4 := four_pow_le27 (z := z) (by omega)
  have HD := Lib.hid hd
  have hP : ((2 ^ z : Nat) : Int) ≠ 0 := by have := Nat.two_pow_pos z; omega
  generalize hPP : 2 ^ z = P at *
  have hb : ((P : Int) == 0) = false := by rw [beq_eq_false_iff_ne]; exact hP
  have e1 : IntKind.i64.wrap (2 * (z : Int)) = 2 * (z : Int) := IntWalk.i64_in _ (by omega)
  clear hs hP hPP
  have e2 : (d : Int) / 2 ^ (2 * z) = 0 := by
    have : (2 : Int) ^ (2 * z) = ((4 ^ z : Nat) : Int) := by rw [Int.pow_mul]; simp
    rw [this]
    exact Int.ediv_eq_zero_of_lt (by omega) (by omega)
  go_enter Tryz.func174, Tryz.ntmps174
  go_wp2_with (first | (go_at_call 176; refine (S _).out.mono ?_; rintro e w1 ⟨rfl, rfl⟩) | (go_at_call 217; refine (quarters_any _).mono ?_; rintro e w1 ⟨rfl, hu1⟩; unfold quartersV))
  go_loopg [9, 10, 26] z (fun gk a b i wr => PtR w z d w1.heap.size gk a b i wr)
  case atStart => exact ⟨0, by omega, rfl, rfl, rfl, hu1.alloc _, hu1.le, heap_alloc_new _ _⟩
  case round =>
    obtain ⟨k, hk, rfl, rfl, rfl, hu, hle, hblk⟩ := hrel
    by_cases hg : gk = 0
    · subst hg
      obtain rfl : k = z := by omega
      have hmod : d % 4 ^ k = d := Nat.mod_eq_of_lt HD.out
      rw [hmod]
      have hl := unhil_lt k d
      have hpk := two_pow_le26 hz
      have f1 : IntKind.i64.wrap ((unhil k d).1 : Int) = ((unhil k d).1 : Int) := IntWalk.i64_in _ (by omega)
      have f2 : IntKind.i64.wrap ((unhil k d).2 : Int) = ((unhil k d).2 : Int) := IntWalk.i64_in _ (by omega)
      clear hmod hblk
      go_wp2_with fail
      go_ret3
      exact ⟨rfl, hu⟩
    · obtain ⟨m, rfl⟩ : ∃ m, gk = m + 1 := ⟨gk - 1, by omega⟩
      have hkz : (k : Int) < (z : Int) := by omega
      have f1 : IntKind.i64.wrap (2 * (k : Int)) = 2 * (k : Int) := IntWalk.i64_in _ (by omega)
      have hl := unhil_lt k (d % 4 ^ k)
      have hst := unhil_step k d
      have hqb := quad_bits d k (by omega)
      have hpk := two_pow_le26 (z := k) (by omega)
      have hq4 : d / 4 ^ k % 4 < 4 := Nat.mod_lt _ (by omega)
      generalize unhil k (d % 4 ^ k) = p at *
      obtain ⟨pa, pb⟩ := p
      simp only at hl hst
      have T := fun qx qy sw mi w => Lib.hid (turn_any qx qy sw mi pa pb k (by omega) (by omega) (by omega) w)
      have HST := Lib.hid hst
      have HB := Lib.hid hblk
      clear hst
      generalize hq : d / 4 ^ k % 4 = q at *
      obtain rfl | rfl | rfl | rfl : q = 0 ∨ q = 1 ∨ q = 2 ∨ q = 3 := by omega
      case' inl =>
        have c0 : wr.cell? ⟨w1.heap.size, 0, none⟩ = some (.int .u64 0) := cell_of_row wr w1.heap.size 0 quartersA _ _ hblk
        have c1 : wr.cell? ⟨w1.heap.size, 1, none⟩ = some (.int .u64 0) := cell_of_row wr w1.heap.size 1 quartersA _ _ hblk
        have c2 : wr.cell? ⟨w1.heap.size, 2, none⟩ = some (.bool true) := cell_of_row wr w1.heap.size 2 quartersA _ _ hblk
        have c3 : wr.cell? ⟨w1.heap.size, 3, none⟩ = some (.bool false) := cell_of_row wr w1.heap.size 3 quartersA _ _ hblk
        have hqb1 : bits BinOp.and IntKind.u64 ((d : Int) / 2 ^ (2 * k)) 3 = 0 := hqb
        clear hqb hblk
        go_wp2_with fail
        refine (T _ _ _ _ _).out.mono ?_
        rintro e w5 ⟨rfl, hu5⟩
        go_wp2_with fail
        have hn := heap_alloc_new wr (.cells #[.int .u64 0, .int .u64 0, .bool true, .bool false] 318)
        have n0 := hu5.cell (blkc hn 0 _ rfl)
        have n1 := hu5.cell (blkc hn 1 _ rfl)
        clear c0 c1 c2 c3 hn
        refine wp_region_held_drew (S := fun w' => w'.cell? ⟨wr.heap.size, 0, none⟩ = some (.int .u64 0) ∧ w'.cell? ⟨wr.heap.size, 1, none⟩ = some (.int .u64 0)) (by kernel_rfl) ⟨n0, n1⟩ (fun hHeld => ?_)
        refine tk 0 rfl ?_
        (try simp only [Act.put, tz1, tz2, tz3])
        refine tk 1 rfl ?_
        (try simp only [Act.put, tz1, tz2, tz3])
        refine tk 2 rfl ?_
        (try simp only [Act.put, tz1, tz2, tz3])
        refine tk 3 rfl ?_
        (try simp only [Act.put, tz1, tz2, tz3])
        refine tk 4 rfl ?_
        (try simp only [Act.put, tz1, tz2, tz3])
        refine tk 5 rfl ?_
        (try simp only [Act.put, tz1, tz2, tz3])
        refine tk 6 rfl ?_
        (try simp only [Act.put, tz1, tz2, tz3])
        refine tk 7 rfl ?_
        (try simp only [Act.put, tz1, tz2, tz3])
        refine tk 8 rfl ?_
        (try simp only [Act.put, tz1, tz2, tz3])
        refine tk 9 rfl ?_
        (try simp only [Act.put, tz1, tz2, tz3])
        refine tk 10 rfl ?_
        (try simp only [Act.put, tz1, tz2, tz3])
        refine tk 11 rfl ?_
        (try simp only [Act.put, tz1, tz2, tz3])
        refine tk 12 rfl ?_
        (try simp only [Act.put, tz1, tz2, tz3])
        refine tk 13 rfl ?_
        (try simp only [Act.put, tz1, tz2, tz3])
        refine wpAnyH_done (by kernel_rfl) ?_ _
        clear hHeld n0 n1
        go_wp2_with fail
        go_roundg m
        case measure => omega
        case rel =>
          have t1 : turnX true false k pa pb = pb := by simp [turnX, Nat.mod_eq_of_lt hl.2]
          have t2 : turnY true false k pa pb = pa := by simp [turnY, Nat.mod_eq_of_lt hl.1]
          have st : unhil (k + 1) (d % 4 ^ (k + 1)) = (pb, pa) := by rw [HST.out]; simp
          refine ⟨k + 1, by omega, by go_num, ?_, ?_, hu.trans (((Up.refl wr).alloc _).trans (hu5.trans (Up.refl w5).drew)), hle, (((Up.refl wr).alloc _).trans (hu5.trans (Up.refl w5).drew)).obj HB.out⟩
          · rw [st, t1]; exact int_eq (or_none _ (by omega))
          · rw [st, t2]; exact int_eq (or_none _ (by omega))
      case' inr.inl =>
        have c0 : wr.cell? ⟨w1.heap.size, 4, none⟩ = some (.int .u64 0) := cell_of_row wr w1.heap.size 4 quartersA _ _ hblk
        have c1 : wr.cell? ⟨w1.heap.size, 5, none⟩ = some (.int .u64 1) := cell_of_row wr w1.heap.size 5 quartersA _ _ hblk
        have c2 : wr.cell? ⟨w1.heap.size, 6, none⟩ = some (.bool false) := cell_of_row wr w1.heap.size 6 quartersA _ _ hblk
        have c3 : wr.cell? ⟨w1.heap.size, 7, none⟩ = some (.bool false) := cell_of_row wr w1.heap.size 7 quartersA _ _ hblk
        have hqb1 : bits BinOp.and IntKind.u64 ((d : Int) / 2 ^ (2 * k)) 3 = 1 := hqb
        clear hqb hblk
        go_wp2_with fail
        refine (T _ _ _ _ _).out.mono ?_
        rintro e w5 ⟨rfl, hu5⟩
        go_wp2_with fail
        have hn := heap_alloc_new wr (.cells #[.int .u64 0, .int .u64 1, .bool false, .bool false] 318)
        have n0 := hu5.cell (blkc hn 0 _ rfl)
        have n1 := hu5.cell (blkc hn 1 _ rfl)
        clear c0 c1 c2 c3 hn
        refine wp_region_held_drew (S := fun w' => w'.cell? ⟨wr.heap.size, 0, none⟩ = some (.int .u64 0) ∧ w'.cell? ⟨wr.heap.size, 1, none⟩ = some (.int .u64 1)) (by kernel_rfl) ⟨n0, n1⟩ (fun hHeld => ?_)
        refine tk 0 rfl ?_
        (try simp only [Act.put, tz1, tz2, tz3])
        refine tk 1 rfl ?_
        (try simp only [Act.put, tz1, tz2, tz3])
        refine tk 2 rfl ?_
        (try simp only [Act.put, tz1, tz2, tz3])
        refine tk 3 rfl ?_
        (try simp only [Act.put, tz1, tz2, tz3])
        refine tk 4 rfl ?_
        (try simp only [Act.put, tz1, tz2, tz3])
        refine tk 5 rfl ?_
        (try simp only [Act.put, tz1, tz2, tz3])
        refine tk 6 rfl ?_
        (try simp only [Act.put, tz1, tz2, tz3])
        refine tk 7 rfl ?_
        (try simp only [Act.put, tz1, tz2, tz3])
        refine tk 8 rfl ?_
        (try simp only [Act.put, tz1, tz2, tz3])
        refine tk 9 rfl ?_
        (try simp only [Act.put, tz1, tz2, tz3])
        refine tk 10 rfl ?_
        (try simp only [Act.put, tz1, tz2, tz3])
        refine tk 11 rfl ?_
        (try simp only [Act.put, tz1, tz2, tz3])
        refine tk 12 rfl ?_
        (try simp only [Act.put, tz1, tz2, tz3])
        refine tk 13 rfl ?_
        (try simp only [Act.put, tz1, tz2, tz3])
        refine wpAnyH_done (by kernel_rfl) ?_ _
        clear hHeld n0 n1
        go_wp2_with fail
        go_roundg m
        case measure => omega
        case rel =>
          have t1 : turnX false false k pa pb = pa := by simp [turnX, Nat.mod_eq_of_lt hl.1]
          have t2 : turnY false false k pa pb = pb := by simp [turnY, Nat.mod_eq_of_lt hl.2]
          have st : unhil (k + 1) (d % 4 ^ (k + 1)) = (pa, 2 ^ k + pb) := by rw [HST.out]; simp
          refine ⟨k + 1, by omega, by go_num, ?_, ?_, hu.trans (((Up.refl wr).alloc _).trans (hu5.trans (Up.refl w5).drew)), hle, (((Up.refl wr).alloc _).trans (hu5.trans (Up.refl w5).drew)).obj HB.out⟩
          · rw [st, t1]; exact int_eq (or_none _ (by omega))
          · rw [st, t2]; exact int_eq (or_high _ k (by omega) (by omega))
      case' inr.inr.inl =>
        have c0 : wr.cell? ⟨w1.heap.size, 8, none⟩ = some (.int .u64 1) := cell_of_row wr w1.heap.size 8 quartersA _ _ hblk
        have c1 : wr.cell? ⟨w1.heap.size, 9, none⟩ = some (.int .u64 1) := cell_of_row wr w1.heap.size 9 quartersA _ _ hblk
        have c2 : wr.cell? ⟨w1.heap.size, 10, none⟩ = some (.bool false) := cell_of_row wr w1.heap.size 10 quartersA _ _ hblk
        have c3 : wr.cell? ⟨w1.heap.size, 11, none⟩ = some (.bool false) := cell_of_row wr w1.heap.size 11 quartersA _ _ hblk
        have hqb1 : bits BinOp.and IntKind.u64 ((d : Int) / 2 ^ (2 * k)) 3 = 2 := hqb
        clear hqb hblk
        go_wp2_with fail
        refine (T _ _ _ _ _).out.mono ?_
        rintro e w5 ⟨rfl, hu5⟩
        go_wp2_with fail
        have hn := heap_alloc_new wr (.cells #[.int .u64 1, .int .u64 1, .bool false, .bool false] 318)
        have n0 := hu5.cell (blkc hn 0 _ rfl)
        have n1 := hu5.cell (blkc hn 1 _ rfl)
        clear c0 c1 c2 c3 hn
        refine wp_region_held_drew (S := fun w' => w'.cell? ⟨wr.heap.size, 0, none⟩ = some (.int .u64 1) ∧ w'.cell? ⟨wr.heap.size, 1, none⟩ = some (.int .u64 1)) (by kernel_rfl) ⟨n0, n1⟩ (fun hHeld => ?_)
        refine tk 0 rfl ?_
        (try simp only [Act.put, tz1, tz2, tz3])
        refine tk 1 rfl ?_
        (try simp only [Act.put, tz1, tz2, tz3])
        refine tk 2 rfl ?_
        (try simp only [Act.put, tz1, tz2, tz3])
        refine tk 3 rfl ?_
        (try simp only [Act.put, tz1, tz2, tz3])
        refine tk 4 rfl ?_
        (try simp only [Act.put, tz1, tz2, tz3])
        refine tk 5 rfl ?_
        (try simp only [Act.put, tz1, tz2, tz3])
        refine tk 6 rfl ?_
        (try simp only [Act.put, tz1, tz2, tz3])
        refine tk 7 rfl ?_
        (try simp only [Act.put, tz1, tz2, tz3])
        refine tk 8 rfl ?_
        (try simp only [Act.put, tz1, tz2, tz3])
        refine tk 9 rfl ?_
        (try simp only [Act.put, tz1, tz2, tz3])
        refine tk 10 rfl ?_
        (try simp only [Act.put, tz1, tz2, tz3])
        refine tk 11 rfl ?_
        (try simp only [Act.put, tz1, tz2, tz3])
        refine tk 12 rfl ?_
        (try simp only [Act.put, tz1, tz2, tz3])
        refine tk 13 rfl ?_
        (try simp only [Act.put, tz1, tz2, tz3])
        refine wpAnyH_done (by kernel_rfl) ?_ _
        clear hHeld n0 n1
        go_wp2_with fail
        go_roundg m
        case measure => omega
        case rel =>
          have t1 : turnX false false k pa pb = pa := by simp [turnX, Nat.mod_eq_of_lt hl.1]
          have t2 : turnY false false k pa pb = pb := by simp [turnY, Nat.mod_eq_of_lt hl.2]
          have st : unhil (k + 1) (d % 4 ^ (k + 1)) = (2 ^ k + pa, 2 ^ k + pb) := by rw [HST.out]; simp
          refine ⟨k + 1, by omega, by go_num, ?_, ?_, hu.trans (((Up.refl wr).alloc _).trans (hu5.trans (Up.refl w5).drew)), hle, (((Up.refl wr).alloc _).trans (hu5.trans (Up.refl w5).drew)).obj HB.out⟩
          · rw [st, t1]; exact int_eq (or_high _ k (by omega) (by omega))
          · rw [st, t2]; exact int_eq (or_high _ k (by omega) (by omega))
      case' inr.inr.inr =>
        have c0 : wr.cell? ⟨w1.heap.size, 12, none⟩ = some (.int .u64 1) := cell_of_row wr w1.heap.size 12 quartersA _ _ hblk
        have c1 : wr.cell? ⟨w1.heap.size, 13, none⟩ = some (.int .u64 0) := cell_of_row wr w1.heap.size 13 quartersA _ _ hblk
        have c2 : wr.cell? ⟨w1.heap.size, 14, none⟩ = some (.bool true) := cell_of_row wr w1.heap.size 14 quartersA _ _ hblk
        have c3 : wr.cell? ⟨w1.heap.size, 15, none⟩ = some (.bool true) := cell_of_row wr w1.heap.size 15 quartersA _ _ hblk
        have hqb1 : bits BinOp.and IntKind.u64 ((d : Int) / 2 ^ (2 * k)) 3 = 3 := hqb
        clear hqb hblk
        go_wp2_with fail
        refine (T _ _ _ _ _).out.mono ?_
        rintro e w5 ⟨rfl, hu5⟩
        go_wp2_with fail
        have hn := heap_alloc_new wr (.cells #[.int .u64 1, .int .u64 0, .bool true, .bool true] 318)
        have n0 := hu5.cell (blkc hn 0 _ rfl)
        have n1 := hu5.cell (blkc hn 1 _ rfl)
        clear c0 c1 c2 c3 hn
        refine wp_region_held_drew (S := fun w' => w'.cell? ⟨wr.heap.size, 0, none⟩ = some (.int .u64 1) ∧ w'.cell? ⟨wr.heap.size, 1, none⟩ = some (.int .u64 0)) (by kernel_rfl) ⟨n0, n1⟩ (fun hHeld => ?_)
        refine tk 0 rfl ?_
        (try simp only [Act.put, tz1, tz2, tz3])
        refine tk 1 rfl ?_
        (try simp only [Act.put, tz1, tz2, tz3])
        refine tk 2 rfl ?_
        (try simp only [Act.put, tz1, tz2, tz3])
        refine tk 3 rfl ?_
        (try simp only [Act.put, tz1, tz2, tz3])
        refine tk 4 rfl ?_
        (try simp only [Act.put, tz1, tz2, tz3])
        refine tk 5 rfl ?_
        (try simp only [Act.put, tz1, tz2, tz3])
        refine tk 6 rfl ?_
        (try simp only [Act.put, tz1, tz2, tz3])
        refine tk 7 rfl ?_
        (try simp only [Act.put, tz1, tz2, tz3])
        refine tk 8 rfl ?_
        (try simp only [Act.put, tz1, tz2, tz3])
        refine tk 9 rfl ?_
        (try simp only [Act.put, tz1, tz2, tz3])
        refine tk 10 rfl ?_
        (try simp only [Act.put, tz1, tz2, tz3])
        refine tk 11 rfl ?_
        (try simp only [Act.put, tz1, tz2, tz3])
        refine tk 12 rfl ?_
        (try simp only [Act.put, tz1, tz2, tz3])
        refine tk 13 rfl ?_
        (try simp only [Act.put, tz1, tz2, tz3])
        refine wpAnyH_done (by kernel_rfl) ?_ _
        clear hHeld n0 n1
        go_wp2_with fail
        go_roundg m
        case measure => omega
        case rel =>
          have t1 : turnX true true k pa pb = 2 ^ k - 1 - pb := by simp [turnX, Nat.mod_eq_of_lt hl.2]
          have t2 : turnY true true k pa pb = 2 ^ k - 1 - pa := by simp [turnY, Nat.mod_eq_of_lt hl.1]
          have st : unhil (k + 1) (d % 4 ^ (k + 1)) = (2 ^ k + (2 ^ k - 1 - pb), 2 ^ k - 1 - pa) := by rw [HST.out]; simp
          refine ⟨k + 1, by omega, by go_num, ?_, ?_, hu.trans (((Up.refl wr).alloc _).trans (hu5.trans (Up.refl w5).drew)), hle, (((Up.refl wr).alloc _).trans (hu5.trans (Up.refl w5).drew)).obj HB.out⟩
          · rw [st, t1]; exact int_eq (or_high _ k (by omega) (by omega))
          · rw [st, t2]; exact int_eq (or_none _ (by omega))
theorem tof_any (id : Nat) (h : id < 6004799503160661) (w : World) :
    Calls Tryz.prog 119 #[.int .u64 (id : Int)] w fun e w' => e = .returned (.tuple #[.agg #[.int .i64 (zoomN id : Int), .int .i64 ((tileXY id).1 : Int), .int .i64 ((tileXY id).2 : Int)], .int .i64 0]) ∧ Up w w' := by
  have ZM := fun w => Lib.hid (zoom_any id h w)
  rw [zoomN_eq h] at ZM
  have hz := zoomN_le h
  have hb := zoomN_base h
  have BA := fun w => Lib.hid (base_any (zoomN id) (by omega) w)
  have PO := fun w => Lib.hid (point_ok (zoomN id) (id - baseN (zoomN id)) hz (by omega) w)
  unfold tileXY
  have h4 := four_pow_le27 (z := zoomN id) (by omega)
  have e1 : IntKind.u64.wrap ((id : Int) - (baseN (zoomN id) : Int)) = ((id - baseN (zoomN id) : Nat) : Int) := by rw [IntWalk.u64_in _ (by omega)]; omega
  generalize id - baseN (zoomN id) = d at *
  generalize zoomN id = z at *
  generalize unhil z d = p at *
  obtain ⟨px, py⟩ := p
  simp only at PO ⊢
  generalize baseN z = bz at *
  have hu0 := (Up.refl w).alloc (.cells #[.int .i64 0, .int .i64 0, .int .i64 0] 132)
  have hq := heap_alloc_new w (.cells #[.int .i64 0, .int .i64 0, .int .i64 0] 132)
  have HQ := Lib.hid hq
  clear hq h hb
  go_enter Tryz.func119, Tryz.ntmps119
  go_wp2_with fail
  refine (ZM _).out.mono ?_
  rintro e w1 ⟨rfl, hu1⟩
  go_wp2_with fail
  refine (BA _).out.mono ?_
  rintro e w2 ⟨rfl, rfl⟩
  go_wp2_with fail
  refine (PO _).out.mono ?_
  rintro e w3 ⟨rfl, hu3⟩
  have HB := Lib.hid (hu3.obj (hu1.obj HQ.out))
  have hu := hu0.trans (hu1.trans hu3)
  have c0 := blkc HB.out 0 _ rfl
  have c1 := blkc HB.out 1 _ rfl
  have c2 := blkc HB.out 2 _ rfl
  have f0 : w3.frozen? ⟨w.heap.size, 0, none⟩ = false := by simp [World.frozen?, HB.out]
  have f1 : w3.frozen? ⟨w.heap.size, 1, none⟩ = false := by simp [World.frozen?, HB.out]
  have f2 : w3.frozen? ⟨w.heap.size, 2, none⟩ = false := by simp [World.frozen?, HB.out]
  go_wp2_with fail
  have b1 := heap_setCell_same w3 w.heap.size 0 _ 132 (.int .i64 (z : Int)) HB.out
  have b2 := heap_setCell_same _ w.heap.size 1 _ 132 (.int .i64 (px : Int)) b1
  have b3 := heap_setCell_same _ w.heap.size 2 _ 132 (.int .i64 (py : Int)) b2
  have d0 := blkc b3 0 _ rfl
  have d1 := blkc b3 1 _ rfl
  have d2 := blkc b3 2 _ rfl
  refine bodyPost_ret (v := .tuple #[.agg #[.int .i64 (z : Int), .int .i64 (px : Int), .int .i64 (py : Int)], .int .i64 0]) (by simp [results, Tryz.results119, go_sem, d0, d1, d2]) rfl ⟨rfl, ((hu.set (p := ⟨w.heap.size, 0, none⟩) (Nat.le_refl _) _).set (p := ⟨w.heap.size, 1, none⟩) (Nat.le_refl _) _).set (p := ⟨w.heap.size, 2, none⟩) (Nat.le_refl _) _⟩
end Go.Proofs.YtkfococpanailaaGreatDoor
