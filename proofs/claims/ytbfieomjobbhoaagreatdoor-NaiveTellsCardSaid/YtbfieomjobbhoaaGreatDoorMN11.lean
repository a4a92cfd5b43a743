/- Walk: fnv.Sum. -/
import Derived.Test.YtbfieomjobbhoaaGreatDoorMN09
import Derived.Test.YtbfieomjobbhoaaGreatDoorMN10
import Derived.Laws.Bits64
import Derived.Test.YtbfieomjobbhoaaGreatDoorMN01
import Derived.LoopN
import Derived.Deep.MidRow
import Derived.Test.YtbfieomjobbhoaaGreatDoorShelf
import Derived.Test.YtbfieomjobbhoaaGreatDoorMN04
namespace Go.Proofs.YtbfieomjobbhoaaGreatDoor
open Go.RowKit Go.Gz Go.Shelf

set_option maxRecDepth 100000
def fnvS (h c : Nat) : Nat := (Nat.xor h c * 1099511628211) % 18446744073709551616
theorem fnvS_lt (h c : Nat) : fnvS h c < 18446744073709551616 := Nat.mod_lt _ (by omega)
theorem fnvV_eq (s : Bs) : fnvV s = s.foldl (fun h c => fnvS h c.toNat) 14695981039346656037 := rfl
theorem blkc {w : World} {g : Nat} {cs : Array Value} {t : TypeId} (h : w.heap[g]? = some (.cells cs t (0, 0))) (j : Nat) (v : Value) (hv : cs[j]? = some v) : w.cell? ⟨g, j, none⟩ = some v := (cell_of_row w g j cs t _ h).trans hv
theorem blkf {w : World} {g : Nat} {cs : Array Value} {t : TypeId} (h : w.heap[g]? = some (.cells cs t (0, 0))) (j : Nat) : w.frozen? ⟨g, j, none⟩ = false := frozen_of_row w g j cs t h
theorem add_any (h c : Nat) (hh : h < 18446744073709551616) (hc : c < 256) (w : World) :
    Calls Tryz.prog 252 #[.int .u64 h, .int .u8 c] w fun e w' => e = .returned (.int .u64 (fnvS h c : Nat)) ∧ w = w' := by
  have hx : Nat.xor h c < 2 ^ 64 := Nat.xor_lt_two_pow (by omega) (by omega);have hb : bits BinOp.xor IntKind.u64 (h : Int) (c : Int) = ((Nat.xor h c : Nat) : Int) := by
    rw [bits_xor_u64_nat h c (by omega) (by omega)]; rfl
  have hw : IntKind.u64.wrap (((Nat.xor h c : Nat) : Int) * 1099511628211) = ((fnvS h c : Nat) : Int) := by
    unfold fnvS;simp only [IntKind.wrap, IntKind.bits, IntKind.signed];simp
  go_enter Tryz.func252, Tryz.ntmps252;go_wp2_with fail;go_ret;exact ⟨rfl, rfl⟩
set_option maxHeartbeats 4000000 in
theorem fold_any (s : Bs) (hl : s.length ≤ 1000000) (h : Nat) (hh : h < 18446744073709551616) (w : World) :
    Calls Tryz.prog 253 #[.agg #[.int .u64 h, .func (.func 252) #[] #[]], .string ⟨s.toArray⟩] w fun e w' => e = .returned (.int .u64 (s.foldl (fun h c => fnvS h c.toNat) h : Nat)) ∧ Up w w' := by
  generalize hT : s.foldl (fun h c => fnvS h c.toNat) h = T;have HT := Lib.hid hT;clear hT;have hq := heap_alloc_new w (.cells #[.int .u64 h, .func (.func 252) #[] #[]] 356);have HQ := Lib.hid hq;go_enter Tryz.func253, Tryz.ntmps253;go_wp2_with fail;go_loopg [8] s.length (fun gk i wr => ∃ k h : Nat, k + gk = s.length ∧ i = .int .i64 k ∧ h < 18446744073709551616 ∧ (s.drop k).foldl (fun h c => fnvS h c.toNat) h = T ∧ wr.heap[w.heap.size]? = some (.cells #[.int .u64 h, .func (.func 252) #[] #[]] 356 (0, 0)) ∧ Up w wr)
  case atStart => exact ⟨0, h, by omega, rfl, hh, by simpa using HT.out, HQ.out, (Up.refl w).alloc _⟩
  case round =>
    obtain ⟨k, y, hk, rfl, hy, hd, ho, hu⟩ := hrel;have HU := Lib.hid hu;have HO := Lib.hid ho;have c0 := blkc ho 0 _ rfl;have c1 := blkc ho 1 _ rfl;have f0 := blkf ho 0;by_cases hlt : k < s.length
    · obtain ⟨m, rfl⟩ : ∃ m, gk = m + 1 := ⟨gk - 1, by omega⟩;rw [List.drop_eq_getElem_cons hlt, List.foldl_cons] at hd;have HD := Lib.hid hd;have hltI : (k : Int) < (s.length : Int) := by omega
      have AD := fun w => Lib.hid (add_any y s[k].toNat hy (UInt8.toNat_lt _) w);clear hd ho hu;go_wp2_with fail;go_region_with (go_at_call 252; refine (AD _).out.mono ?_; rintro e w1 ⟨rfl, rfl⟩)
      all_goals
        go_wp2_with fail;go_roundg m
        case measure => omega
        case rel => exact ⟨k + 1, fnvS y s[k].toNat, by omega, by go_num, fnvS_lt _ _, HD.out, heap_setCell_same wr w.heap.size 0 _ _ _ HO.out, (Up.of (HU.out.below.setCell (p := ⟨w.heap.size, 0, none⟩) (by simp) _)).drew⟩
    · obtain rfl : k = s.length := by omega
      obtain rfl : gk = 0 := by omega
      rw [List.drop_length, List.foldl_nil] at hd;subst hd;clear hlt hu ho hk;go_wp2_with fail;go_ret;exact ⟨rfl, HU.out⟩
set_option maxHeartbeats 1000000 in
theorem sum_any (s : Bs) (hl : s.length ≤ 1000000) (w : World) :
    Calls Tryz.prog 214 #[.string ⟨s.toArray⟩] w fun e w' => e = .returned (.int .u64 (fnvV s : Nat)) ∧ Up w w' := by
  have FD := fun w => Lib.hid (fold_any s hl 14695981039346656037 (by omega) w);rw [← fnvV_eq] at FD;generalize fnvV s = T at *;go_enter Tryz.func214, Tryz.ntmps214;go_wp2_with fail;refine (FD _).out.mono ?_;rintro e w1 ⟨rfl, hu⟩;go_wp2_with fail;go_ret;exact ⟨rfl, hu⟩
end Go.Proofs.YtbfieomjobbhoaaGreatDoor
/- Walks: little.Unsigned; header.within, put, degrees, sections, End, fits. -/
namespace Go.Gz
/-- numbers with a sign, as cells -/
def inV (l : List Int) : List Value := l.map fun x => Value.int .i64 x
theorem inV_get (l : List Int) {k : Nat} (hk : k < l.length) : (inV l)[k]? = some (.int .i64 l[k]) := by
  unfold inV; rw [List.getElem?_map, List.getElem?_eq_getElem hk]; rfl
end Go.Gz
namespace Go.Proofs.YtbfieomjobbhoaaGreatDoor
open Go.RowKit Go.Gz Go.Shelf

set_option maxRecDepth 100000
theorem uns_any (v : Int) (h1 : -2147483648 ≤ v) (h2 : v < 2147483648) (w : World) :
    Calls Tryz.prog 219 #[.int .i64 v, .int .i64 4] w fun e w' => e = .returned (.tuple #[.int .u64 (uns4 v : Nat), .int .i64 0]) ∧ w = w' := by
  have FT := fun w => Lib.hid (fits_any 4 w);rw [decide_eq_true (by omega : (1 : Int) ≤ 4), decide_eq_true (by omega : (4 : Int) ≤ 8)] at FT;simp only [Bool.and_self] at FT;have e1 : IntKind.u64.wrap (IntKind.u64.wrap v * 4294967296) / 4294967296 = ((uns4 v : Nat) : Int) := by
    have g : ∀ x : Int, IntKind.u64.wrap x = x % 18446744073709551616 := fun x => by simp [IntKind.wrap, IntKind.bits, IntKind.signed]
    rw [g, g];unfold uns4;omega
  go_enter Tryz.func219, Tryz.ntmps219;go_wp2_with fail;refine (FT _).out.mono ?_;rintro e w1 ⟨rfl, rfl⟩;go_wp2_with fail;refine bodyPost_ret (v := .tuple #[.int .u64 (uns4 v : Nat), .int .i64 0]) (by simp [results, Tryz.results219, go_sem]) rfl ?_;exact ⟨rfl, rfl⟩
theorem within_any (lo hi : Int) (xs : List Int) (hl : xs.length ≤ 1000) (A : Option Addr) (c : Nat) (w : World) (hr : Rd w 1 A xs.length c (inV xs)) :
    Calls Tryz.prog 138 #[.int .i64 lo, .int .i64 hi, .slice A xs.length c] w fun e w' => e = .returned (.bool (xs.all fun x => decide (lo ≤ x) && decide (x ≤ hi))) ∧ w = w' := by
  have HR := Lib.hid hr;clear hr;generalize hT : (xs.all fun x => decide (lo ≤ x) && decide (x ≤ hi)) = T at *;have HT := Lib.hid hT;clear hT;go_enter Tryz.func138, Tryz.ntmps138;go_wp2_with fail;go_loopg [11] xs.length (fun gk i wr => ∃ k : Nat, k + gk = xs.length ∧ i = .int .i64 k ∧ ((xs.drop k).all fun x => decide (lo ≤ x) && decide (x ≤ hi)) = T ∧ w = wr)
  case atStart => exact ⟨0, by omega, rfl, by simpa using HT.out, rfl⟩
  case round =>
    obtain ⟨k, hk, rfl, hd, rfl⟩ := hrel;by_cases hlt : k < xs.length
    · obtain ⟨m, rfl⟩ : ∃ m, gk = m + 1 := ⟨gk - 1, by omega⟩;obtain ⟨b, o, u, rfl, g1, g2⟩ := HR.out.one hlt;rw [inV_get xs hlt] at g1;cases g1;rw [List.drop_eq_getElem_cons hlt, List.all_cons] at hd;generalize xs[k] = x at *;have hltI : (k : Int) < (xs.length : Int) := by omega
      by_cases h1 : lo ≤ x
      · have b1 : decide (x < lo) = false := decide_eq_false (by omega);by_cases h2 : x ≤ hi
        · have b2 : decide (hi < x) = false := decide_eq_false (by omega);rw [decide_eq_true h1, decide_eq_true h2] at hd;simp only [Bool.and_self, Bool.true_and] at hd;have HD := Lib.hid hd;clear hd h1 h2;go_wp2_with fail;go_roundg m
          case measure => omega
          case rel => exact ⟨k + 1, by omega, by go_num, HD.out, rfl⟩
        · have b2 : decide (hi < x) = true := decide_eq_true (by omega);rw [decide_eq_false h2] at hd;simp only [Bool.and_false, Bool.false_and] at hd;subst hd;clear h1 h2;go_wp2_with fail;go_ret;exact ⟨rfl, rfl⟩
      · have b1 : decide (x < lo) = true := decide_eq_true (by omega);rw [decide_eq_false h1] at hd;simp only [Bool.false_and] at hd;subst hd;clear h1;go_wp2_with fail;go_ret;exact ⟨rfl, rfl⟩
    · obtain rfl : k = xs.length := by omega
      obtain rfl : gk = 0 := by omega
      rw [List.drop_length] at hd;have hd : true = T := hd;subst hd;clear hlt hk;go_wp2_with fail;go_ret;exact ⟨rfl, rfl⟩
theorem own_low' {w : World} {b b' : Nat} {e : TypeId} {size n : Nat} {v : Value} {xs : List Value} (h : w.ownsRow b e size v n xs) (hb : b' ≤ b) : w.ownsRow b' e size v n xs := by
  refine ⟨h.1, ?_⟩;rcases h.2 with g | ⟨g, cap, cur, g1, g2, g3⟩
  · exact .inl g
  · exact .inr ⟨g, cap, cur, g1, by omega, g3⟩
def layN (n : Nat) (xs : List Nat) : Bs := xs.flatMap fun x => leB n x
theorem layN_len (n : Nat) (xs : List Nat) : (layN n xs).length = xs.length * n := by
  induction xs with
  | nil => simp [layN]
  | cons x r ih => unfold layN at *; rw [List.flatMap_cons, List.length_append, leB_len, ih, List.length_cons, Nat.add_mul]; omega
set_option maxHeartbeats 2000000 in
theorem hput_any (bs : Bs) (hl : bs.length ≤ 1000) (A : Option Addr) (c n : Nat) (h1 : 1 ≤ n) (h2 : n ≤ 8) (xs : List Nat) (hx : ∀ x ∈ xs, x < 18446744073709551616) (hxl : xs.length ≤ 100) (h0 : xs ≠ []) (A2 : Option Addr) (c2 : Nat) (w : World) (hr : Rd w 1 A bs.length c (byV bs)) (hr2 : Rd w 1 A2 xs.length c2 (nuV xs)) :
    Calls Tryz.prog 179 #[.slice A bs.length c, .int .i64 n, .slice A2 xs.length c2] w (OwnE w 5 1 (bs ++ layN n xs).length (byV (bs ++ layN n xs))) := by
  have PT := fun B hB A c x hx w hr => Lib.hid (lput_any B hB A c n h1 h2 x hx w hr);have HR := Lib.hid hr;have HR2 := Lib.hid hr2;have HX := Lib.hid hx;clear hr hr2 hx;have hln := layN_len n xs;have hmn : xs.length * n ≤ 100 * 8 := Nat.mul_le_mul hxl h2;generalize hT : bs ++ layN n xs = T at *;have hTl : T.length ≤ 2000 := by rw [← hT, List.length_append, hln]; omega
  have HT := Lib.hid hT;clear hT hln hmn;have hbl : bs.length ≤ 1000 := hl;have HBL : Hid (T.length ≤ 2000) := Lib.hid hTl;clear hTl;generalize hbn : bs.length = bn at *;go_enter Tryz.func179, Tryz.ntmps179;go_wp2_with fail;go_loopg [0, 11] xs.length (fun gk bv i wr => ∃ (k : Nat) (L : Bs) (A : Option Addr) (c : Nat), k + gk = xs.length ∧ i = .int .i64 k ∧ bv = .slice A L.length c ∧ Rd wr 1 A L.length c (byV L) ∧ L ++ layN n (xs.drop k) = T ∧ Up w wr ∧ (0 < k → wr.ownsRow w.heap.size 5 1 bv L.length (byV L)))
  case atStart => exact ⟨0, bs, A, c, by omega, rfl, by rw [hbn], by rw [hbn]; exact HR.out, by simpa using HT.out, Up.refl w, fun h => absurd h (by omega)⟩
  case round =>
    rename World => wx
    obtain ⟨k, L, A3, c3, hk, rfl, rfl, hr3, hd, hu, ho⟩ := hrel;have HU := Lib.hid hu;have HR3 := Lib.hid hr3;have hLT : L.length ≤ 2000 := by have := HBL.out; rw [← hd, List.length_append] at this; omega
    by_cases hlt : k < xs.length
    · obtain ⟨m, rfl⟩ : ∃ m, gk = m + 1 := ⟨gk - 1, by omega⟩;obtain ⟨b, o, u, rfl, g1, g2⟩ := (HR2.out.up hu).one hlt;rw [nuV_get xs hlt] at g1;cases g1;rw [List.drop_eq_getElem_cons hlt] at hd;have hxx := HX.out xs[k] (List.getElem_mem hlt);have PX := fun w hr => Lib.hid (PT L (by omega) A3 c3 xs[k] hxx w hr).out;generalize xs[k] = x at *;have hltI : (k : Int) < (xs.length : Int) := by omega
      have hd2 : (L ++ leB n x) ++ layN n (xs.drop (k + 1)) = T := by rw [← hd]; simp [layN]
      have HD := Lib.hid hd2;clear hd hd2 hr3 hu ho PT;generalize L ++ leB n x = L2 at *;generalize L.length = Ll at *;go_wp2_with fail;refine (PX _ HR3.out).out.mono ?_;rintro e w3 ⟨v3, rfl, ho3, hu3⟩;have HO3 := Lib.hid ho3;obtain ⟨A4, c4, rfl, r4⟩ := Rd.of_own ho3;have HR4 := Lib.hid r4;clear ho3 r4;go_wp2_with fail;go_roundg m
      case measure => omega
      case rel => exact ⟨k + 1, L2, A4, c4, by omega, by go_num, rfl, HR4.out, HD.out, HU.out.trans hu3, fun _ => own_low' HO3.out HU.out.le⟩
    · obtain rfl : k = xs.length := by omega
      obtain rfl : gk = 0 := by omega
      rw [List.drop_length] at hd;have hd : L = T := by rw [← hd]; simp [layN]
      subst hd;have HO := Lib.hid (ho (by have := List.length_pos_iff.2 h0; omega));clear hlt hk ho hu hr3;generalize L.length = Ll at *;go_wp2_with fail;go_ret;exact ⟨_, rfl, HO.out, HU.out⟩
def layI (xs : List Int) : Bs := xs.flatMap fun x => leB 4 (uns4 x)
theorem layI_len (xs : List Int) : (layI xs).length = xs.length * 4 := by
  induction xs with
  | nil => simp [layI]
  | cons x r ih => unfold layI at *; rw [List.flatMap_cons, List.length_append, leB_len, ih, List.length_cons, Nat.add_mul]; omega
set_option maxHeartbeats 2000000 in
theorem hdeg_any (bs : Bs) (hl : bs.length ≤ 1000) (A : Option Addr) (c : Nat) (xs : List Int) (hx : ∀ x ∈ xs, -2147483648 ≤ x ∧ x < 2147483648) (hxl : xs.length ≤ 100) (h0 : xs ≠ []) (A2 : Option Addr) (c2 : Nat) (w : World) (hr : Rd w 1 A bs.length c (byV bs)) (hr2 : Rd w 1 A2 xs.length c2 (inV xs)) :
    Calls Tryz.prog 180 #[.slice A bs.length c, .slice A2 xs.length c2] w (OwnE w 5 1 (bs ++ layI xs).length (byV (bs ++ layI xs))) := by
  have PT := fun B hB A c x hx w hr => Lib.hid (lput_any B hB A c 4 (by omega) (by omega) x hx w hr);rw [show ((4 : Nat) : Int) = 4 from rfl] at PT;have UN := fun v h1 h2 w => Lib.hid (uns_any v h1 h2 w);have HR := Lib.hid hr;have HR2 := Lib.hid hr2;have HX := Lib.hid hx;clear hr hr2 hx;have hln := layI_len xs;generalize hT : bs ++ layI xs = T at *;have hTl : T.length ≤ 2000 := by rw [← hT, List.length_append, hln]; omega
  have HT := Lib.hid hT;clear hT hln;have hbl : bs.length ≤ 1000 := hl;have HBL : Hid (T.length ≤ 2000) := Lib.hid hTl;clear hTl;generalize hbn : bs.length = bn at *;go_enter Tryz.func180, Tryz.ntmps180;go_wp2_with fail;go_loopg [0, 11] xs.length (fun gk bv i wr => ∃ (k : Nat) (L : Bs) (A : Option Addr) (c : Nat), k + gk = xs.length ∧ i = .int .i64 k ∧ bv = .slice A L.length c ∧ Rd wr 1 A L.length c (byV L) ∧ L ++ layI (xs.drop k) = T ∧ Up w wr ∧ (0 < k → wr.ownsRow w.heap.size 5 1 bv L.length (byV L)))
  case atStart => exact ⟨0, bs, A, c, by omega, rfl, by rw [hbn], by rw [hbn]; exact HR.out, by simpa using HT.out, Up.refl w, fun h => absurd h (by omega)⟩
  case round =>
    rename World => wx
    obtain ⟨k, L, A3, c3, hk, rfl, rfl, hr3, hd, hu, ho⟩ := hrel;have HU := Lib.hid hu;have HR3 := Lib.hid hr3;have hLT : L.length ≤ 2000 := by have := HBL.out; rw [← hd, List.length_append] at this; omega
    by_cases hlt : k < xs.length
    · obtain ⟨m, rfl⟩ : ∃ m, gk = m + 1 := ⟨gk - 1, by omega⟩;obtain ⟨b, o, u, rfl, g1, g2⟩ := (HR2.out.up hu).one hlt;rw [inV_get xs hlt] at g1;cases g1;rw [List.drop_eq_getElem_cons hlt] at hd;have hxx := HX.out xs[k] (List.getElem_mem hlt);have UX := fun w => Lib.hid (UN xs[k] hxx.1 hxx.2 w).out;have hu4 : uns4 xs[k] < 18446744073709551616 := Nat.lt_trans (uns_lt xs[k]) (by decide);have PX := fun w hr => Lib.hid (PT L (by omega) A3 c3 (uns4 xs[k]) hu4 w hr).out;have hd2 : (L ++ leB 4 (uns4 xs[k])) ++ layI (xs.drop (k + 1)) = T := by
        rw [← hd]; unfold layI; rw [List.flatMap_cons, List.append_assoc]
      generalize uns4 xs[k] = y at *;generalize xs[k] = x at *;have hltI : (k : Int) < (xs.length : Int) := by omega
      have HD := Lib.hid hd2;clear hd hd2 hr3 hu ho PT UN hu4 hxx;generalize L ++ leB 4 y = L2 at *;generalize L.length = Ll at *;go_wp2_with fail;refine (UX _).out.mono ?_;rintro e w2 ⟨rfl, rfl⟩;go_wp2_with fail;refine (PX _ HR3.out).out.mono ?_;rintro e w3 ⟨v3, rfl, ho3, hu3⟩;have HO3 := Lib.hid ho3;obtain ⟨A4, c4, rfl, r4⟩ := Rd.of_own ho3;have HR4 := Lib.hid r4;clear ho3 r4;go_wp2_with fail;go_roundg m
      case measure => omega
      case rel => exact ⟨k + 1, L2, A4, c4, by omega, by go_num, rfl, HR4.out, HD.out, HU.out.trans hu3, fun _ => own_low' HO3.out HU.out.le⟩
    · obtain rfl : k = xs.length := by omega
      obtain rfl : gk = 0 := by omega
      rw [List.drop_length] at hd;have hd : L = T := by rw [← hd]; simp [layI]
      subst hd;have HO := Lib.hid (ho (by have := List.length_pos_iff.2 h0; omega));clear hlt hk ho hu hr3;generalize L.length = Ll at *;go_wp2_with fail;go_ret;exact ⟨_, rfl, HO.out, HU.out⟩
end Go.Proofs.YtbfieomjobbhoaaGreatDoor
/- Walks: header.sections, End, fits, Check. -/
namespace Go.Gz
/-- a header as a value -/
def hdrV (h : Hdr) : Value := .agg #[.int .u64 (h.r0 : Int), .int .u64 (h.r1 : Int), .int .u64 (h.m0 : Int), .int .u64 (h.m1 : Int), .int .u64 (h.l0 : Int), .int .u64 (h.l1 : Int), .int .u64 (h.d0 : Int), .int .u64 (h.d1 : Int), .int .u64 (h.adr : Int), .int .u64 (h.ent : Int), .int .u64 (h.con : Int), .bool h.clu, .int .u8 (h.inn : Int), .int .u8 (h.out : Int), .int .u8 (h.kind : Int), .int .i64 h.minz, .int .i64 h.maxz, .int .i64 h.minlon, .int .i64 h.minlat, .int .i64 h.maxlon, .int .i64 h.maxlat, .int .i64 h.zoom, .int .i64 h.lon, .int .i64 h.lat]
end Go.Gz
namespace Go.Proofs.YtbfieomjobbhoaaGreatDoor
open Go.RowKit Go.Gz Go.Shelf

set_option maxRecDepth 100000
theorem rg_blk {w : World} {b : Nat} {cs : Array Value} {t : TypeId} {fz : Nat × Nat} (h : w.heap[b]? = some (.cells cs t fz)) : w.rangeAt b 0 cs.toList := fun j v hv => by
  rw [Nat.zero_add];exact (cell_of_row _ b j cs t fz h).trans (by simpa using hv)
theorem rd_new (w : World) (t : TypeId) (cs : Array Value) (n : Nat) (h : cs.size = n) (hn : n ≤ maxLen) : Rd (w.alloc (.cells cs t)) 1 (some ⟨w.heap.size, 0, none⟩) n n cs.toList := by
  refine ⟨by simp [h], Nat.le_refl _, hn, fun h => by (cases h), fun _ => ⟨_, 0, rfl, fun j u hj => ?_⟩⟩;rw [Nat.zero_add];exact (cell_of_row _ w.heap.size j cs t (0, 0) (heap_alloc_new w _)).trans (by simpa using hj)
theorem send_any (a b : Nat) (h : a + b < 18446744073709551616) (w : World) :
    Calls Tryz.prog 60 #[.agg #[.int .u64 (a : Int), .int .u64 (b : Int)]] w fun e w' => e = .returned (.int .u64 ((a + b : Nat) : Int)) ∧ Up w w' := by
  have e1 : IntKind.u64.wrap ((a : Int) + (b : Int)) = ((a + b : Nat) : Int) := by rw [IntWalk.u64_in _ (by omega)]; omega
  have hq := heap_alloc_new w (.cells #[.int .u64 (a : Int), .int .u64 (b : Int)] 61);have c0 := blkc hq 0 _ rfl;have c1 := blkc hq 1 _ rfl;generalize a + b = s at *;go_enter Tryz.func60, Tryz.ntmps60;go_wp2_with fail;go_ret;exact ⟨rfl, (Up.refl w).alloc _⟩
theorem sfits_any (a b : Nat) (T : Bool) (hT : decide (a + b ≤ 1099511627776) = T) (w : World) :
    Calls Tryz.prog 137 #[.agg #[.int .u64 (a : Int), .int .u64 (b : Int)]] w fun e w' => e = .returned (.bool T) ∧ Up w w' := by
  have hq := heap_alloc_new w (.cells #[.int .u64 (a : Int), .int .u64 (b : Int)] 61);have c0 := blkc hq 0 _ rfl;have c1 := blkc hq 1 _ rfl;by_cases h1 : a ≤ 1099511627776
  · have b1 : decide ((a : Int) ≤ 1099511627776) = true := decide_eq_true (by omega);by_cases h2 : b ≤ 1099511627776
    · have b2 : decide ((b : Int) ≤ 1099511627776) = true := decide_eq_true (by omega);have SE := fun w => Lib.hid (send_any a b (by omega) w);have b3 : decide (((a + b : Nat) : Int) ≤ 1099511627776) = T := by
        rw [← hT];by_cases h : a + b ≤ 1099511627776
        · rw [decide_eq_true h, decide_eq_true (by omega)]
        · rw [decide_eq_false h, decide_eq_false (by omega)]
      clear hT;generalize a + b = s at *;clear h1 h2;go_enter Tryz.func137, Tryz.ntmps137;go_wp2_with fail;refine (SE _).out.mono ?_;rintro e w1 ⟨rfl, hu1⟩;go_wp2_with fail;go_ret;exact ⟨rfl, ((Up.refl w).alloc _).trans hu1⟩
    · have b2 : decide ((b : Int) ≤ 1099511627776) = false := decide_eq_false (by omega);rw [decide_eq_false (show ¬ a + b ≤ 1099511627776 by omega)] at hT;subst hT;clear h1 h2;go_enter Tryz.func137, Tryz.ntmps137;go_wp2_with fail;go_ret;exact ⟨rfl, (Up.refl w).alloc _⟩
  · have b1 : decide ((a : Int) ≤ 1099511627776) = false := decide_eq_false (by omega);rw [decide_eq_false (show ¬ a + b ≤ 1099511627776 by omega)] at hT;subst hT;clear h1;go_enter Tryz.func137, Tryz.ntmps137;go_wp2_with fail;go_ret;exact ⟨rfl, (Up.refl w).alloc _⟩
set_option maxHeartbeats 2000000 in
theorem sects_any (r0 r1 m0 m1 l0 l1 d0 d1 adr ent con : Nat) (clu : Bool) (inn out kind : Nat) (minz maxz minlon minlat maxlon maxlat zoom lon lat : Int) (w : World) :
    Calls Tryz.prog 136 #[.agg #[.int .u64 (r0 : Int), .int .u64 (r1 : Int), .int .u64 (m0 : Int), .int .u64 (m1 : Int), .int .u64 (l0 : Int), .int .u64 (l1 : Int), .int .u64 (d0 : Int), .int .u64 (d1 : Int), .int .u64 (adr : Int), .int .u64 (ent : Int), .int .u64 (con : Int), .bool clu, .int .u8 (inn : Int), .int .u8 (out : Int), .int .u8 (kind : Int), .int .i64 minz, .int .i64 maxz, .int .i64 minlon, .int .i64 minlat, .int .i64 maxlon, .int .i64 maxlat, .int .i64 zoom, .int .i64 lon, .int .i64 lat]] w fun e w' => e = .returned (.agg #[.int .u64 (r0 : Int), .int .u64 (r1 : Int), .int .u64 (m0 : Int), .int .u64 (m1 : Int), .int .u64 (l0 : Int), .int .u64 (l1 : Int), .int .u64 (d0 : Int), .int .u64 (d1 : Int)]) ∧ Up w w' := by
  have hq := heap_alloc_new w (.cells #[.int .u64 (r0 : Int), .int .u64 (r1 : Int), .int .u64 (m0 : Int), .int .u64 (m1 : Int), .int .u64 (l0 : Int), .int .u64 (l1 : Int), .int .u64 (d0 : Int), .int .u64 (d1 : Int), .int .u64 (adr : Int), .int .u64 (ent : Int), .int .u64 (con : Int), .bool clu, .int .u8 (inn : Int), .int .u8 (out : Int), .int .u8 (kind : Int), .int .i64 minz, .int .i64 maxz, .int .i64 minlon, .int .i64 minlat, .int .i64 maxlon, .int .i64 maxlat, .int .i64 zoom, .int .i64 lon, .int .i64 lat] 63);have c0 := blkc hq 0 _ rfl;have c1 := blkc hq 1 _ rfl;have c2 := blkc hq 2 _ rfl;have c3 := blkc hq 3 _ rfl;have c4 := blkc hq 4 _ rfl;have c5 := blkc hq 5 _ rfl;have c6 := blkc hq 6 _ rfl;have c7 := blkc hq 7 _ rfl;go_enter Tryz.func136, Tryz.ntmps136;go_wp2_with fail;have hz := heap_alloc_new (w.alloc (.cells #[.int .u64 (r0 : Int), .int .u64 (r1 : Int), .int .u64 (m0 : Int), .int .u64 (m1 : Int), .int .u64 (l0 : Int), .int .u64 (l1 : Int), .int .u64 (d0 : Int), .int .u64 (d1 : Int), .int .u64 (adr : Int), .int .u64 (ent : Int), .int .u64 (con : Int), .bool clu, .int .u8 (inn : Int), .int .u8 (out : Int), .int .u8 (kind : Int), .int .i64 minz, .int .i64 maxz, .int .i64 minlon, .int .i64 minlat, .int .i64 maxlon, .int .i64 maxlat, .int .i64 zoom, .int .i64 lon, .int .i64 lat] 63)) (.cells #[.int .u64 (r0 : Int), .int .u64 (r1 : Int), .int .u64 (m0 : Int), .int .u64 (m1 : Int), .int .u64 (l0 : Int), .int .u64 (l1 : Int), .int .u64 (d0 : Int), .int .u64 (d1 : Int)] 133);rw [World.size_alloc] at hz;have k0 := blkc hz 0 _ rfl;have k1 := blkc hz 1 _ rfl;have k2 := blkc hz 2 _ rfl;have k3 := blkc hz 3 _ rfl;have k4 := blkc hz 4 _ rfl;have k5 := blkc hz 5 _ rfl;have k6 := blkc hz 6 _ rfl;have k7 := blkc hz 7 _ rfl;simp only [List.getElem_toArray, List.getElem_cons_succ, List.getElem_cons_zero] at k0 k1 k2 k3 k4 k5 k6 k7;refine bodyPost_ret (v := .agg #[.int .u64 (r0 : Int), .int .u64 (r1 : Int), .int .u64 (m0 : Int), .int .u64 (m1 : Int), .int .u64 (l0 : Int), .int .u64 (l1 : Int), .int .u64 (d0 : Int), .int .u64 (d1 : Int)]) (by simp [results, Tryz.results136, go_sem, k0, k1, k2, k3, k4, k5, k6, k7]) rfl ?_;exact ⟨rfl, ((Up.refl w).alloc _).alloc _⟩
theorem sec_ix0 (r0 r1 m0 m1 l0 l1 d0 d1 : Nat) (w : World) : (Instr.index 133 (.agg #[.int .u64 (r0 : Int), .int .u64 (r1 : Int), .int .u64 (m0 : Int), .int .u64 (m1 : Int), .int .u64 (l0 : Int), .int .u64 (l1 : Int), .int .u64 (d0 : Int), .int .u64 (d1 : Int)]) (.int .i64 0)).run Tryz.prog w = .ok (.agg #[.int .u64 (r0 : Int), .int .u64 (r1 : Int)]) w := by kernel_rfl
theorem sec_ix1 (r0 r1 m0 m1 l0 l1 d0 d1 : Nat) (w : World) : (Instr.index 133 (.agg #[.int .u64 (r0 : Int), .int .u64 (r1 : Int), .int .u64 (m0 : Int), .int .u64 (m1 : Int), .int .u64 (l0 : Int), .int .u64 (l1 : Int), .int .u64 (d0 : Int), .int .u64 (d1 : Int)]) (.int .i64 1)).run Tryz.prog w = .ok (.agg #[.int .u64 (m0 : Int), .int .u64 (m1 : Int)]) w := by kernel_rfl
theorem sec_ix2 (r0 r1 m0 m1 l0 l1 d0 d1 : Nat) (w : World) : (Instr.index 133 (.agg #[.int .u64 (r0 : Int), .int .u64 (r1 : Int), .int .u64 (m0 : Int), .int .u64 (m1 : Int), .int .u64 (l0 : Int), .int .u64 (l1 : Int), .int .u64 (d0 : Int), .int .u64 (d1 : Int)]) (.int .i64 2)).run Tryz.prog w = .ok (.agg #[.int .u64 (l0 : Int), .int .u64 (l1 : Int)]) w := by kernel_rfl
theorem sec_ix3 (r0 r1 m0 m1 l0 l1 d0 d1 : Nat) (w : World) : (Instr.index 133 (.agg #[.int .u64 (r0 : Int), .int .u64 (r1 : Int), .int .u64 (m0 : Int), .int .u64 (m1 : Int), .int .u64 (l0 : Int), .int .u64 (l1 : Int), .int .u64 (d0 : Int), .int .u64 (d1 : Int)]) (.int .i64 3)).run Tryz.prog w = .ok (.agg #[.int .u64 (d0 : Int), .int .u64 (d1 : Int)]) w := by kernel_rfl
theorem all3 (lo hi a b c : Int) : ([a, b, c].all fun x => decide (lo ≤ x) && decide (x ≤ hi)) = true ↔ ¬ (a < lo ∨ hi < a ∨ b < lo ∨ hi < b ∨ c < lo ∨ hi < c) := by
  simp only [List.all_cons, List.all_nil, Bool.and_true, Bool.and_eq_true, decide_eq_true_eq];omega
set_option maxHeartbeats 16000000 in
theorem hchk_if (r0 r1 m0 m1 l0 l1 d0 d1 adr ent con : Nat) (clu : Bool) (inn out kind : Nat) (minz maxz minlon minlat maxlon maxlat zoom lon lat : Int) (w : World) :
    Calls Tryz.prog 80 #[.agg #[.int .u64 (r0 : Int), .int .u64 (r1 : Int), .int .u64 (m0 : Int), .int .u64 (m1 : Int), .int .u64 (l0 : Int), .int .u64 (l1 : Int), .int .u64 (d0 : Int), .int .u64 (d1 : Int), .int .u64 (adr : Int), .int .u64 (ent : Int), .int .u64 (con : Int), .bool clu, .int .u8 (inn : Int), .int .u8 (out : Int), .int .u8 (kind : Int), .int .i64 minz, .int .i64 maxz, .int .i64 minlon, .int .i64 minlat, .int .i64 maxlon, .int .i64 maxlat, .int .i64 zoom, .int .i64 lon, .int .i64 lat]] w fun e w' => e = .returned (.int .i64 (if 1099511627776 < r0 + r1 ∨ 1099511627776 < m0 + m1 ∨ 1099511627776 < l0 + l1 ∨ 1099511627776 < d0 + d1 then 8
    else if 4 < inn ∨ 4 < out ∨ 5 < kind then 14
    else if minz < 0 ∨ 26 < minz ∨ maxz < 0 ∨ 26 < maxz ∨ zoom < 0 ∨ 26 < zoom ∨ maxz < minz then 8
    else if minlon < -1800000000 ∨ 1800000000 < minlon ∨ maxlon < -1800000000 ∨ 1800000000 < maxlon ∨ lon < -1800000000 ∨ 1800000000 < lon ∨ maxlon < minlon then 8
    else if minlat < -900000000 ∨ 900000000 < minlat ∨ maxlat < -900000000 ∨ 900000000 < maxlat ∨ lat < -900000000 ∨ 900000000 < lat ∨ maxlat < minlat then 8
    else 0)) ∧ Up w w' := by
  obtain ⟨E, hE⟩ : ∃ E : Int, (if 1099511627776 < r0 + r1 ∨ 1099511627776 < m0 + m1 ∨ 1099511627776 < l0 + l1 ∨ 1099511627776 < d0 + d1 then 8
    else if 4 < inn ∨ 4 < out ∨ 5 < kind then 14
    else if minz < 0 ∨ 26 < minz ∨ maxz < 0 ∨ 26 < maxz ∨ zoom < 0 ∨ 26 < zoom ∨ maxz < minz then 8
    else if minlon < -1800000000 ∨ 1800000000 < minlon ∨ maxlon < -1800000000 ∨ 1800000000 < maxlon ∨ lon < -1800000000 ∨ 1800000000 < lon ∨ maxlon < minlon then 8
    else if minlat < -900000000 ∨ 900000000 < minlat ∨ maxlat < -900000000 ∨ 900000000 < maxlat ∨ lat < -900000000 ∨ 900000000 < lat ∨ maxlat < minlat then 8
    else 0) = E := ⟨_, rfl⟩
  rw [hE];have HE := Lib.hid hE;have hq := heap_alloc_new w (.cells #[.int .u64 (r0 : Int), .int .u64 (r1 : Int), .int .u64 (m0 : Int), .int .u64 (m1 : Int), .int .u64 (l0 : Int), .int .u64 (l1 : Int), .int .u64 (d0 : Int), .int .u64 (d1 : Int), .int .u64 (adr : Int), .int .u64 (ent : Int), .int .u64 (con : Int), .bool clu, .int .u8 (inn : Int), .int .u8 (out : Int), .int .u8 (kind : Int), .int .i64 minz, .int .i64 maxz, .int .i64 minlon, .int .i64 minlat, .int .i64 maxlon, .int .i64 maxlat, .int .i64 zoom, .int .i64 lon, .int .i64 lat] 63);have HB := Lib.hid hq;have SC := fun w => Lib.hid (sects_any r0 r1 m0 m1 l0 l1 d0 d1 adr ent con clu inn out kind minz maxz minlon minlat maxlon maxlat zoom lon lat w);clear hE;obtain ⟨s0, hs0⟩ : ∃ t, decide (r0 + r1 ≤ 1099511627776) = t := ⟨_, rfl⟩;have F0 := fun w => Lib.hid (sfits_any r0 r1 s0 hs0 w);replace hs0 := Lib.hid hs0;obtain ⟨s1, hs1⟩ : ∃ t, decide (m0 + m1 ≤ 1099511627776) = t := ⟨_, rfl⟩;have F1 := fun w => Lib.hid (sfits_any m0 m1 s1 hs1 w);replace hs1 := Lib.hid hs1;obtain ⟨s2, hs2⟩ : ∃ t, decide (l0 + l1 ≤ 1099511627776) = t := ⟨_, rfl⟩;have F2 := fun w => Lib.hid (sfits_any l0 l1 s2 hs2 w);replace hs2 := Lib.hid hs2;obtain ⟨s3, hs3⟩ : ∃ t, decide (d0 + d1 ≤ 1099511627776) = t := ⟨_, rfl⟩;have F3 := fun w => Lib.hid (sfits_any d0 d1 s3 hs3 w);replace hs3 := Lib.hid hs3;have W0 := fun A w hr => Lib.hid (within_any (0) (26) [minz, maxz, zoom] (by simp) A 3 w hr);obtain ⟨u0, hu0⟩ : ∃ t, ([minz, maxz, zoom].all fun x => decide (0 ≤ x) && decide (x ≤ 26)) = t := ⟨_, rfl⟩;rw [hu0] at W0;replace hu0 := Lib.hid hu0;have W1 := fun A w hr => Lib.hid (within_any (-1800000000) (1800000000) [minlon, maxlon, lon] (by simp) A 3 w hr);obtain ⟨u1, hu1⟩ : ∃ t, ([minlon, maxlon, lon].all fun x => decide (-1800000000 ≤ x) && decide (x ≤ 1800000000)) = t := ⟨_, rfl⟩;rw [hu1] at W1;replace hu1 := Lib.hid hu1;have W2 := fun A w hr => Lib.hid (within_any (-900000000) (900000000) [minlat, maxlat, lat] (by simp) A 3 w hr);obtain ⟨u2, hu2⟩ : ∃ t, ([minlat, maxlat, lat].all fun x => decide (-900000000 ≤ x) && decide (x ≤ 900000000)) = t := ⟨_, rfl⟩;rw [hu2] at W2;replace hu2 := Lib.hid hu2;go_enter Tryz.func80, Tryz.ntmps80;go_wp2_with (refine wpList_load_mid rfl 63 _ rfl w.heap.size 0 rfl [.int .u64 (r0 : Int), .int .u64 (r1 : Int), .int .u64 (m0 : Int), .int .u64 (m1 : Int), .int .u64 (l0 : Int), .int .u64 (l1 : Int), .int .u64 (d0 : Int), .int .u64 (d1 : Int), .int .u64 (adr : Int), .int .u64 (ent : Int), .int .u64 (con : Int), .bool clu, .int .u8 (inn : Int), .int .u8 (out : Int), .int .u8 (kind : Int), .int .i64 minz, .int .i64 maxz, .int .i64 minlon, .int .i64 minlat, .int .i64 maxlon, .int .i64 maxlat, .int .i64 zoom, .int .i64 lon, .int .i64 lat] _ (rg_blk hq) Tryz.underlying63 rfl (by kernel_rfl) ?_)
  refine (SC _).out.mono ?_;rintro e w1 ⟨rfl, hu⟩;clear hq SC;replace HB := Lib.hid (hu.obj HB.out);have HU1 := Lib.hid (((Up.refl w).alloc (.cells #[.int .u64 (r0 : Int), .int .u64 (r1 : Int), .int .u64 (m0 : Int), .int .u64 (m1 : Int), .int .u64 (l0 : Int), .int .u64 (l1 : Int), .int .u64 (d0 : Int), .int .u64 (d1 : Int), .int .u64 (adr : Int), .int .u64 (ent : Int), .int .u64 (con : Int), .bool clu, .int .u8 (inn : Int), .int .u8 (out : Int), .int .u8 (kind : Int), .int .i64 minz, .int .i64 maxz, .int .i64 minlon, .int .i64 minlat, .int .i64 maxlon, .int .i64 maxlat, .int .i64 zoom, .int .i64 lon, .int .i64 lat] 63)).trans hu);clear hu;go_wp2_with fail;refine wp_loop_rounds 5 ?_;rw [rounds_succ];have n := heap_alloc_new w1 (.cells #[.int .u64 (r0 : Int), .int .u64 (r1 : Int)] 61);have n0 := blkc n 0 _ rfl;have n1 := blkc n 1 _ rfl;clear n;have ix := sec_ix0 r0 r1 m0 m1 l0 l1 d0 d1 w1;go_wp2_with fail;refine (F0 _).out.mono ?_;rintro e w2 ⟨rfl, hu⟩;have hu' := ((Up.refl w1).alloc (.cells #[.int .u64 (r0 : Int), .int .u64 (r1 : Int)] 61)).trans hu;have HU2 := Lib.hid (HU1.out.trans hu');replace HB := Lib.hid (hu'.obj HB.out);clear hu hu' n0 n1 ix F0 HU1;cases s0;case false =>
    have := of_decide_eq_false hs0.out;obtain rfl : E = 8 := by rw [← HE.out, if_pos (by omega)]
    go_wp2_with fail;go_ret;exact ⟨rfl, HU2.out⟩
  replace hs0 := of_decide_eq_true hs0.out;go_wp2_with fail;rw [rounds_succ];have n := heap_alloc_new w2 (.cells #[.int .u64 (m0 : Int), .int .u64 (m1 : Int)] 61);have n0 := blkc n 0 _ rfl;have n1 := blkc n 1 _ rfl;clear n;have ix := sec_ix1 r0 r1 m0 m1 l0 l1 d0 d1 w2;go_wp2_with fail;refine (F1 _).out.mono ?_;rintro e w3 ⟨rfl, hu⟩;have hu' := ((Up.refl w2).alloc (.cells #[.int .u64 (m0 : Int), .int .u64 (m1 : Int)] 61)).trans hu;have HU3 := Lib.hid (HU2.out.trans hu');replace HB := Lib.hid (hu'.obj HB.out);clear hu hu' n0 n1 ix F1 HU2;cases s1;case false =>
    have := of_decide_eq_false hs1.out;obtain rfl : E = 8 := by rw [← HE.out, if_pos (by omega)]
    go_wp2_with fail;go_ret;exact ⟨rfl, HU3.out⟩
  replace hs1 := of_decide_eq_true hs1.out;go_wp2_with fail;rw [rounds_succ];have n := heap_alloc_new w3 (.cells #[.int .u64 (l0 : Int), .int .u64 (l1 : Int)] 61);have n0 := blkc n 0 _ rfl;have n1 := blkc n 1 _ rfl;clear n;have ix := sec_ix2 r0 r1 m0 m1 l0 l1 d0 d1 w3;go_wp2_with fail;refine (F2 _).out.mono ?_;rintro e w4 ⟨rfl, hu⟩;have hu' := ((Up.refl w3).alloc (.cells #[.int .u64 (l0 : Int), .int .u64 (l1 : Int)] 61)).trans hu;have HU4 := Lib.hid (HU3.out.trans hu');replace HB := Lib.hid (hu'.obj HB.out);clear hu hu' n0 n1 ix F2 HU3;cases s2;case false =>
    have := of_decide_eq_false hs2.out;obtain rfl : E = 8 := by rw [← HE.out, if_pos (by omega)]
    go_wp2_with fail;go_ret;exact ⟨rfl, HU4.out⟩
  replace hs2 := of_decide_eq_true hs2.out;go_wp2_with fail;rw [rounds_succ];have n := heap_alloc_new w4 (.cells #[.int .u64 (d0 : Int), .int .u64 (d1 : Int)] 61);have n0 := blkc n 0 _ rfl;have n1 := blkc n 1 _ rfl;clear n;have ix := sec_ix3 r0 r1 m0 m1 l0 l1 d0 d1 w4;go_wp2_with fail;refine (F3 _).out.mono ?_;rintro e w5 ⟨rfl, hu⟩;have hu' := ((Up.refl w4).alloc (.cells #[.int .u64 (d0 : Int), .int .u64 (d1 : Int)] 61)).trans hu;have HU5 := Lib.hid (HU4.out.trans hu');replace HB := Lib.hid (hu'.obj HB.out);clear hu hu' n0 n1 ix F3 HU4;cases s3;case false =>
    have := of_decide_eq_false hs3.out;obtain rfl : E = 8 := by rw [← HE.out, if_pos (by omega)]
    go_wp2_with fail;go_ret;exact ⟨rfl, HU5.out⟩
  replace hs3 := of_decide_eq_true hs3.out;go_wp2_with fail;rw [rounds_succ];have h2 := HE.out;rw [if_neg (by omega)] at h2;replace HE := Lib.hid h2;clear h2 hs0 hs1 hs2 hs3;have c12 := blkc HB.out 12 _ rfl;have c13 := blkc HB.out 13 _ rfl;have c14 := blkc HB.out 14 _ rfl;by_cases t0 : 4 < inn
  · have g0 : decide ((4 : Int) < (inn : Int)) = true := decide_eq_true (by omega);obtain rfl : E = 14 := by rw [← HE.out, if_pos (by omega)]
    go_wp2_with fail;go_ret;exact ⟨rfl, HU5.out⟩
  have g0 : decide ((4 : Int) < (inn : Int)) = false := decide_eq_false (by omega);by_cases t1 : 4 < out
  · have g1 : decide ((4 : Int) < (out : Int)) = true := decide_eq_true (by omega);obtain rfl : E = 14 := by rw [← HE.out, if_pos (by omega)]
    go_wp2_with fail;go_ret;exact ⟨rfl, HU5.out⟩
  have g1 : decide ((4 : Int) < (out : Int)) = false := decide_eq_false (by omega);by_cases t2 : 5 < kind
  · have g2 : decide ((5 : Int) < (kind : Int)) = true := decide_eq_true (by omega);obtain rfl : E = 14 := by rw [← HE.out, if_pos (by omega)]
    go_wp2_with fail;go_ret;exact ⟨rfl, HU5.out⟩
  have g2 : decide ((5 : Int) < (kind : Int)) = false := decide_eq_false (by omega);have h2 := HE.out;rw [if_neg (by omega)] at h2;replace HE := Lib.hid h2;clear h2 t0 t1 t2;have k00 := blkc HB.out 15 (.int .i64 minz) rfl;have k01 := blkc HB.out 16 (.int .i64 maxz) rfl;have k02 := blkc HB.out 21 (.int .i64 zoom) rfl;go_wp2_with fail;refine (W0 _ _ (rd_new w5 3 #[.int .i64 minz, .int .i64 maxz, .int .i64 zoom] 3 rfl (by unfold maxLen; omega))).out.mono ?_;rintro e w6 ⟨rfl, hw⟩;have hu : Up w5 w6 := by rw [← hw]; exact (Up.refl _).alloc _
  have HU6 := Lib.hid (HU5.out.trans hu);replace HB := Lib.hid (hu.obj HB.out);replace k00 := hu.cell k00;replace k01 := hu.cell k01;clear hu hw W0 HU5 c12 c13 c14 g0 g1 g2 k02;cases u0;case false =>
    have := mt (all3 (0) (26) minz maxz zoom).2 (by rw [hu0.out]; decide);obtain rfl : E = 8 := by rw [← HE.out, if_pos (by omega)]
    go_wp2_with fail;go_ret;exact ⟨rfl, HU6.out⟩
  have p0 := (all3 (0) (26) minz maxz zoom).1 hu0.out;by_cases v0 : maxz < minz
  · have x0 : decide (maxz < minz) = true := decide_eq_true v0;obtain rfl : E = 8 := by rw [← HE.out, if_pos (by omega)]
    go_wp2_with fail;go_ret;exact ⟨rfl, HU6.out⟩
  have x0 : decide (maxz < minz) = false := decide_eq_false v0;have h2 := HE.out;rw [if_neg (by omega)] at h2;replace HE := Lib.hid h2;clear h2 v0 p0 hu0;have k10 := blkc HB.out 17 (.int .i64 minlon) rfl;have k11 := blkc HB.out 19 (.int .i64 maxlon) rfl;have k12 := blkc HB.out 22 (.int .i64 lon) rfl;go_wp2_with fail;refine (W1 _ _ (rd_new w6 3 #[.int .i64 minlon, .int .i64 maxlon, .int .i64 lon] 3 rfl (by unfold maxLen; omega))).out.mono ?_;rintro e w7 ⟨rfl, hw⟩;have hu : Up w6 w7 := by rw [← hw]; exact (Up.refl _).alloc _
  have HU7 := Lib.hid (HU6.out.trans hu);replace HB := Lib.hid (hu.obj HB.out);replace k10 := hu.cell k10;replace k11 := hu.cell k11;clear hu hw W1 HU6 k00 k01 x0 k12;cases u1;case false =>
    have := mt (all3 (-1800000000) (1800000000) minlon maxlon lon).2 (by rw [hu1.out]; decide);obtain rfl : E = 8 := by rw [← HE.out, if_pos (by omega)]
    go_wp2_with fail;go_ret;exact ⟨rfl, HU7.out⟩
  have p1 := (all3 (-1800000000) (1800000000) minlon maxlon lon).1 hu1.out;by_cases v1 : maxlon < minlon
  · have x1 : decide (maxlon < minlon) = true := decide_eq_true v1;obtain rfl : E = 8 := by rw [← HE.out, if_pos (by omega)]
    go_wp2_with fail;go_ret;exact ⟨rfl, HU7.out⟩
  have x1 : decide (maxlon < minlon) = false := decide_eq_false v1;have h2 := HE.out;rw [if_neg (by omega)] at h2;replace HE := Lib.hid h2;clear h2 v1 p1 hu1;have k20 := blkc HB.out 18 (.int .i64 minlat) rfl;have k21 := blkc HB.out 20 (.int .i64 maxlat) rfl;have k22 := blkc HB.out 23 (.int .i64 lat) rfl;go_wp2_with fail;refine (W2 _ _ (rd_new w7 3 #[.int .i64 minlat, .int .i64 maxlat, .int .i64 lat] 3 rfl (by unfold maxLen; omega))).out.mono ?_;rintro e w8 ⟨rfl, hw⟩;have hu : Up w7 w8 := by rw [← hw]; exact (Up.refl _).alloc _
  have HU8 := Lib.hid (HU7.out.trans hu);replace HB := Lib.hid (hu.obj HB.out);replace k20 := hu.cell k20;replace k21 := hu.cell k21;clear hu hw W2 HU7 k10 k11 x1 k22;cases u2;case false =>
    have := mt (all3 (-900000000) (900000000) minlat maxlat lat).2 (by rw [hu2.out]; decide);obtain rfl : E = 8 := by rw [← HE.out, if_pos (by omega)]
    go_wp2_with fail;go_ret;exact ⟨rfl, HU8.out⟩
  have p2 := (all3 (-900000000) (900000000) minlat maxlat lat).1 hu2.out;by_cases v2 : maxlat < minlat
  · have x2 : decide (maxlat < minlat) = true := decide_eq_true v2;obtain rfl : E = 8 := by rw [← HE.out, if_pos (by omega)]
    go_wp2_with fail;go_ret;exact ⟨rfl, HU8.out⟩
  have x2 : decide (maxlat < minlat) = false := decide_eq_false v2;have h2 := HE.out;rw [if_neg (by omega)] at h2;replace HE := Lib.hid h2;clear h2 v2 p2 hu2;obtain rfl : E = 0 := HE.out.symm;go_wp2_with fail;go_ret;exact ⟨rfl, HU8.out⟩
theorem hchk_any (h : Hdr) (w : World) :
    Calls Tryz.prog 80 #[hdrV h] w fun e w' => e = .returned (.int .i64 (hdrE h)) ∧ Up w w' := by
  obtain ⟨r0, r1, m0, m1, l0, l1, d0, d1, adr, ent, con, clu, inn, out, kind, minz, maxz, minlon, minlat, maxlon, maxlat, zoom, lon, lat⟩ := h;exact hchk_if r0 r1 m0 m1 l0 l1 d0 d1 adr ent con clu inn out kind minz maxz minlon minlat maxlon maxlat zoom lon lat w
theorem hchk_good (h : Hdr) (hh : hdrE h = 0) (w : World) :
    Calls Tryz.prog 80 #[hdrV h] w fun e w' => e = .returned (.int .i64 0) ∧ Up w w' := hh ▸ hchk_any h w
end Go.Proofs.YtbfieomjobbhoaaGreatDoor
/- Walks: tileid.Zoom; chart.Len, Zooms. -/
namespace Go.Proofs.YtbfieomjobbhoaaGreatDoor
open Go.RowKit Go.Gz Go.Shelf

set_option maxRecDepth 100000
theorem zoom_any (id : Nat) (h : id < 6004799503160661) (w : World) :
    Calls Tryz.prog 92 #[.int .u64 (id : Int)] w fun e w' => e = .returned (.int .i64 (zoomV id)) ∧ Up w w' := by
  have h1 : ¬ (6004799503160661 : Int) ≤ (id : Int) := by omega
  have e1 : IntKind.u64.wrap (3 * (id : Int)) = ((3 * id : Nat) : Int) := by rw [IntWalk.u64_in _ (by omega)]; omega
  obtain ⟨x, hx⟩ : ∃ x, 3 * id + 1 = x := ⟨_, rfl⟩;have e2 : IntKind.u64.wrap (((3 * id : Nat) : Int) + 1) = (x : Int) := by rw [IntWalk.u64_in _ (by omega)]; omega
  have hz : zoomV id = (((Lib.bitLen x - 1) / 2 : Nat) : Int) := by unfold zoomV; rw [if_neg (by omega), hx]
  have BL := fun w => Lib.hid (Tryz.bits_Len64 (x : Int) w (by omega) (by omega));rw [Int.toNat_natCast] at BL;have hb := Lib.bitLen_le x 54 (by omega) (by omega);have hp := bitLen_mono (a := 1) (b := x) (by omega) (by omega) (by omega);have hp1 : Lib.bitLen 1 = 1 := by decide
  rw [hp1] at hp;rw [hz];generalize Lib.bitLen x = bl at *;have e3 : IntKind.i64.wrap ((bl : Int) - 1) = ((bl - 1 : Nat) : Int) := by rw [IntWalk.i64_in _ (by omega)]; omega
  generalize 3 * id = y at *;obtain ⟨z, hz2⟩ : ∃ z, bl - 1 = z := ⟨_, rfl⟩;rw [hz2] at e3 ⊢;have e4 : IntKind.i64.wrap ((z : Int).tdiv 2) = ((z / 2 : Nat) : Int) := by
    rw [show (z : Int).tdiv 2 = ((z / 2 : Nat) : Int) from rfl];exact IntWalk.i64_in _ (by omega)
  have hzl : z ≤ 54 := by omega
  clear hx hb hp hp1 hz hz2;go_enter Tryz.func92, Tryz.ntmps92;go_wp2_with fail;refine (BL _).out.mono ?_;rintro e w1 ⟨rfl, rfl⟩;go_wp2_with fail;go_ret;exact ⟨ret_int (by omega), Up.refl _⟩
theorem len_any (A : Option Addr) (n c : Nat) (w : World) :
    Calls Tryz.prog 123 #[.agg #[.slice A n c]] w fun e w' => e = .returned (.int .i64 (n : Int)) ∧ Up w w' := by
  go_enter Tryz.func123, Tryz.ntmps123;go_wp2_with fail;go_ret;exact ⟨rfl, (Up.refl w).alloc _⟩
end Go.Proofs.YtbfieomjobbhoaaGreatDoor
/- Walk: chart.Zooms. -/
namespace Go.Proofs.YtbfieomjobbhoaaGreatDoor
open Go.RowKit Go.Gz Go.Shelf

set_option maxRecDepth 100000
set_option maxHeartbeats 4000000 in
theorem zooms_any (L : Items) (hg : Gz.Good L) (hl : L.length ≤ 100000) (A : Option Addr) (c : Nat) (w : World) (hr : Rd w 2 A L.length c (itV L)) :
    Calls Tryz.prog 125 #[.agg #[.slice A L.length c]] w fun e w' => e = .returned (.tuple #[.int .i64 (minZ L), .int .i64 (maxZ L), .bool (decide (L ≠ []))]) ∧ Up w w' := by
  rcases List.eq_nil_or_concat L with hL | ⟨pre, y, hL⟩
  · subst hL;show Calls Tryz.prog 125 #[.agg #[.slice A 0 c]] w fun e w' => e = .returned (.tuple #[.int .i64 0, .int .i64 0, .bool false]) ∧ Up w w'
    clear hr hl;go_enter Tryz.func125, Tryz.ntmps125;go_wp2_with fail;refine bodyPost_ret (results_tmp3 rfl _ _ _) rfl ?_;exact ⟨rfl, (Up.refl w).alloc _⟩
  · rw [List.concat_eq_append] at hL;have hne : L ≠ [] := by rw [hL]; simp
    rw [decide_eq_true hne];obtain ⟨x, r, hx⟩ : ∃ x r, L = x :: r := by
      cases L with
      | nil => exact absurd rfl hne
      | cons x r => exact ⟨x, r, rfl⟩
    have hmin : minZ L = zoomV x.1 := by rw [hx]; rfl
    have hmax : maxZ L = zoomV y.1 := by unfold maxZ; rw [hL]; simp
    rw [hmin, hmax];have hm : L.length = pre.length + 1 := by rw [hL]; simp
    obtain ⟨b, o, rfl, g0, g0'⟩ := hr.item (k := 0) (by omega);obtain ⟨b', o', eb, g1, g1'⟩ := hr.item (k := pre.length) (by omega);injection eb with eb;injection eb with eb1 eb2 _;subst eb1 eb2;have e0 : L[0]'(by omega) = x := by simp [hx]
    have e1 : L[pre.length]'(by omega) = y := by
      have : L[pre.length]? = some y := by rw [hL]; simp
      rw [List.getElem?_eq_getElem (by omega)] at this;injection this
    rw [e0] at g0;rw [e1] at g1;have Z0 := fun w => Lib.hid (zoom_any x.1 (hg.id x (by rw [hx]; simp)) w);have Z1 := fun w => Lib.hid (zoom_any y.1 (hg.id y (by rw [hL]; simp)) w);rw [Nat.zero_mul, Nat.add_zero] at g0;generalize x.1 = i0 at *;generalize y.1 = i1 at *;generalize zoomV i0 = z0 at *;generalize zoomV i1 = z1 at *;have hnc := hr.2.1;clear g0' g1' hr hg hne hmin hmax e0 e1 hL hx;generalize hn : L.length = n at *;generalize pre.length = m at *;have hlt : (m : Int) < (n : Int) := by omega
    have h0 : (0 : Int) < (n : Int) := by omega
    have h0n : 0 < n := by omega
    have b0 : ((n : Int) == 0) = false := by rw [beq_eq_false_iff_ne]; omega
    have ew : IntKind.i64.wrap ((n : Int) - 1) = (m : Int) := by rw [IntWalk.i64_in _ (by omega)]; omega
    have hu0 := (Up.refl w).alloc (.cells #[.slice (some ⟨b, o, none⟩) n c] 33);have c0 := (blk_one (heap_alloc_new w (.cells #[.slice (some ⟨b, o, none⟩) n c] 33))).1;have HU := Lib.hid hu0;replace g0 := hu0.cell g0;replace g1 := hu0.cell g1;clear hu0 hm hn;go_enter Tryz.func125, Tryz.ntmps125;go_wp2_with fail;obtain ⟨X, hX⟩ : ∃ x, w.alloc (.cells #[.slice (some ⟨b, o, none⟩) n c] 33) = x := ⟨_, rfl⟩;rw [hX] at c0 HU g0 g1 ⊢;clear hX;have MK := Lib.hid (fun w' (h : Up X w') => (⟨h, h.cell c0, h.cell g0, h.cell g1⟩ : Up X w' ∧ w'.cell? ⟨w.heap.size, 0, none⟩ = some (.slice (some ⟨b, o, none⟩) n c) ∧ w'.cell? ⟨b, o, none⟩ = some (.int .u64 (i0 : Int)) ∧ w'.cell? ⟨b, o + m * 2, none⟩ = some (.int .u64 (i1 : Int))));clear c0 g0 g1;refine wp_region_held_drew (S := fun w' => Up X w' ∧ w'.cell? ⟨w.heap.size, 0, none⟩ = some (.slice (some ⟨b, o, none⟩) n c) ∧ w'.cell? ⟨b, o, none⟩ = some (.int .u64 (i0 : Int)) ∧ w'.cell? ⟨b, o + m * 2, none⟩ = some (.int .u64 (i1 : Int))) (by kernel_rfl) ?_ (fun hHeld => ?_)
    · exact MK.out _ (Up.refl X).drew
    refine tk 0 rfl ?_;(try simp only [Act.put, tz1, tz2, tz3]);refine tk 1 rfl ?_;(try simp only [Act.put, tz1, tz2, tz3]);refine tk 2 rfl ?_;(try simp only [Act.put, tz1, tz2, tz3]);refine tk 3 rfl ?_;(try simp only [Act.put, tz1, tz2, tz3]);refine tk 4 rfl ?_;(try simp only [Act.put, tz1, tz2, tz3]);refine tk 6 rfl ?_;(try simp only [Act.put, tz1, tz2, tz3]);refine tk 7 rfl ?_;(try simp only [Act.put, tz1, tz2, tz3]);refine tk 8 rfl ?_;(try simp only [Act.put, tz1, tz2, tz3]);refine tk 9 rfl ?_;(try simp only [Act.put, tz1, tz2, tz3]);refine tk 10 rfl ?_;(try simp only [Act.put, tz1, tz2, tz3]);refine tk 11 rfl ?_;(try simp only [Act.put, tz1, tz2, tz3]);refine tk 12 rfl ?_;(try simp only [Act.put, tz1, tz2, tz3]);refine rd1 5 rfl (fun K hK => ?_);go_simp;go_at_call 92;refine (Z0 _).out.mono ?_;rintro e w1 ⟨rfl, huw1⟩;refine hK.out _ _ ?_ (fun hHeld2 => ?_)
    · exact MK.out _ (Up.trans (And.left (by assumption)) (by assumption))
    clear hK K;(try simp only [Act.put, tz1, tz2, tz3]);refine rd1 13 rfl (fun K hK => ?_);go_simp;go_at_call 92;refine (Z1 _).out.mono ?_;rintro e w2 ⟨rfl, huw2⟩;refine hK.out _ _ ?_ (fun hHeld2 => ?_)
    · exact MK.out _ (Up.trans (And.left (by assumption)) (by assumption))
    clear hK K;(try simp only [Act.put, tz1, tz2, tz3]);refine tk 14 rfl ?_;(try simp only [Act.put, tz1, tz2, tz3]);refine tk 15 rfl ?_;(try simp only [Act.put, tz1, tz2, tz3]);refine tk 16 rfl ?_;(try simp only [Act.put, tz1, tz2, tz3]);refine wpAnyH_done (by kernel_rfl) ?_ _;go_wp2_with fail;refine bodyPost_ret (results_tmp3 rfl _ _ _) rfl ?_;exact ⟨rfl, HU.out.trans hHeld2.1⟩
end Go.Proofs.YtbfieomjobbhoaaGreatDoor
/- Walk: chart.Items. -/
namespace Go.Proofs.YtbfieomjobbhoaaGreatDoor
open Go.RowKit Go.Gz Go.Shelf

set_option maxRecDepth 100000
theorem items_any (L : Items) (hl : L.length ≤ 100000) (A : Option Addr) (c : Nat) (w : World) (hr : Rd w 2 A L.length c (itV L)) :
    Calls Tryz.prog 16 #[.agg #[.slice A L.length c]] w (OwnE w 54 2 L.length (itV L)) := by
  have CL := fun w hr => Lib.hid (cloneCh_any A L.length c (itV L) (itV_one _) (by omega) w hr);have HR := Lib.hid hr;clear hr;generalize L.length = n at *;go_enter Tryz.func16, Tryz.ntmps16;go_wp2_with fail;refine (CL _ (HR.out.up ((Up.refl w).alloc _))).out.mono ?_;rintro e w1 ⟨v1, rfl, ho1, hu1⟩;go_wp2_with fail;go_ret;exact ⟨_, rfl, own_low' ho1 (by simp), ((Up.refl w).alloc _).trans hu1⟩
end Go.Proofs.YtbfieomjobbhoaaGreatDoor
