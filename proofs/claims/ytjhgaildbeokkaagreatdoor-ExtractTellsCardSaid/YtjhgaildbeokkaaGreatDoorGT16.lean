/- Walk: fnv.Sum. -/
import Derived.Test.YtjhgaildbeokkaaGreatDoorGT15
import Derived.Test.YtjhgaildbeokkaaGreatDoorGT09
import Derived.Laws.Bits64
import Derived.Test.YtjhgaildbeokkaaGreatDoorGT01
import Derived.LoopN
import Derived.Test.YtjhgaildbeokkaaGreatDoorShelf
namespace Go.Proofs.YtjhgaildbeokkaaGreatDoor
open Go.RowKit Go.Gz Go.Shelf

set_option maxRecDepth 100000
def fnvS (h c : Nat) : Nat := (Nat.xor h c * 1099511628211) % 18446744073709551616
theorem fnvS_lt (h c : Nat) : fnvS h c < 18446744073709551616 := Nat.mod_lt _ (by omega)
theorem fnvV_eq (s : Bs) : fnvV s = s.foldl (fun h c => fnvS h c.toNat) 14695981039346656037 := rfl
theorem blkc {w : World} {g : Nat} {cs : Array Value} {t : TypeId} (h : w.heap[g]? = some (.cells cs t (0, 0))) (j : Nat) (v : Value) (hv : cs[j]? = some v) : w.cell? ⟨g, j, none⟩ = some v := (cell_of_row w g j cs t _ h).trans hv
theorem blkf {w : World} {g : Nat} {cs : Array Value} {t : TypeId} (h : w.heap[g]? = some (.cells cs t (0, 0))) (j : Nat) : w.frozen? ⟨g, j, none⟩ = false := frozen_of_row w g j cs t h
theorem add_any (h c : Nat) (hh : h < 18446744073709551616) (hc : c < 256) (w : World) :
    Calls Tryz.prog 307 #[.int .u64 h, .int .u8 c] w fun e w' => e = .returned (.int .u64 (fnvS h c : Nat)) ∧ w = w' := by
  have hx : Nat.xor h c < 2 ^ 64 := Nat.xor_lt_two_pow (by omega) (by omega);have hb : bits BinOp.xor IntKind.u64 (h : Int) (c : Int) = ((Nat.xor h c : Nat) : Int) := by
    rw [bits_xor_u64_nat h c (by omega) (by omega)]; rfl
  have hw : IntKind.u64.wrap (((Nat.xor h c : Nat) : Int) * 1099511628211) = ((fnvS h c : Nat) : Int) := by
    unfold fnvS;simp only [IntKind.wrap, IntKind.bits, IntKind.signed];simp
  go_enter Tryz.func307, Tryz.ntmps307;go_wp2_with fail;go_ret;exact ⟨rfl, rfl⟩
set_option maxHeartbeats 4000000 in
theorem fold_any (s : Bs) (hl : s.length ≤ 1000000) (h : Nat) (hh : h < 18446744073709551616) (w : World) :
    Calls Tryz.prog 308 #[.agg #[.int .u64 h, .func (.func 307) #[] #[]], .string ⟨s.toArray⟩] w fun e w' => e = .returned (.int .u64 (s.foldl (fun h c => fnvS h c.toNat) h : Nat)) ∧ Up w w' := by
  generalize hT : s.foldl (fun h c => fnvS h c.toNat) h = T;have HT := Lib.hid hT;clear hT;have hq := heap_alloc_new w (.cells #[.int .u64 h, .func (.func 307) #[] #[]] 434);have HQ := Lib.hid hq;go_enter Tryz.func308, Tryz.ntmps308;go_wp2_with fail;go_loopg [8] s.length (fun gk i wr => ∃ k h : Nat, k + gk = s.length ∧ i = .int .i64 k ∧ h < 18446744073709551616 ∧ (s.drop k).foldl (fun h c => fnvS h c.toNat) h = T ∧ wr.heap[w.heap.size]? = some (.cells #[.int .u64 h, .func (.func 307) #[] #[]] 434 (0, 0)) ∧ Up w wr)
  case atStart => exact ⟨0, h, by omega, rfl, hh, by simpa using HT.out, HQ.out, (Up.refl w).alloc _⟩
  case round =>
    obtain ⟨k, y, hk, rfl, hy, hd, ho, hu⟩ := hrel;have HU := Lib.hid hu;have HO := Lib.hid ho;have c0 := blkc ho 0 _ rfl;have c1 := blkc ho 1 _ rfl;have f0 := blkf ho 0;by_cases hlt : k < s.length
    · obtain ⟨m, rfl⟩ : ∃ m, gk = m + 1 := ⟨gk - 1, by omega⟩;rw [List.drop_eq_getElem_cons hlt, List.foldl_cons] at hd;have HD := Lib.hid hd;have hltI : (k : Int) < (s.length : Int) := by omega
      have AD := fun w => Lib.hid (add_any y s[k].toNat hy (UInt8.toNat_lt _) w);clear hd ho hu;go_wp2_with fail;go_region_with (go_at_call 307; refine (AD _).out.mono ?_; rintro e w1 ⟨rfl, rfl⟩)
      all_goals
        go_wp2_with fail;go_roundg m
        case measure => omega
        case rel => exact ⟨k + 1, fnvS y s[k].toNat, by omega, by go_num, fnvS_lt _ _, HD.out, heap_setCell_same wr w.heap.size 0 _ _ _ HO.out, (Up.of (HU.out.below.setCell (p := ⟨w.heap.size, 0, none⟩) (by simp) _)).drew⟩
    · obtain rfl : k = s.length := by omega
      obtain rfl : gk = 0 := by omega
      rw [List.drop_length, List.foldl_nil] at hd;subst hd;clear hlt hu ho hk;go_wp2_with fail;go_ret;exact ⟨rfl, HU.out⟩
set_option maxHeartbeats 1000000 in
theorem sum_any (s : Bs) (hl : s.length ≤ 1000000) (w : World) :
    Calls Tryz.prog 254 #[.string ⟨s.toArray⟩] w fun e w' => e = .returned (.int .u64 (fnvV s : Nat)) ∧ Up w w' := by
  have FD := fun w => Lib.hid (fold_any s hl 14695981039346656037 (by omega) w);rw [← fnvV_eq] at FD;generalize fnvV s = T at *;go_enter Tryz.func254, Tryz.ntmps254;go_wp2_with fail;refine (FD _).out.mono ?_;rintro e w1 ⟨rfl, hu⟩;go_wp2_with fail;go_ret;exact ⟨rfl, hu⟩
end Go.Proofs.YtjhgaildbeokkaaGreatDoor
/- Walks: little.Unsigned; header.within, put, degrees, sections, End, fits. -/
namespace Go.Gz
/-- numbers with a sign, as cells -/
def inV (l : List Int) : List Value := l.map fun x => Value.int .i64 x
theorem inV_len (l : List Int) : (inV l).length = l.length := by simp [inV]
theorem inV_get (l : List Int) {k : Nat} (hk : k < l.length) : (inV l)[k]? = some (.int .i64 l[k]) := by
  unfold inV; rw [List.getElem?_map, List.getElem?_eq_getElem hk]; rfl
end Go.Gz
namespace Go.Proofs.YtjhgaildbeokkaaGreatDoor
open Go.RowKit Go.Gz Go.Shelf

set_option maxRecDepth 100000
theorem uns_any (v : Int) (h1 : -2147483648 ≤ v) (h2 : v < 2147483648) (w : World) :
    Calls Tryz.prog 262 #[.int .i64 v, .int .i64 4] w fun e w' => e = .returned (.tuple #[.int .u64 (uns4 v : Nat), .int .i64 0]) ∧ w = w' := by
  have FT := fun w => Lib.hid (fits_any 4 w);rw [decide_eq_true (by omega : (1 : Int) ≤ 4), decide_eq_true (by omega : (4 : Int) ≤ 8)] at FT;simp only [Bool.and_self] at FT;have e1 : IntKind.u64.wrap (IntKind.u64.wrap v * 4294967296) / 4294967296 = ((uns4 v : Nat) : Int) := by
    have g : ∀ x : Int, IntKind.u64.wrap x = x % 18446744073709551616 := fun x => by simp [IntKind.wrap, IntKind.bits, IntKind.signed]
    rw [g, g];unfold uns4;omega
  go_enter Tryz.func262, Tryz.ntmps262;go_wp2_with fail;refine (FT _).out.mono ?_;rintro e w1 ⟨rfl, rfl⟩;go_wp2_with fail;refine bodyPost_ret (v := .tuple #[.int .u64 (uns4 v : Nat), .int .i64 0]) (by simp [results, Tryz.results262, go_sem]) rfl ?_;exact ⟨rfl, rfl⟩
theorem within_any (lo hi : Int) (xs : List Int) (hl : xs.length ≤ 1000) (A : Option Addr) (c : Nat) (w : World) (hr : Rd w 1 A xs.length c (inV xs)) :
    Calls Tryz.prog 260 #[.int .i64 lo, .int .i64 hi, .slice A xs.length c] w fun e w' => e = .returned (.bool (xs.all fun x => decide (lo ≤ x) && decide (x ≤ hi))) ∧ w = w' := by
  have HR := Lib.hid hr;clear hr;generalize hT : (xs.all fun x => decide (lo ≤ x) && decide (x ≤ hi)) = T at *;have HT := Lib.hid hT;clear hT;go_enter Tryz.func260, Tryz.ntmps260;go_wp2_with fail;go_loopg [11] xs.length (fun gk i wr => ∃ k : Nat, k + gk = xs.length ∧ i = .int .i64 k ∧ ((xs.drop k).all fun x => decide (lo ≤ x) && decide (x ≤ hi)) = T ∧ w = wr)
  case atStart => exact ⟨0, by omega, rfl, by simpa using HT.out, rfl⟩
  case round =>
    obtain ⟨k, hk, rfl, hd, rfl⟩ := hrel;by_cases hlt : k < xs.length
    · obtain ⟨m, rfl⟩ : ∃ m, gk = m + 1 := ⟨gk - 1, by omega⟩;obtain ⟨b, o, u, rfl, g1, g2⟩ := HR.out.one hlt;rw [inV_get xs hlt] at g1;cases g1;rw [List.drop_eq_getElem_cons hlt, List.all_cons] at hd;generalize xs[k] = x at *;have hltI : (k : Int) < (xs.length : Int) := by omega
      by_cases h1 : lo ≤ x
      · have b1 : decide (x < lo) = false := decide_eq_false (by omega);by_cases h2 : x ≤ hi
        · have b2 : decide (hi < x) = false := decide_eq_false (by omega);rw [decide_eq_true h1, decide_eq_true h2] at hd;simp only [Bool.and_self, Bool.true_and] at hd;have HD := Lib.hid hd;clear hd h1 h2;go_wp2_with fail;go_roundg m
          case measure => omega
          case rel => exact ⟨k + 1, by omega, by go_num, HD.out, rfl⟩
        · have b2 : decide (hi < x) = true := decide_eq_true (by omega);rw [decide_eq_false h2] at hd;simp only [Bool.and_false, Bool.false_and] at hd;subst hd;clear h1 h2;go_wp2_with fail;go_ret;exact ⟨rfl, rfl⟩
      · have b1 : decide (x < lo) = true := decide_eq_true (by omega);rw [decide_eq_false h1] at hd;simp only [Bool.false_and] at hd;subst hd;clear h1;go_wp2_with fail;go_ret;exact ⟨rfl, rfl⟩
    · obtain rfl : k = xs.length := by omega
      obtain rfl : gk = 0 := by omega
      rw [List.drop_length] at hd;have hd : true = T := hd;subst hd;clear hlt hk;go_wp2_with fail;go_ret;exact ⟨rfl, rfl⟩
theorem own_low' {w : World} {b b' : Nat} {e : TypeId} {size n : Nat} {v : Value} {xs : List Value} (h : w.ownsRow b e size v n xs) (hb : b' ≤ b) : w.ownsRow b' e size v n xs := by
  refine ⟨h.1, ?_⟩;rcases h.2 with g | ⟨g, cap, cur, g1, g2, g3⟩
  · exact .inl g
  · exact .inr ⟨g, cap, cur, g1, by omega, g3⟩
def layN (n : Nat) (xs : List Nat) : Bs := xs.flatMap fun x => leB n x
theorem layN_len (n : Nat) (xs : List Nat) : (layN n xs).length = xs.length * n := by
  induction xs with
  | nil => simp [layN]
  | cons x r ih => unfold layN at *; rw [List.flatMap_cons, List.length_append, leB_len, ih, List.length_cons, Nat.add_mul]; omega
set_option maxHeartbeats 2000000 in
theorem hput_any (bs : Bs) (hl : bs.length ≤ 1000) (A : Option Addr) (c n : Nat) (h1 : 1 ≤ n) (h2 : n ≤ 8) (xs : List Nat) (hx : ∀ x ∈ xs, x < 18446744073709551616) (hxl : xs.length ≤ 100) (h0 : xs ≠ []) (A2 : Option Addr) (c2 : Nat) (w : World) (hr : Rd w 1 A bs.length c (byV bs)) (hr2 : Rd w 1 A2 xs.length c2 (nuV xs)) :
    Calls Tryz.prog 192 #[.slice A bs.length c, .int .i64 n, .slice A2 xs.length c2] w (OwnE w 5 1 (bs ++ layN n xs).length (byV (bs ++ layN n xs))) := by
  have PT := fun B hB A c x hx w hr => Lib.hid (lput_any B hB A c n h1 h2 x hx w hr);have HR := Lib.hid hr;have HR2 := Lib.hid hr2;have HX := Lib.hid hx;clear hr hr2 hx;have hln := layN_len n xs;have hmn : xs.length * n ≤ 100 * 8 := Nat.mul_le_mul hxl h2;generalize hT : bs ++ layN n xs = T at *;have hTl : T.length ≤ 2000 := by rw [← hT, List.length_append, hln]; omega
  have HT := Lib.hid hT;clear hT hln hmn;have hbl : bs.length ≤ 1000 := hl;have HBL : Hid (T.length ≤ 2000) := Lib.hid hTl;clear hTl;generalize hbn : bs.length = bn at *;go_enter Tryz.func192, Tryz.ntmps192;go_wp2_with fail;go_loopg [0, 11] xs.length (fun gk bv i wr => ∃ (k : Nat) (L : Bs) (A : Option Addr) (c : Nat), k + gk = xs.length ∧ i = .int .i64 k ∧ bv = .slice A L.length c ∧ Rd wr 1 A L.length c (byV L) ∧ L ++ layN n (xs.drop k) = T ∧ Up w wr ∧ (0 < k → wr.ownsRow w.heap.size 5 1 bv L.length (byV L)))
  case atStart => exact ⟨0, bs, A, c, by omega, rfl, by rw [hbn], by rw [hbn]; exact HR.out, by simpa using HT.out, Up.refl w, fun h => absurd h (by omega)⟩
  case round =>
    rename World => wx
    obtain ⟨k, L, A3, c3, hk, rfl, rfl, hr3, hd, hu, ho⟩ := hrel;have HU := Lib.hid hu;have HR3 := Lib.hid hr3;have hLT : L.length ≤ 2000 := by have := HBL.out; rw [← hd, List.length_append] at this; omega
    by_cases hlt : k < xs.length
    · obtain ⟨m, rfl⟩ : ∃ m, gk = m + 1 := ⟨gk - 1, by omega⟩;obtain ⟨b, o, u, rfl, g1, g2⟩ := (HR2.out.up hu).one hlt;rw [nuV_get xs hlt] at g1;cases g1;rw [List.drop_eq_getElem_cons hlt] at hd;have hxx := HX.out xs[k] (List.getElem_mem hlt);have PX := fun w hr => Lib.hid (PT L (by omega) A3 c3 xs[k] hxx w hr).out;generalize xs[k] = x at *;have hltI : (k : Int) < (xs.length : Int) := by omega
      have hd2 : (L ++ leB n x) ++ layN n (xs.drop (k + 1)) = T := by rw [← hd]; simp [layN]
      have HD := Lib.hid hd2;clear hd hd2 hr3 hu ho PT;generalize L ++ leB n x = L2 at *;generalize L.length = Ll at *;go_wp2_with fail;refine (PX _ HR3.out).out.mono ?_;rintro e w3 ⟨v3, rfl, ho3, hu3⟩;have HO3 := Lib.hid ho3;obtain ⟨A4, c4, rfl, r4⟩ := Rd.of_own ho3;have HR4 := Lib.hid r4;clear ho3 r4;go_wp2_with fail;go_roundg m
      case measure => omega
      case rel => exact ⟨k + 1, L2, A4, c4, by omega, by go_num, rfl, HR4.out, HD.out, HU.out.trans hu3, fun _ => own_low' HO3.out HU.out.le⟩
    · obtain rfl : k = xs.length := by omega
      obtain rfl : gk = 0 := by omega
      rw [List.drop_length] at hd;have hd : L = T := by rw [← hd]; simp [layN]
      subst hd;have HO := Lib.hid (ho (by have := List.length_pos_iff.2 h0; omega));clear hlt hk ho hu hr3;generalize L.length = Ll at *;go_wp2_with fail;go_ret;exact ⟨_, rfl, HO.out, HU.out⟩
def layI (xs : List Int) : Bs := xs.flatMap fun x => leB 4 (uns4 x)
theorem layI_len (xs : List Int) : (layI xs).length = xs.length * 4 := by
  induction xs with
  | nil => simp [layI]
  | cons x r ih => unfold layI at *; rw [List.flatMap_cons, List.length_append, leB_len, ih, List.length_cons, Nat.add_mul]; omega
set_option maxHeartbeats 2000000 in
theorem hdeg_any (bs : Bs) (hl : bs.length ≤ 1000) (A : Option Addr) (c : Nat) (xs : List Int) (hx : ∀ x ∈ xs, -2147483648 ≤ x ∧ x < 2147483648) (hxl : xs.length ≤ 100) (h0 : xs ≠ []) (A2 : Option Addr) (c2 : Nat) (w : World) (hr : Rd w 1 A bs.length c (byV bs)) (hr2 : Rd w 1 A2 xs.length c2 (inV xs)) :
    Calls Tryz.prog 193 #[.slice A bs.length c, .slice A2 xs.length c2] w (OwnE w 5 1 (bs ++ layI xs).length (byV (bs ++ layI xs))) := by
  have PT := fun B hB A c x hx w hr => Lib.hid (lput_any B hB A c 4 (by omega) (by omega) x hx w hr);rw [show ((4 : Nat) : Int) = 4 from rfl] at PT;have UN := fun v h1 h2 w => Lib.hid (uns_any v h1 h2 w);have HR := Lib.hid hr;have HR2 := Lib.hid hr2;have HX := Lib.hid hx;clear hr hr2 hx;have hln := layI_len xs;generalize hT : bs ++ layI xs = T at *;have hTl : T.length ≤ 2000 := by rw [← hT, List.length_append, hln]; omega
  have HT := Lib.hid hT;clear hT hln;have hbl : bs.length ≤ 1000 := hl;have HBL : Hid (T.length ≤ 2000) := Lib.hid hTl;clear hTl;generalize hbn : bs.length = bn at *;go_enter Tryz.func193, Tryz.ntmps193;go_wp2_with fail;go_loopg [0, 11] xs.length (fun gk bv i wr => ∃ (k : Nat) (L : Bs) (A : Option Addr) (c : Nat), k + gk = xs.length ∧ i = .int .i64 k ∧ bv = .slice A L.length c ∧ Rd wr 1 A L.length c (byV L) ∧ L ++ layI (xs.drop k) = T ∧ Up w wr ∧ (0 < k → wr.ownsRow w.heap.size 5 1 bv L.length (byV L)))
  case atStart => exact ⟨0, bs, A, c, by omega, rfl, by rw [hbn], by rw [hbn]; exact HR.out, by simpa using HT.out, Up.refl w, fun h => absurd h (by omega)⟩
  case round =>
    rename World => wx
    obtain ⟨k, L, A3, c3, hk, rfl, rfl, hr3, hd, hu, ho⟩ := hrel;have HU := Lib.hid hu;have HR3 := Lib.hid hr3;have hLT : L.length ≤ 2000 := by have := HBL.out; rw [← hd, List.length_append] at this; omega
    by_cases hlt : k < xs.length
    · obtain ⟨m, rfl⟩ : ∃ m, gk = m + 1 := ⟨gk - 1, by omega⟩;obtain ⟨b, o, u, rfl, g1, g2⟩ := (HR2.out.up hu).one hlt;rw [inV_get xs hlt] at g1;cases g1;rw [List.drop_eq_getElem_cons hlt] at hd;have hxx := HX.out xs[k] (List.getElem_mem hlt);have UX := fun w => Lib.hid (UN xs[k] hxx.1 hxx.2 w).out;have hu4 : uns4 xs[k] < 18446744073709551616 := Nat.lt_trans (uns_lt xs[k]) (by decide);have PX := fun w hr => Lib.hid (PT L (by omega) A3 c3 (uns4 xs[k]) hu4 w hr).out;have hd2 : (L ++ leB 4 (uns4 xs[k])) ++ layI (xs.drop (k + 1)) = T := by
        rw [← hd]; unfold layI; rw [List.flatMap_cons, List.append_assoc]
      generalize uns4 xs[k] = y at *;generalize xs[k] = x at *;have hltI : (k : Int) < (xs.length : Int) := by omega
      have HD := Lib.hid hd2;clear hd hd2 hr3 hu ho PT UN hu4 hxx;generalize L ++ leB 4 y = L2 at *;generalize L.length = Ll at *;go_wp2_with fail;refine (UX _).out.mono ?_;rintro e w2 ⟨rfl, rfl⟩;go_wp2_with fail;refine (PX _ HR3.out).out.mono ?_;rintro e w3 ⟨v3, rfl, ho3, hu3⟩;have HO3 := Lib.hid ho3;obtain ⟨A4, c4, rfl, r4⟩ := Rd.of_own ho3;have HR4 := Lib.hid r4;clear ho3 r4;go_wp2_with fail;go_roundg m
      case measure => omega
      case rel => exact ⟨k + 1, L2, A4, c4, by omega, by go_num, rfl, HR4.out, HD.out, HU.out.trans hu3, fun _ => own_low' HO3.out HU.out.le⟩
    · obtain rfl : k = xs.length := by omega
      obtain rfl : gk = 0 := by omega
      rw [List.drop_length] at hd;have hd : L = T := by rw [← hd]; simp [layI]
      subst hd;have HO := Lib.hid (ho (by have := List.length_pos_iff.2 h0; omega));clear hlt hk ho hu hr3;generalize L.length = Ll at *;go_wp2_with fail;go_ret;exact ⟨_, rfl, HO.out, HU.out⟩
end Go.Proofs.YtjhgaildbeokkaaGreatDoor
/- Walks: tileid.Zoom; chart.Len, Items, Zooms. -/
namespace Go.Proofs.YtjhgaildbeokkaaGreatDoor
open Go.RowKit Go.Gz Go.Shelf

set_option maxRecDepth 100000
theorem zoom_any (id : Nat) (h : id < 6004799503160661) (w : World) :
    Calls Tryz.prog 197 #[.int .u64 (id : Int)] w fun e w' => e = .returned (.int .i64 (zoomV id)) ∧ Up w w' := by
  have h1 : ¬ (6004799503160661 : Int) ≤ (id : Int) := by omega
  have e1 : IntKind.u64.wrap (3 * (id : Int)) = ((3 * id : Nat) : Int) := by rw [IntWalk.u64_in _ (by omega)]; omega
  obtain ⟨x, hx⟩ : ∃ x, 3 * id + 1 = x := ⟨_, rfl⟩;have e2 : IntKind.u64.wrap (((3 * id : Nat) : Int) + 1) = (x : Int) := by rw [IntWalk.u64_in _ (by omega)]; omega
  have hz : zoomV id = (((Lib.bitLen x - 1) / 2 : Nat) : Int) := by unfold zoomV; rw [if_neg (by omega), hx]
  have BL := fun w => Lib.hid (Tryz.bits_Len64 (x : Int) w (by omega) (by omega));rw [Int.toNat_natCast] at BL;have hb := Lib.bitLen_le x 54 (by omega) (by omega);have hp := bitLen_mono (a := 1) (b := x) (by omega) (by omega) (by omega);have hp1 : Lib.bitLen 1 = 1 := by decide
  rw [hp1] at hp;rw [hz];generalize Lib.bitLen x = bl at *;have e3 : IntKind.i64.wrap ((bl : Int) - 1) = ((bl - 1 : Nat) : Int) := by rw [IntWalk.i64_in _ (by omega)]; omega
  generalize 3 * id = y at *;obtain ⟨z, hz2⟩ : ∃ z, bl - 1 = z := ⟨_, rfl⟩;rw [hz2] at e3 ⊢;have e4 : IntKind.i64.wrap ((z : Int).tdiv 2) = ((z / 2 : Nat) : Int) := by
    rw [show (z : Int).tdiv 2 = ((z / 2 : Nat) : Int) from rfl];exact IntWalk.i64_in _ (by omega)
  have hzl : z ≤ 54 := by omega
  clear hx hb hp hp1 hz hz2;go_enter Tryz.func197, Tryz.ntmps197;go_wp2_with fail;refine (BL _).out.mono ?_;rintro e w1 ⟨rfl, rfl⟩;go_wp2_with fail;go_ret;exact ⟨ret_int (by omega), Up.refl _⟩
theorem len_any (A : Option Addr) (n c : Nat) (w : World) :
    Calls Tryz.prog 79 #[.agg #[.slice A n c]] w fun e w' => e = .returned (.int .i64 (n : Int)) ∧ Up w w' := by
  go_enter Tryz.func79, Tryz.ntmps79;go_wp2_with fail;go_ret;exact ⟨rfl, (Up.refl w).alloc _⟩
theorem items_any (L : Items) (hl : L.length ≤ 100000) (A : Option Addr) (c : Nat) (w : World) (hr : Rd w 2 A L.length c (itV L)) :
    Calls Tryz.prog 29 #[.agg #[.slice A L.length c]] w (OwnE w 102 2 L.length (itV L)) := by
  have CL := fun w hr => Lib.hid (cloneCh_any A L.length c (itV L) (itV_one _) (by omega) w hr);have HR := Lib.hid hr;clear hr;generalize L.length = n at *;go_enter Tryz.func29, Tryz.ntmps29;go_wp2_with fail;refine (CL _ (HR.out.up ((Up.refl w).alloc _))).out.mono ?_;rintro e w1 ⟨v1, rfl, ho1, hu1⟩;go_wp2_with fail;go_ret;exact ⟨_, rfl, own_low' ho1 (by simp), ((Up.refl w).alloc _).trans hu1⟩
end Go.Proofs.YtjhgaildbeokkaaGreatDoor
