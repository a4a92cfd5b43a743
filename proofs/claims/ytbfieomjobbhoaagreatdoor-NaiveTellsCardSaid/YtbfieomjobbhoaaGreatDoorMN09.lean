/- Walks: slices.Clone at three types; little.fits, Put; varint.lay, All. -/
import Derived.Test.YtbfieomjobbhoaaGreatDoorMN01
import Derived.Test.YtbfieomjobbhoaaGreatDoorMN08
import Derived.Test.YtbfieomjobbhoaaGreatDoorShelf
namespace Go.Gz
def byV (l : Bs) : List Value := l.map fun c => .int .u8 (c.toNat : Int)
def nuV (l : List Nat) : List Value := l.map fun (x : Nat) => .int .u64 (x : Int)
theorem byV_app (a b : Bs) : byV (a ++ b) = byV a ++ byV b := by simp [byV]
theorem nuV_app (a b : List Nat) : nuV (a ++ b) = nuV a ++ nuV b := by simp [nuV]
theorem byV_one (l : Bs) : ∀ u ∈ byV l, u.oneCell' = true := by
  intro u hu; simp only [byV, List.mem_map] at hu; obtain ⟨x, _, rfl⟩ := hu; rfl
theorem or128 : ∀ b : Fin 256, bits BinOp.or IntKind.u8 (b.val : Int) 128 = ((b.val % 128 + 128 : Nat) : Int) := by decide +kernel
end Go.Gz
namespace Go.Proofs.YtbfieomjobbhoaaGreatDoor
open Go.RowKit Go.Gz

set_option maxRecDepth 100000
/-- a slice of memory of the call's own, holding cells -/
def OwnE (w : World) (e : TypeId) (size n : Nat) (xs : List Value) (en : Ending) (w' : World) : Prop := ∃ v, en = .returned v ∧ w'.ownsRow w.heap.size e size v n xs ∧ Up w w'
theorem ownsRow_empty (w : World) (base : Nat) (e : TypeId) (size : Nat) (hb : base ≤ w.heap.size) : (w.alloc (.cells #[] e)).ownsRow base e size (.slice (some ⟨w.heap.size, 0, none⟩) 0 0) 0 [] :=
  ⟨by simp, .inr ⟨w.heap.size, 0, #[], rfl, hb, heap_alloc_new w _, Nat.le_refl _, Nat.zero_le _, by simp, by simp⟩⟩
theorem Rd.nil_inv {w : World} {size n c : Nat} {xs : List Value} (h : Rd w size none n c xs) : n = 0 ∧ c = 0 ∧ xs = [] := by
  have h1 := h.2.2.2.1 rfl;have h2 := h.2.1;have h3 := h.1;obtain rfl : n = 0 := by omega
  exact ⟨rfl, h1, List.eq_nil_of_length_eq_zero (by simpa using h3)⟩
theorem infoEn : (Tryz.prog.info? 84).map (fun i => (i.zero, i.size, i.bytes)) = some (some (.agg #[.int .u64 0, .int .u64 0, .int .u32 0, .int .u32 0]), 4, 24) := by kernel_rfl
theorem infoU8 : (Tryz.prog.info? 5).map (fun i => (i.zero, i.size, i.bytes)) = some (some (.int .u8 0), 1, 1) := by kernel_rfl
theorem infoU64 : (Tryz.prog.info? 22).map (fun i => (i.zero, i.size, i.bytes)) = some (some (.int .u64 0), 1, 8) := by kernel_rfl
theorem infoCh : (Tryz.prog.info? 54).map (fun i => (i.zero, i.size, i.bytes)) = some (some (.agg #[.int .u64 0, .string ⟨#[]⟩]), 2, 24) := by kernel_rfl
set_option maxHeartbeats 1000000 in
theorem cloneEn_any (A : Option Addr) (n c : Nat) (xs : List Value) (h1 : ∀ u ∈ xs, u.oneCell' = true) (hn : n ≤ 900000) (w : World) (hr : Rd w 4 A n c xs) :
    Calls Tryz.prog 115 #[.slice A n c] w (OwnE w 84 4 n xs) := by
  obtain ⟨i0, hi, hz0, hz1, hz2⟩ := info_parts infoEn;have HR := Lib.hid hr;have H1 := Lib.hid h1;have qE := fun w (A : Option Addr) n c => Lib.run_eql_slice_nil (P := Tryz.prog) w 24 84 A n c 0 0 Tryz.underlying24;clear hr h1;cases A with
  | none =>
    obtain ⟨rfl, rfl, rfl⟩ := HR.out.nil_inv;replace qE := fun w n c => qE w none n c;simp only [Option.isNone_none] at qE;go_enter Tryz.func115, Tryz.ntmps115;go_wp2_with fail;refine bodyPost_ret (v := .slice none 0 0) (by simp [results, Tryz.results115, go_sem]) rfl ?_;exact ⟨_, rfl, World.ownsRow_nil _ _ _ _, Up.refl w⟩
  | some a =>
    replace qE := fun w n c => qE w (some a) n c;simp only [Option.isNone_some] at qE;have qB := fun (w : World) => (by simp [go_sem] : (Instr.buildSlice 24 0 #[]).run Tryz.prog w = .ok (.slice (some ⟨w.heap.size, 0, none⟩) 0 0) (w.alloc (.cells #[] 84)));go_enter Tryz.func115, Tryz.ntmps115;go_wp2_with (at_builtin; refine wpList_append_rd _ rfl _ _ 24 rfl w.heap.size 84 i0 _ 4 24 Tryz.underlying24 hi hz0 hz1 hz2 rfl (by decide) _ 0 [] rfl (ownsRow_empty _ _ _ _ (Nat.le_refl _)) (some a) n c xs rfl (HR.out.up ((Up.refl w).alloc _)) H1.out (by omega) (by omega) (by simp) ?_; intro v3 w3 ho3 hb3)
    go_ret;rw [Nat.zero_add, List.nil_append] at ho3;exact ⟨_, rfl, ho3, Up.of (Below.trans ((Up.refl w).alloc _).below hb3)⟩
set_option maxHeartbeats 1000000 in
theorem cloneU8_any (A : Option Addr) (n c : Nat) (xs : List Value) (h1 : ∀ u ∈ xs, u.oneCell' = true) (hn : n ≤ 900000) (w : World) (hr : Rd w 1 A n c xs) :
    Calls Tryz.prog 255 #[.slice A n c] w (OwnE w 5 1 n xs) := by
  obtain ⟨i0, hi, hz0, hz1, hz2⟩ := info_parts infoU8;have HR := Lib.hid hr;have H1 := Lib.hid h1;have qE := fun w (A : Option Addr) n c => Lib.run_eql_slice_nil (P := Tryz.prog) w 49 5 A n c 0 0 Tryz.underlying49;clear hr h1;cases A with
  | none =>
    obtain ⟨rfl, rfl, rfl⟩ := HR.out.nil_inv;replace qE := fun w n c => qE w none n c;simp only [Option.isNone_none] at qE;go_enter Tryz.func255, Tryz.ntmps255;go_wp2_with fail;refine bodyPost_ret (v := .slice none 0 0) (by simp [results, Tryz.results255, go_sem]) rfl ?_;exact ⟨_, rfl, World.ownsRow_nil _ _ _ _, Up.refl w⟩
  | some a =>
    replace qE := fun w n c => qE w (some a) n c;simp only [Option.isNone_some] at qE;have qB := fun (w : World) => (by simp [go_sem] : (Instr.buildSlice 49 0 #[]).run Tryz.prog w = .ok (.slice (some ⟨w.heap.size, 0, none⟩) 0 0) (w.alloc (.cells #[] 5)));go_enter Tryz.func255, Tryz.ntmps255;go_wp2_with (at_builtin; refine wpList_append_rd _ rfl _ _ 49 rfl w.heap.size 5 i0 _ 1 1 Tryz.underlying49 hi hz0 hz1 hz2 rfl (by decide) _ 0 [] rfl (ownsRow_empty _ _ _ _ (Nat.le_refl _)) (some a) n c xs rfl (HR.out.up ((Up.refl w).alloc _)) H1.out (by omega) (by omega) (by simp) ?_; intro v3 w3 ho3 hb3)
    go_ret;rw [Nat.zero_add, List.nil_append] at ho3;exact ⟨_, rfl, ho3, Up.of (Below.trans ((Up.refl w).alloc _).below hb3)⟩
theorem fits_any (n : Int) (w : World) : Calls Tryz.prog 186 #[.int .i64 n] w fun e w' => e = .returned (.bool (decide (1 ≤ n) && decide (n ≤ 8))) ∧ w = w' := by
  by_cases h1 : 1 ≤ n
  · by_cases h2 : n ≤ 8
    · rw [decide_eq_true h1, decide_eq_true h2];go_enter Tryz.func186, Tryz.ntmps186;go_wp2_with fail;go_ret;exact ⟨rfl, rfl⟩
    · rw [decide_eq_true h1, decide_eq_false h2];go_enter Tryz.func186, Tryz.ntmps186;go_wp2_with fail;go_ret;exact ⟨rfl, rfl⟩
  · rw [decide_eq_false h1];go_enter Tryz.func186, Tryz.ntmps186;go_wp2_with fail;go_ret;exact ⟨rfl, rfl⟩
set_option maxHeartbeats 2000000 in
theorem lput_any (bs : Bs) (hl : bs.length ≤ 800000) (A : Option Addr) (c n : Nat) (h1 : 1 ≤ n) (h2 : n ≤ 8) (x : Nat) (hx : x < 18446744073709551616) (w : World) (hr : Rd w 1 A bs.length c (byV bs)) :
    Calls Tryz.prog 218 #[.slice A bs.length c, .int .i64 n, .int .u64 x] w (OwnE w 5 1 (bs ++ leB n x).length (byV (bs ++ leB n x))) := by
  obtain ⟨i0, hi, hz0, hz1, hz2⟩ := info_parts infoU8;have CL := fun w hr => Lib.hid (cloneU8_any A bs.length c (byV bs) (byV_one _) (by omega) w hr);have FT := fun w => Lib.hid (fits_any n w);rw [decide_eq_true (by omega : (1 : Int) ≤ n), decide_eq_true (by omega : (n : Int) ≤ 8)] at FT;simp only [Bool.and_self] at FT;have HR := Lib.hid hr;clear hr;generalize hT : bs ++ leB n x = T at *;have HT := Lib.hid hT;clear hT;go_enter Tryz.func218, Tryz.ntmps218;go_wp2_with fail;refine (CL _ HR.out).out.mono ?_;rintro e w1 ⟨v1, rfl, ho1, hu1⟩;go_wp2_with fail;refine (FT _).out.mono ?_;rintro e w2 ⟨rfl, rfl⟩;have HO1 := Lib.hid ho1;have HU1 := Lib.hid hu1;clear ho1 hu1;go_wp2_with fail;go_loopg [2, 7, 15] n (fun gk xv v i wr => ∃ (k y : Nat) (L : Bs), k + gk = n ∧ i = .int .i64 k ∧ xv = .int .u64 y ∧ y < 18446744073709551616 ∧ L.length = bs.length + k ∧ L ++ leB gk y = T ∧ wr.ownsRow w.heap.size 5 1 v L.length (byV L) ∧ Up w wr)
  case atStart => exact ⟨0, x, bs, by omega, rfl, rfl, hx, by omega, HT.out, HO1.out, HU1.out⟩
  case round =>
    obtain ⟨k, y, L, hk, rfl, rfl, hy, hL, hd, ho, hu⟩ := hrel;have HO := Lib.hid ho;have HU := Lib.hid hu;by_cases hlt : k < n
    · obtain ⟨m, rfl⟩ : ∃ m, gk = m + 1 := ⟨gk - 1, by omega⟩;have hltI : (k : Int) < (n : Int) := by omega
      unfold leB at hd;have e1 : IntKind.u8.wrap (y : Int) = ((UInt8.ofNat (y % 256)).toNat : Int) := by
        rw [u8_ofNat]; simp [IntKind.wrap, IntKind.bits, IntKind.signed]
      have HD := Lib.hid hd;generalize UInt8.ofNat (y % 256) = b at *;clear hd ho hu;go_wp2_with (at_builtin; refine app_one wr rfl _ _ 49 rfl w.heap.size 5 i0 _ 1 1 Tryz.underlying49 hi hz0 hz1 hz2 rfl (by decide) _ _ _ HO.out rfl #[.int .u8 (b.toNat : Int)] rfl rfl (by simp [Value.oneCell']) (by omega) (by omega) (by have := HU.out.le; omega) ?_; intro v3 w3 ho3 hg3 hb3)
      go_roundg m
      case measure => omega
      case rel =>
        refine ⟨k + 1, y / 256, L ++ [b], by omega, by go_num, by go_num, by omega, by simp; omega, by rw [← HD.out]; simp, ?_, Up.of (Below.trans HU.out.below hb3)⟩;rw [byV_app, List.length_append];exact ho3
    · obtain rfl : k = n := by omega
      obtain rfl : gk = 0 := by omega
      unfold leB at hd;rw [List.append_nil] at hd;subst hd;clear hlt hu ho;go_wp2_with fail;go_ret;exact ⟨_, rfl, HO.out, HU.out⟩
/-- a slice of the caller's own, grown -/
def GrownE (w : World) (base : Nat) (e : TypeId) (size n : Nat) (xs : List Value) (en : Ending) (w' : World) : Prop := ∃ v, en = .returned v ∧ w'.ownsRow base e size v n xs ∧ Below base w w'
set_option maxHeartbeats 2000000 in
theorem lay_any (base : Nat) (v : Value) (bs : Bs) (hl : bs.length ≤ 900000) (x : Nat) (hx : x < 18446744073709551616) (w : World) (ho : w.ownsRow base 5 1 v bs.length (byV bs)) (hb : base ≤ w.heap.size) :
    Calls Tryz.prog 178 #[v, .int .u64 x] w (GrownE w base 5 1 (bs ++ vB x).length (byV (bs ++ vB x))) := by
  obtain ⟨i0, hi, hz0, hz1, hz2⟩ := info_parts infoU8;have HO0 := Lib.hid ho;have hlen := vB_len10 hx;have hl2 : (bs ++ vB x).length ≤ 900010 := by rw [List.length_append]; omega
  obtain ⟨g0, hg0⟩ : ∃ g, (vB x).length = g := ⟨_, rfl⟩;generalize hT : bs ++ vB x = T at *;have HT := Lib.hid hT;have HG := Lib.hid hg0;clear ho hT hg0 hlen;go_enter Tryz.func178, Tryz.ntmps178;go_wp2_with fail;go_loopg [0, 1] g0 (fun gk v xv wr => ∃ (y : Nat) (L : Bs), (vB y).length = gk ∧ xv = .int .u64 y ∧ y < 18446744073709551616 ∧ L ++ vB y = T ∧ wr.ownsRow base 5 1 v L.length (byV L) ∧ Below base w wr)
  case atStart => exact ⟨x, bs, HG.out, rfl, hx, HT.out, HO0.out, Below.refl _ _⟩
  case round =>
    obtain ⟨y, L, hk, rfl, hy, hd, ho, hu⟩ := hrel;have HO := Lib.hid ho;have HU := Lib.hid hu;have hLT : L.length + (vB y).length = T.length := by rw [← hd, List.length_append]
    have hyp := vB_pos y;by_cases hlt : y < 128
    · rw [vB_small hlt] at hd;have hgt : ¬ (127 : Int) < (y : Int) := by omega
      have e1 : IntKind.u8.wrap (y : Int) = ((UInt8.ofNat y).toNat : Int) := by
        rw [show (UInt8.ofNat y).toNat = y by simp; omega]; simp [IntKind.wrap, IntKind.bits, IntKind.signed]; omega
      have HD := Lib.hid hd;generalize UInt8.ofNat y = b at *;clear hd ho hu hlt hk;go_wp2_with (at_builtin; refine app_one wr rfl _ _ 49 rfl base 5 i0 _ 1 1 Tryz.underlying49 hi hz0 hz1 hz2 rfl (by decide) _ _ _ HO.out rfl #[.int .u8 (b.toNat : Int)] rfl rfl (by simp [Value.oneCell']) (by omega) (by omega) (by have := HU.out.size; omega) ?_; intro v3 w3 ho3 hg3 hb3)
      go_ret;refine ⟨_, rfl, ?_, Below.trans HU.out hb3⟩;rw [← HD.out, byV_app, List.length_append];exact ho3
    · rw [vB_big hlt] at hd hk;obtain ⟨m, rfl⟩ : ∃ m, gk = m + 1 := ⟨gk - 1, by simp at hk; omega⟩;have hk' : (vB (y / 128)).length = m := by simpa using hk
      have hgt : (127 : Int) < (y : Int) := by omega
      have e1 : bits BinOp.or IntKind.u8 ((y : Int) % 256) 128 = ((UInt8.ofNat (y % 128 + 128)).toNat : Int) := by
        have h := or128 ⟨y % 256, Nat.mod_lt _ (by omega)⟩;have h2 : (y : Int) % 256 = ((y % 256 : Nat) : Int) := by omega
        simp only at h;rw [h2, h, show (UInt8.ofNat (y % 128 + 128)).toNat = y % 128 + 128 by simp; omega];have : y % 256 % 128 = y % 128 := Nat.mod_mod_of_dvd _ ⟨2, rfl⟩;omega
      have HD := Lib.hid hd;have HK := Lib.hid hk';generalize UInt8.ofNat (y % 128 + 128) = b at *;clear hd ho hu hlt hk hk';go_wp2_with (at_builtin; refine app_one wr rfl _ _ 49 rfl base 5 i0 _ 1 1 Tryz.underlying49 hi hz0 hz1 hz2 rfl (by decide) _ _ _ HO.out rfl #[.int .u8 (b.toNat : Int)] rfl rfl (by simp [Value.oneCell']) (by omega) (by omega) (by have := HU.out.size; omega) ?_; intro v3 w3 ho3 hg3 hb3)
      go_roundg m
      case measure => omega
      case rel =>
        refine ⟨y / 128, L ++ [b], HK.out, by go_num, by omega, by rw [← HD.out]; simp, ?_, Below.trans HU.out hb3⟩;rw [byV_app, List.length_append];exact ho3
theorem nuV_get (l : List Nat) {k : Nat} (hk : k < l.length) : (nuV l)[k]? = some (.int .u64 (l[k] : Int)) := by
  unfold nuV; rw [List.getElem?_map, List.getElem?_eq_getElem hk]; rfl
set_option maxHeartbeats 2000000 in
theorem all_any (xs : List Nat) (hx : ∀ x ∈ xs, x < 18446744073709551616) (hl : xs.length ≤ 80000) (A : Option Addr) (c : Nat) (w : World) (hr : Rd w 1 A xs.length c (nuV xs)) :
    Calls Tryz.prog 118 #[.slice A xs.length c] w (OwnE w 5 1 (xs.flatMap vB).length (byV (xs.flatMap vB))) := by
  have HR := Lib.hid hr;have HX := Lib.hid hx;clear hr hx;go_enter Tryz.func118, Tryz.ntmps118;go_wp2_with fail;go_loopg [3, 8] xs.length (fun gk v i wr => ∃ k : Nat, k + gk = xs.length ∧ i = .int .i64 k ∧ wr.ownsRow w.heap.size 5 1 v ((xs.take k).flatMap vB).length (byV ((xs.take k).flatMap vB)) ∧ Up w wr)
  case atStart => exact ⟨0, by omega, rfl, by simpa [byV] using World.ownsRow_nil _ _ _ _, Up.refl w⟩
  case round =>
    obtain ⟨k, hk, rfl, ho, hu⟩ := hrel;have HO := Lib.hid ho;have HU := Lib.hid hu;by_cases hlt : k < xs.length
    · obtain ⟨m, rfl⟩ : ∃ m, gk = m + 1 := ⟨gk - 1, by omega⟩;obtain ⟨b, o, u, rfl, g1, g2⟩ := HR.out.one hlt;rw [nuV_get xs hlt] at g1;cases g1;have d0 := hu.cell g2;have hx := HX.out xs[k] (List.getElem_mem hlt);have hlen : ((xs.take k).flatMap vB).length ≤ 800000 := by
        have := size_le (xs.take k) (fun y hy => HX.out y (List.mem_of_mem_take hy));rw [← size_flat, List.length_take] at this;omega
      have hd : (xs.take (k + 1)).flatMap vB = (xs.take k).flatMap vB ++ vB xs[k] := by rw [List.take_succ_eq_append_getElem hlt, List.flatMap_append]; simp
      have LY := fun v w1 ho hb => Lib.hid (lay_any (w.heap.size) v ((xs.take k).flatMap vB) (by omega) xs[k] hx w1 ho hb);have HD := Lib.hid hd;generalize xs[k] = x at *;have hltI : (k : Int) < (xs.length : Int) := by omega
      clear hd ho hu hlt g2;go_wp2_with fail;refine (LY _ _ HO.out HU.out.le).out.mono ?_;rintro e w1 ⟨v1, rfl, ho1, hb1⟩;go_wp2_with fail;go_roundg m
      case measure => omega
      case rel =>
        refine ⟨k + 1, by omega, by go_num, ?_, Up.of (Below.trans HU.out.below hb1)⟩;rw [HD.out];exact ho1
    · obtain rfl : k = xs.length := by omega
      rw [List.take_length] at ho;have HO := Lib.hid ho;clear hlt hu ho;go_wp2_with fail;go_ret;exact ⟨_, rfl, HO.out, HU.out⟩
theorem vsize_any (x : Nat) (hx : x < 18446744073709551616) (w : World) : Calls Tryz.prog 174 #[.int .u64 x] w fun e w' => e = .returned (.int .i64 ((vB x).length : Int)) ∧ w = w' := by
  have hv := vB_size x hx;have hle := Lib.bitLen_le x 64 (by omega) hx;have BL := fun w => Lib.hid (Tryz.bits_Len64 (x : Int) w (by omega) (by omega));rw [Int.toNat_natCast] at BL;generalize (vB x).length = n at *;generalize Lib.bitLen x = b at *;have HV := Lib.hid hv;have e1 : IntKind.i64.wrap ((b : Int) + 6) = (b : Int) + 6 := IntWalk.i64_in _ (by omega);clear hv;go_enter Tryz.func174, Tryz.ntmps174;go_wp2_with fail;refine (BL _).out.mono ?_;rintro e w1 ⟨rfl, rfl⟩;go_wp2_with fail;go_ret;exact ⟨ret_int (by rw [HV.out]; omega), rfl⟩
end Go.Proofs.YtbfieomjobbhoaaGreatDoor
/- Walk: slices.Clone of items. -/
namespace Go.Proofs.YtbfieomjobbhoaaGreatDoor
open Go.RowKit Go.Gz

set_option maxRecDepth 100000
set_option maxHeartbeats 1000000 in
theorem cloneCh_any (A : Option Addr) (n c : Nat) (xs : List Value) (h1 : ∀ u ∈ xs, u.oneCell' = true) (hn : n ≤ 900000) (w : World) (hr : Rd w 2 A n c xs) :
    Calls Tryz.prog 34 #[.slice A n c] w (OwnE w 54 2 n xs) := by
  obtain ⟨i0, hi, hz0, hz1, hz2⟩ := info_parts infoCh;have HR := Lib.hid hr;have H1 := Lib.hid h1;have qE := fun w (A : Option Addr) n c => Lib.run_eql_slice_nil (P := Tryz.prog) w 31 54 A n c 0 0 Tryz.underlying31;clear hr h1;cases A with
  | none =>
    obtain ⟨rfl, rfl, rfl⟩ := HR.out.nil_inv;replace qE := fun w n c => qE w none n c;simp only [Option.isNone_none] at qE;go_enter Tryz.func34, Tryz.ntmps34;go_wp2_with fail;refine bodyPost_ret (v := .slice none 0 0) (by simp [results, Tryz.results34, go_sem]) rfl ?_;exact ⟨_, rfl, World.ownsRow_nil _ _ _ _, Up.refl w⟩
  | some a =>
    replace qE := fun w n c => qE w (some a) n c;simp only [Option.isNone_some] at qE;have qB := fun (w : World) => (by simp [go_sem] : (Instr.buildSlice 31 0 #[]).run Tryz.prog w = .ok (.slice (some ⟨w.heap.size, 0, none⟩) 0 0) (w.alloc (.cells #[] 54)));go_enter Tryz.func34, Tryz.ntmps34;go_wp2_with (at_builtin; refine wpList_append_rd _ rfl _ _ 31 rfl w.heap.size 54 i0 _ 2 24 Tryz.underlying31 hi hz0 hz1 hz2 rfl (by decide) _ 0 [] rfl (ownsRow_empty _ _ _ _ (Nat.le_refl _)) (some a) n c xs rfl (HR.out.up ((Up.refl w).alloc _)) H1.out (by omega) (by omega) (by simp) ?_; intro v3 w3 ho3 hb3)
    go_ret;rw [Nat.zero_add, List.nil_append] at ho3;exact ⟨_, rfl, ho3, Up.of (Below.trans ((Up.refl w).alloc _).below hb3)⟩
end Go.Proofs.YtbfieomjobbhoaaGreatDoor
