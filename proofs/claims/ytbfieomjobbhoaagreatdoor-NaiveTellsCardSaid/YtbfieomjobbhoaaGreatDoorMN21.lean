/- Walk: header.Decode of a text that has a header. -/
import Derived.Test.YtbfieomjobbhoaaGreatDoorMN17
import Derived.Test.YtbfieomjobbhoaaGreatDoorMN19
import Derived.Test.YtbfieomjobbhoaaGreatDoorMN10
namespace Go.Proofs.YtbfieomjobbhoaaGreatDoor
open Go.RowKit Go.Gz Go.Shelf

set_option maxRecDepth 100000
/-- where the walk stands: the result's block, the taker's, the header's -/
structure DS (w X : World) (s : Bs) (a : Nat) (cs : Array Value) : Prop where
  up : Up w X
  tb : TB X (w.heap.size + 1) s a
  hh : X.heap[w.heap.size + 1 + 1]? = some (.cells cs 63 (0, 0))
  hr : X.heap[w.heap.size]? = some (.cells HZ 63 (0, 0))
theorem DS.call {w X X' : World} {s : Bs} {a b : Nat} {cs : Array Value} (h : DS w X s a cs) (hk : RK (w.heap.size + 1) X X') (hb : TB X' (w.heap.size + 1) s b) : DS w X' s b cs := by
  have l1 := (Array.getElem?_eq_some_iff.1 h.hh).1;refine ⟨Up.of (h.up.below.grown hk h.up.le (fun j e => by cases e; omega)), hb, (hk.block _ l1 (by intro e; injection e with e; omega)).trans h.hh, (hk.block _ (by omega) (by intro e; injection e with e; omega)).trans h.hr⟩
theorem DS.set {w X : World} {s : Bs} {a : Nat} {cs : Array Value} (h : DS w X s a cs) (k : Nat) (v : Value) : DS w (X.setCell ⟨w.heap.size + 1 + 1, k, none⟩ v) s a (cs.setIfInBounds k v) :=
  ⟨h.up.set (p := ⟨w.heap.size + 1 + 1, k, none⟩) (by simp; omega) v, (heap_setCell_other X ⟨w.heap.size + 1 + 1, k, none⟩ _ v (by simp)).trans h.tb, heap_setCell_same X _ k _ _ v h.hh, (heap_setCell_other X ⟨w.heap.size + 1 + 1, k, none⟩ _ v (by simp; omega)).trans h.hr⟩
theorem DS.more {w X Y : World} {s : Bs} {a : Nat} {cs : Array Value} (h : DS w X s a cs) (hu : Up X Y) : DS w Y s a cs :=
  ⟨h.up.trans hu, hu.obj h.tb, hu.obj h.hh, hu.obj h.hr⟩
/-- what header.Decode tells -/
def DecE (w : World) (r : Array Value × Int) (e : Ending) (w' : World) : Prop := e = .returned (.tuple #[.agg r.1, .int .i64 r.2]) ∧ Up w w'
theorem DS.cs {w X : World} {s : Bs} {a : Nat} {cs cs2 : Array Value} (h : DS w X s a cs) (e : cs = cs2) : DS w X s a cs2 := e ▸ h
theorem tsec_at (R : Nat) (s : Bs) (hs : s.length ≤ 1000000000) (a a2 b : Nat) (h2 : a + 8 = a2) (hb : a2 + 8 = b) (h : b ≤ s.length) (x y : Nat) (hx : nAt s a 8 = x) (hy : nAt s a2 8 = y) (w : World) (ht : TB w R s a) :
    Calls Tryz.prog 77 #[.pointer (some ⟨R, 0, none⟩)] w fun e w' => e = .returned (.agg #[.int .u64 (x : Int), .int .u64 (y : Int)]) ∧ RK R w w' ∧ TB w' R s b := by
  subst h2; subst hb; subst hx; subst hy;exact tsec_any R s hs a h w ht
theorem tnum_at (R : Nat) (s : Bs) (hs : s.length ≤ 1000000000) (a n b : Nat) (hn : 1 ≤ n ∧ n ≤ 8) (hb : a + n = b) (h : b ≤ s.length) (x : Nat) (hx : nAt s a n = x) (w : World) (ht : TB w R s a) (n' : Int) (hn' : n' = (n : Int)) :
    Calls Tryz.prog 78 #[.pointer (some ⟨R, 0, none⟩), .int .i64 n'] w fun e w' => e = .returned (.int .u64 (x : Int)) ∧ RK R w w' ∧ TB w' R s b := by
  subst hb; subst hx; subst hn';exact tnum_any R s hs a n hn h w ht
theorem tdeg_at (R : Nat) (s : Bs) (hs : s.length ≤ 1000000000) (a b : Nat) (hb : a + 4 = b) (h : b ≤ s.length) (v : Int) (h1 : -2147483648 ≤ v ∧ v < 2147483648) (hv : nAt s a 4 = uns4 v) (w : World) (ht : TB w R s a) :
    Calls Tryz.prog 79 #[.pointer (some ⟨R, 0, none⟩)] w fun e w' => e = .returned (.int .i64 v) ∧ RK R w w' ∧ TB w' R s b := by
  subst hb;exact tdeg_any R s hs a h v h1.1 h1.2 hv w ht
set_option maxHeartbeats 16000000 in
theorem hdec_cl (s : Bs) (hs : s.length ≤ 1000000000) (hl : 127 ≤ s.length) (hm : Lib.hasPrefix s [80, 77, 84, 105, 108, 101, 115] = true) (hv : s[7]? = some 3)
    (r0 r1 m0 m1 l0 l1 d0 d1 adr ent con cl : Nat) (inn out kind minz maxz : Nat) (minlon minlat maxlon maxlat : Int) (zoom : Nat) (lon lat : Int)
    (e_r0 : nAt s 8 8 = r0) (e_r1 : nAt s 16 8 = r1) (e_m0 : nAt s 24 8 = m0) (e_m1 : nAt s 32 8 = m1) (e_l0 : nAt s 40 8 = l0) (e_l1 : nAt s 48 8 = l1) (e_d0 : nAt s 56 8 = d0) (e_d1 : nAt s 64 8 = d1) (e_adr : nAt s 72 8 = adr) (e_ent : nAt s 80 8 = ent) (e_con : nAt s 88 8 = con) (e_cl : nAt s 96 1 = cl) (e_inn : nAt s 97 1 = inn) (e_out : nAt s 98 1 = out) (e_kind : nAt s 99 1 = kind) (e_minz : nAt s 100 1 = minz) (e_maxz : nAt s 101 1 = maxz) (e_minlon : nAt s 102 4 = uns4 minlon) (e_minlat : nAt s 106 4 = uns4 minlat) (e_maxlon : nAt s 110 4 = uns4 maxlon) (e_maxlat : nAt s 114 4 = uns4 maxlat) (e_zoom : nAt s 118 1 = zoom) (e_lon : nAt s 119 4 = uns4 lon) (e_lat : nAt s 123 4 = uns4 lat)
    (hi : inn < 256 ∧ out < 256 ∧ kind < 256 ∧ minz < 256 ∧ maxz < 256 ∧ zoom < 256)
    (h1 : -2147483648 ≤ minlon ∧ minlon < 2147483648) (h2 : -2147483648 ≤ minlat ∧ minlat < 2147483648) (h3 : -2147483648 ≤ maxlon ∧ maxlon < 2147483648) (h4 : -2147483648 ≤ maxlat ∧ maxlat < 2147483648) (h5 : -2147483648 ≤ lon ∧ lon < 2147483648) (h6 : -2147483648 ≤ lat ∧ lat < 2147483648)
    (E : Int) (CK : ∀ w, Hid (Calls Tryz.prog 80 #[.agg (HC r0 r1 m0 m1 l0 l1 d0 d1 adr ent con (cl == 1) inn out kind minz maxz minlon minlat maxlon maxlat zoom lon lat)] w fun e w' => e = .returned (.int .i64 E) ∧ Up w w')) (w : World) :
    Calls Tryz.prog 35 #[.string ⟨s.toArray⟩] w (DecE w (if 1 < cl then (HZ, 4) else if E = 0 then (HC r0 r1 m0 m1 l0 l1 d0 d1 adr ent con (cl == 1) inn out kind minz maxz minlon minlat maxlon maxlat zoom lon lat, 0) else (HZ, E))) := by
  have HP : ∀ (x p : Bs) (w : World), Hid (Calls Tryz.prog 76 #[.string ⟨x.toArray⟩, .string ⟨p.toArray⟩] w fun e w' => e = .returned (.bool (Lib.hasPrefix x p)) ∧ w' = w) := fun x p w => Lib.hid (Tryz.strings_HasPrefix ⟨x.toArray⟩ ⟨p.toArray⟩ w);have C_r0 := fun X h => Lib.hid (tsec_at (w.heap.size + 1) s hs 8 16 24 rfl rfl (by omega) r0 r1 e_r0 e_r1 X h);have C_m0 := fun X h => Lib.hid (tsec_at (w.heap.size + 1) s hs 24 32 40 rfl rfl (by omega) m0 m1 e_m0 e_m1 X h);have C_l0 := fun X h => Lib.hid (tsec_at (w.heap.size + 1) s hs 40 48 56 rfl rfl (by omega) l0 l1 e_l0 e_l1 X h);have C_d0 := fun X h => Lib.hid (tsec_at (w.heap.size + 1) s hs 56 64 72 rfl rfl (by omega) d0 d1 e_d0 e_d1 X h);have C_adr := fun X h => Lib.hid (tnum_at (w.heap.size + 1) s hs 72 8 80 (by omega) rfl (by omega) adr e_adr X h 8 rfl);have C_ent := fun X h => Lib.hid (tnum_at (w.heap.size + 1) s hs 80 8 88 (by omega) rfl (by omega) ent e_ent X h 8 rfl);have C_con := fun X h => Lib.hid (tnum_at (w.heap.size + 1) s hs 88 8 96 (by omega) rfl (by omega) con e_con X h 8 rfl);have C_cl := fun X h => Lib.hid (tnum_at (w.heap.size + 1) s hs 96 1 97 (by omega) rfl (by omega) cl e_cl X h 1 rfl);have C_inn := fun X h => Lib.hid (tnum_at (w.heap.size + 1) s hs 97 1 98 (by omega) rfl (by omega) inn e_inn X h 1 rfl);have C_out := fun X h => Lib.hid (tnum_at (w.heap.size + 1) s hs 98 1 99 (by omega) rfl (by omega) out e_out X h 1 rfl);have C_kind := fun X h => Lib.hid (tnum_at (w.heap.size + 1) s hs 99 1 100 (by omega) rfl (by omega) kind e_kind X h 1 rfl);have C_minz := fun X h => Lib.hid (tnum_at (w.heap.size + 1) s hs 100 1 101 (by omega) rfl (by omega) minz e_minz X h 1 rfl);have C_maxz := fun X h => Lib.hid (tnum_at (w.heap.size + 1) s hs 101 1 102 (by omega) rfl (by omega) maxz e_maxz X h 1 rfl);have C_minlon := fun X h => Lib.hid (tdeg_at (w.heap.size + 1) s hs 102 106 rfl (by omega) minlon h1 e_minlon X h);have C_minlat := fun X h => Lib.hid (tdeg_at (w.heap.size + 1) s hs 106 110 rfl (by omega) minlat h2 e_minlat X h);have C_maxlon := fun X h => Lib.hid (tdeg_at (w.heap.size + 1) s hs 110 114 rfl (by omega) maxlon h3 e_maxlon X h);have C_maxlat := fun X h => Lib.hid (tdeg_at (w.heap.size + 1) s hs 114 118 rfl (by omega) maxlat h4 e_maxlat X h);have C_zoom := fun X h => Lib.hid (tnum_at (w.heap.size + 1) s hs 118 1 119 (by omega) rfl (by omega) zoom e_zoom X h 1 rfl);have C_lon := fun X h => Lib.hid (tdeg_at (w.heap.size + 1) s hs 119 123 rfl (by omega) lon h5 e_lon X h);have C_lat := fun X h => Lib.hid (tdeg_at (w.heap.size + 1) s hs 123 127 rfl (by omega) lat h6 e_lat X h);have t0 : ¬ (s.length : Int) < 127 := by omega
  have hb7 : (⟨s.toArray⟩ : ByteArray)[7]'(by rw [size_mk]; exact Nat.lt_of_lt_of_le (by decide) hl) = 3 := by
    rw [List.getElem?_eq_getElem (Nat.lt_of_lt_of_le (by decide) hl)] at hv;injection hv
  obtain ⟨clu, hclu⟩ : ∃ b, (cl == 1) = b := ⟨_, rfl⟩;rw [hclu] at CK ⊢;obtain ⟨R, hR⟩ : ∃ R, (if 1 < cl then (HZ, 4) else if E = 0 then (HC r0 r1 m0 m1 l0 l1 d0 d1 adr ent con clu inn out kind minz maxz minlon minlat maxlon maxlat zoom lon lat, 0) else (HZ, E)) = R := ⟨_, rfl⟩;rw [hR];have HRR := Lib.hid hR;have HCL := Lib.hid hclu;clear hR hclu;have u1 : IntKind.u8.wrap (inn : Int) = (inn : Int) := by rw [IntKind.wrap_u8]; omega
  have u2 : IntKind.u8.wrap (out : Int) = (out : Int) := by rw [IntKind.wrap_u8]; omega
  have u3 : IntKind.u8.wrap (kind : Int) = (kind : Int) := by rw [IntKind.wrap_u8]; omega
  have u4 : IntKind.i64.wrap (minz : Int) = (minz : Int) := IntWalk.i64_in _ (by omega);have u5 : IntKind.i64.wrap (maxz : Int) = (maxz : Int) := IntWalk.i64_in _ (by omega);have u6 : IntKind.i64.wrap (zoom : Int) = (zoom : Int) := IntWalk.i64_in _ (by omega);clear hs hi h1 h2 h3 h4 h5 h6 e_r0 e_r1 e_m0 e_m1 e_l0 e_l1 e_d0 e_d1 e_adr e_ent e_con e_cl e_inn e_out e_kind e_minz e_maxz e_minlon e_minlat e_maxlon e_maxlat e_zoom e_lon e_lat
  have D0 : Hid (DS w (((w.alloc (.cells HZ 63)).alloc (.cells #[.string ⟨s.toArray⟩, .int .i64 8, .int .i64 0] 160)).alloc (.cells HZ 63)) s 8 HZ) := Lib.hid (by
    have g0 := heap_alloc_new w (.cells HZ 63);have g1 := heap_alloc_new (w.alloc (.cells HZ 63)) (.cells #[.string ⟨s.toArray⟩, .int .i64 8, .int .i64 0] 160);have g2 := heap_alloc_new ((w.alloc (.cells HZ 63)).alloc (.cells #[.string ⟨s.toArray⟩, .int .i64 8, .int .i64 0] 160)) (.cells HZ 63);simp only [World.size_alloc] at g1 g2;exact ⟨(((Up.refl w).alloc _).alloc _).alloc _, ((Up.refl _).alloc _).obj g1, g2, (((Up.refl _).alloc _).alloc _).obj g0⟩)
  go_enter Tryz.func35, Tryz.ntmps35;go_wp2_with fail;refine (HP s [80, 77, 84, 105, 108, 101, 115] _).out.mono ?_;rintro e w0 ⟨rfl, rfl⟩;rw [hm];go_wp2_with fail;with_reducible refine (C_r0 _ D0.out.tb).out.mono ?_
  rintro e w1 ⟨rfl, hk, hb⟩;have D1 := Lib.hid (D0.out.call hk hb);clear hk hb D0;go_wp2_with fail;with_reducible refine (C_m0 _ D1.out.tb).out.mono ?_
  rintro e w2 ⟨rfl, hk, hb⟩;have D2 := Lib.hid (D1.out.call hk hb);clear hk hb D1;go_wp2_with fail;with_reducible refine (C_l0 _ D2.out.tb).out.mono ?_
  rintro e w3 ⟨rfl, hk, hb⟩;have D3 := Lib.hid (D2.out.call hk hb);clear hk hb D2;go_wp2_with fail;with_reducible refine (C_d0 _ D3.out.tb).out.mono ?_
  rintro e w4 ⟨rfl, hk, hb⟩;have D4 := Lib.hid (D3.out.call hk hb);clear hk hb D3;have E0 := D4.out;have p0 := blkc E0.hh 0 _ rfl;have f0 := blkf E0.hh 0;have E1 := E0.set 0 (.int .u64 (r0 : Int));have p1 := blkc E1.hh 1 _ rfl;have f1 := blkf E1.hh 1;have E2 := E1.set 1 (.int .u64 (r1 : Int));have p2 := blkc E2.hh 2 _ rfl;have f2 := blkf E2.hh 2;have E3 := E2.set 2 (.int .u64 (m0 : Int));have p3 := blkc E3.hh 3 _ rfl;have f3 := blkf E3.hh 3;have E4 := E3.set 3 (.int .u64 (m1 : Int));have p4 := blkc E4.hh 4 _ rfl;have f4 := blkf E4.hh 4;have E5 := E4.set 4 (.int .u64 (l0 : Int));have p5 := blkc E5.hh 5 _ rfl;have f5 := blkf E5.hh 5;have E6 := E5.set 5 (.int .u64 (l1 : Int));have p6 := blkc E6.hh 6 _ rfl;have f6 := blkf E6.hh 6;have E7 := E6.set 6 (.int .u64 (d0 : Int));have p7 := blkc E7.hh 7 _ rfl;have f7 := blkf E7.hh 7;have E8 := E7.set 7 (.int .u64 (d1 : Int));have D5 := Lib.hid (E8.cs (cs2 := HC r0 r1 m0 m1 l0 l1 d0 d1 0 0 0 false 0 0 0 0 0 0 0 0 0 0 0 0) rfl);clear E0 E1 E2 E3 E4 E5 E6 E7 E8 D4;go_wp2_with fail;clear p0 f0 p1 f1 p2 f2 p3 f3 p4 f4 p5 f5 p6 f6 p7 f7;with_reducible refine (C_adr _ D5.out.tb).out.mono ?_
  rintro e w6 ⟨rfl, hk, hb⟩;have D6 := Lib.hid (D5.out.call hk hb);clear hk hb D5;go_wp2_with fail;with_reducible refine (C_ent _ D6.out.tb).out.mono ?_
  rintro e w7 ⟨rfl, hk, hb⟩;have D7 := Lib.hid (D6.out.call hk hb);clear hk hb D6;go_wp2_with fail;with_reducible refine (C_con _ D7.out.tb).out.mono ?_
  rintro e w8 ⟨rfl, hk, hb⟩;have D8 := Lib.hid (D7.out.call hk hb);clear hk hb D7;have E0 := D8.out;have p0 := blkc E0.hh 8 _ rfl;have f0 := blkf E0.hh 8;have E1 := E0.set 8 (.int .u64 (adr : Int));have p1 := blkc E1.hh 9 _ rfl;have f1 := blkf E1.hh 9;have E2 := E1.set 9 (.int .u64 (ent : Int));have p2 := blkc E2.hh 10 _ rfl;have f2 := blkf E2.hh 10;have E3 := E2.set 10 (.int .u64 (con : Int));have D9 := Lib.hid (E3.cs (cs2 := HC r0 r1 m0 m1 l0 l1 d0 d1 adr ent con false 0 0 0 0 0 0 0 0 0 0 0 0) rfl);clear E0 E1 E2 E3 D8;go_wp2_with fail;clear p0 f0 p1 f1 p2 f2;with_reducible refine (C_cl _ D9.out.tb).out.mono ?_
  rintro e w10 ⟨rfl, hk, hb⟩;have D10 := Lib.hid (D9.out.call hk hb);clear hk hb D9;by_cases hcl : 1 < cl
  · have t1 : (1 : Int) < (cl : Int) := by omega
    obtain rfl : R = (HZ, 4) := by rw [← HRR.out, if_pos hcl]
    have bz := build_hz w10;have th1 : w10.there w.heap.size 0 24 := show _ from (th_blk D10.out.hr : World.there _ _ _ (HZ).size)
    have hrg := World.rangeAt_setCells_same w10 w.heap.size 0 (HZ).toList th1;have hu2 : Up w (w10.setCells w.heap.size 0 (HZ).toList) := up_setCells _ D10.out.up (Nat.le_refl _);obtain ⟨Y, hY⟩ : ∃ x, w10.setCells w.heap.size 0 (HZ).toList = x := ⟨_, rfl⟩;rw [hY] at hrg hu2;have HU := Lib.hid hu2;clear hu2;go_wp2_with (refine wpList_store_mid rfl 63 _ _ rfl w.heap.size 0 HZ rfl rfl th1 (by kernel_rfl) (by simp [Value.oneCell']) ?_; rw [hY])
    refine bodyPost_ret (results_cell_tmp rfl _ _ w.heap.size (HZ).toList _ rfl hrg Tryz.underlying63 rfl (by kernel_rfl)) rfl ?_;exact ⟨rfl, HU.out⟩
  have t1 : ¬ (1 : Int) < (cl : Int) := by omega
  have t2 : ((cl : Int) == 1) = clu := by rw [← HCL.out, Bool.eq_iff_iff, beq_iff_eq, beq_iff_eq]; omega
  have hR2 := HRR.out;rw [if_neg hcl] at hR2;replace HRR := Lib.hid hR2;clear hR2 hcl HCL;have E0 := D10.out;have p0 := blkc E0.hh 11 _ rfl;have f0 := blkf E0.hh 11;have E1 := E0.set 11 (.bool clu);have D11 := Lib.hid (E1.cs (cs2 := HC r0 r1 m0 m1 l0 l1 d0 d1 adr ent con clu 0 0 0 0 0 0 0 0 0 0 0 0) rfl);clear E0 E1 D10;go_wp2_with fail;clear p0 f0;with_reducible refine (C_inn _ D11.out.tb).out.mono ?_
  rintro e w12 ⟨rfl, hk, hb⟩;have D12 := Lib.hid (D11.out.call hk hb);clear hk hb D11;go_wp2_with fail;with_reducible refine (C_out _ D12.out.tb).out.mono ?_
  rintro e w13 ⟨rfl, hk, hb⟩;have D13 := Lib.hid (D12.out.call hk hb);clear hk hb D12;go_wp2_with fail;with_reducible refine (C_kind _ D13.out.tb).out.mono ?_
  rintro e w14 ⟨rfl, hk, hb⟩;have D14 := Lib.hid (D13.out.call hk hb);clear hk hb D13;have E0 := D14.out;have p0 := blkc E0.hh 12 _ rfl;have f0 := blkf E0.hh 12;have E1 := E0.set 12 (.int .u8 (inn : Int));have p1 := blkc E1.hh 13 _ rfl;have f1 := blkf E1.hh 13;have E2 := E1.set 13 (.int .u8 (out : Int));have p2 := blkc E2.hh 14 _ rfl;have f2 := blkf E2.hh 14;have E3 := E2.set 14 (.int .u8 (kind : Int));have D15 := Lib.hid (E3.cs (cs2 := HC r0 r1 m0 m1 l0 l1 d0 d1 adr ent con clu inn out kind 0 0 0 0 0 0 0 0 0) rfl);clear E0 E1 E2 E3 D14;go_wp2_with fail;clear p0 f0 p1 f1 p2 f2;with_reducible refine (C_minz _ D15.out.tb).out.mono ?_
  rintro e w16 ⟨rfl, hk, hb⟩;have D16 := Lib.hid (D15.out.call hk hb);clear hk hb D15;go_wp2_with fail;with_reducible refine (C_maxz _ D16.out.tb).out.mono ?_
  rintro e w17 ⟨rfl, hk, hb⟩;have D17 := Lib.hid (D16.out.call hk hb);clear hk hb D16;have E0 := D17.out;have p0 := blkc E0.hh 15 _ rfl;have f0 := blkf E0.hh 15;have E1 := E0.set 15 (.int .i64 (minz : Int));have p1 := blkc E1.hh 16 _ rfl;have f1 := blkf E1.hh 16;have E2 := E1.set 16 (.int .i64 (maxz : Int));have D18 := Lib.hid (E2.cs (cs2 := HC r0 r1 m0 m1 l0 l1 d0 d1 adr ent con clu inn out kind minz maxz 0 0 0 0 0 0 0) rfl);clear E0 E1 E2 D17;go_wp2_with fail;clear p0 f0 p1 f1;with_reducible refine (C_minlon _ D18.out.tb).out.mono ?_
  rintro e w19 ⟨rfl, hk, hb⟩;have D19 := Lib.hid (D18.out.call hk hb);clear hk hb D18;go_wp2_with fail;with_reducible refine (C_minlat _ D19.out.tb).out.mono ?_
  rintro e w20 ⟨rfl, hk, hb⟩;have D20 := Lib.hid (D19.out.call hk hb);clear hk hb D19;go_wp2_with fail;with_reducible refine (C_maxlon _ D20.out.tb).out.mono ?_
  rintro e w21 ⟨rfl, hk, hb⟩;have D21 := Lib.hid (D20.out.call hk hb);clear hk hb D20;go_wp2_with fail;with_reducible refine (C_maxlat _ D21.out.tb).out.mono ?_
  rintro e w22 ⟨rfl, hk, hb⟩;have D22 := Lib.hid (D21.out.call hk hb);clear hk hb D21;have E0 := D22.out;have p0 := blkc E0.hh 17 _ rfl;have f0 := blkf E0.hh 17;have E1 := E0.set 17 (.int .i64 minlon);have p1 := blkc E1.hh 18 _ rfl;have f1 := blkf E1.hh 18;have E2 := E1.set 18 (.int .i64 minlat);have p2 := blkc E2.hh 19 _ rfl;have f2 := blkf E2.hh 19;have E3 := E2.set 19 (.int .i64 maxlon);have p3 := blkc E3.hh 20 _ rfl;have f3 := blkf E3.hh 20;have E4 := E3.set 20 (.int .i64 maxlat);have D23 := Lib.hid (E4.cs (cs2 := HC r0 r1 m0 m1 l0 l1 d0 d1 adr ent con clu inn out kind minz maxz minlon minlat maxlon maxlat 0 0 0) rfl);clear E0 E1 E2 E3 E4 D22;go_wp2_with fail;clear p0 f0 p1 f1 p2 f2 p3 f3;with_reducible refine (C_zoom _ D23.out.tb).out.mono ?_
  rintro e w24 ⟨rfl, hk, hb⟩;have D24 := Lib.hid (D23.out.call hk hb);clear hk hb D23;go_wp2_with fail;with_reducible refine (C_lon _ D24.out.tb).out.mono ?_
  rintro e w25 ⟨rfl, hk, hb⟩;have D25 := Lib.hid (D24.out.call hk hb);clear hk hb D24;go_wp2_with fail;with_reducible refine (C_lat _ D25.out.tb).out.mono ?_
  rintro e w26 ⟨rfl, hk, hb⟩;have D26 := Lib.hid (D25.out.call hk hb);clear hk hb D25;have E0 := D26.out;have p0 := blkc E0.hh 21 _ rfl;have f0 := blkf E0.hh 21;have E1 := E0.set 21 (.int .i64 (zoom : Int));have p1 := blkc E1.hh 22 _ rfl;have f1 := blkf E1.hh 22;have E2 := E1.set 22 (.int .i64 lon);have p2 := blkc E2.hh 23 _ rfl;have f2 := blkf E2.hh 23;have E3 := E2.set 23 (.int .i64 lat);have D27 := Lib.hid (E3.cs (cs2 := HC r0 r1 m0 m1 l0 l1 d0 d1 adr ent con clu inn out kind minz maxz minlon minlat maxlon maxlat zoom lon lat) rfl);clear E0 E1 E2 E3 D26;go_wp2_with (refine wpList_load_mid rfl 63 _ rfl (w.heap.size + 1 + 1) 0 rfl (HC r0 r1 m0 m1 l0 l1 d0 d1 adr ent con clu inn out kind minz maxz minlon minlat maxlon maxlat zoom lon lat).toList _ (rg_blk D27.out.hh) Tryz.underlying63 rfl (by kernel_rfl) ?_)
  clear p0 f0 p1 f1 p2 f2;refine (CK _).out.mono ?_;rintro e y0 ⟨rfl, hu⟩;have DX := Lib.hid (D27.out.more hu);clear hu D27;by_cases hE0 : E = 0
  rotate_left
  · have hEb : (E == 0) = false := by rw [beq_eq_false_iff_ne]; exact hE0
    obtain rfl : R = (HZ, E) := by rw [← HRR.out, if_neg hE0]
    have bz := build_hz y0;have th1 : y0.there w.heap.size 0 24 := show _ from (th_blk DX.out.hr : World.there _ _ _ (HZ).size)
    have hrg := World.rangeAt_setCells_same y0 w.heap.size 0 (HZ).toList th1;have hu2 : Up w (y0.setCells w.heap.size 0 (HZ).toList) := up_setCells _ DX.out.up (Nat.le_refl _);obtain ⟨Y, hY⟩ : ∃ x, y0.setCells w.heap.size 0 (HZ).toList = x := ⟨_, rfl⟩;rw [hY] at hrg hu2;have HU := Lib.hid hu2;clear hu2;go_wp2_with (refine wpList_store_mid rfl 63 _ _ rfl w.heap.size 0 HZ rfl rfl th1 (by kernel_rfl) (by simp [Value.oneCell']) ?_; rw [hY])
    refine bodyPost_ret (results_cell_tmp rfl _ _ w.heap.size (HZ).toList _ rfl hrg Tryz.underlying63 rfl (by kernel_rfl)) rfl ?_;exact ⟨rfl, HU.out⟩
  subst hE0;obtain rfl : R = (HC r0 r1 m0 m1 l0 l1 d0 d1 adr ent con clu inn out kind minz maxz minlon minlat maxlon maxlat zoom lon lat, 0) := by rw [← HRR.out, if_pos rfl]
  have HTH := Lib.hid (th_blk DX.out.hr)
  go_wp2_with (first
    | (refine wpList_load_mid rfl 63 _ rfl (w.heap.size + 1 + 1) 0 rfl (HC r0 r1 m0 m1 l0 l1 d0 d1 adr ent con clu inn out kind minz maxz minlon minlat maxlon maxlat zoom lon lat).toList _ (rg_blk DX.out.hh) Tryz.underlying63 rfl (by kernel_rfl) ?_)
    | (refine wpList_store_mid rfl 63 _ _ rfl w.heap.size 0 (HC r0 r1 m0 m1 l0 l1 d0 d1 adr ent con clu inn out kind minz maxz minlon minlat maxlon maxlat zoom lon lat) rfl rfl HTH.out (by kernel_rfl) (by simp [Value.oneCell']) ?_))
  refine bodyPost_ret (results_cell_tmp rfl _ _ w.heap.size (HC r0 r1 m0 m1 l0 l1 d0 d1 adr ent con clu inn out kind minz maxz minlon minlat maxlon maxlat zoom lon lat).toList _ rfl (World.rangeAt_setCells_same y0 w.heap.size 0 (HC r0 r1 m0 m1 l0 l1 d0 d1 adr ent con clu inn out kind minz maxz minlon minlat maxlon maxlat zoom lon lat).toList HTH.out) Tryz.underlying63 rfl (by kernel_rfl)) rfl ?_;exact ⟨rfl, up_setCells _ DX.out.up (Nat.le_refl _)⟩
theorem hdec_good (s : Bs) (hs : s.length ≤ 1000000000) (hl : 127 ≤ s.length) (hm : Lib.hasPrefix s [80, 77, 84, 105, 108, 101, 115] = true) (hv : s[7]? = some 3)
    (r0 r1 m0 m1 l0 l1 d0 d1 adr ent con : Nat) (clu : Bool) (inn out kind minz maxz : Nat) (minlon minlat maxlon maxlat : Int) (zoom : Nat) (lon lat : Int)
    (e_r0 : nAt s 8 8 = r0) (e_r1 : nAt s 16 8 = r1) (e_m0 : nAt s 24 8 = m0) (e_m1 : nAt s 32 8 = m1) (e_l0 : nAt s 40 8 = l0) (e_l1 : nAt s 48 8 = l1) (e_d0 : nAt s 56 8 = d0) (e_d1 : nAt s 64 8 = d1) (e_adr : nAt s 72 8 = adr) (e_ent : nAt s 80 8 = ent) (e_con : nAt s 88 8 = con) (e_cl : nAt s 96 1 = clu.toNat) (e_inn : nAt s 97 1 = inn) (e_out : nAt s 98 1 = out) (e_kind : nAt s 99 1 = kind) (e_minz : nAt s 100 1 = minz) (e_maxz : nAt s 101 1 = maxz) (e_minlon : nAt s 102 4 = uns4 minlon) (e_minlat : nAt s 106 4 = uns4 minlat) (e_maxlon : nAt s 110 4 = uns4 maxlon) (e_maxlat : nAt s 114 4 = uns4 maxlat) (e_zoom : nAt s 118 1 = zoom) (e_lon : nAt s 119 4 = uns4 lon) (e_lat : nAt s 123 4 = uns4 lat)
    (hi : inn < 256 ∧ out < 256 ∧ kind < 256 ∧ minz < 256 ∧ maxz < 256 ∧ zoom < 256)
    (h1 : -2147483648 ≤ minlon ∧ minlon < 2147483648) (h2 : -2147483648 ≤ minlat ∧ minlat < 2147483648) (h3 : -2147483648 ≤ maxlon ∧ maxlon < 2147483648) (h4 : -2147483648 ≤ maxlat ∧ maxlat < 2147483648) (h5 : -2147483648 ≤ lon ∧ lon < 2147483648) (h6 : -2147483648 ≤ lat ∧ lat < 2147483648)
    (CK : ∀ w, Hid (Calls Tryz.prog 80 #[.agg (HC r0 r1 m0 m1 l0 l1 d0 d1 adr ent con clu inn out kind minz maxz minlon minlat maxlon maxlat zoom lon lat)] w fun e w' => e = .returned (.int .i64 0) ∧ Up w w')) (w : World) :
    Calls Tryz.prog 35 #[.string ⟨s.toArray⟩] w fun e w' => e = .returned (.tuple #[.agg (HC r0 r1 m0 m1 l0 l1 d0 d1 adr ent con clu inn out kind minz maxz minlon minlat maxlon maxlat zoom lon lat), .int .i64 0]) ∧ Up w w' := by
  have hc : (clu.toNat == 1) = clu := by cases clu <;> rfl
  have := hdec_cl s hs hl hm hv r0 r1 m0 m1 l0 l1 d0 d1 adr ent con clu.toNat inn out kind minz maxz minlon minlat maxlon maxlat zoom lon lat e_r0 e_r1 e_m0 e_m1 e_l0 e_l1 e_d0 e_d1 e_adr e_ent e_con e_cl e_inn e_out e_kind e_minz e_maxz e_minlon e_minlat e_maxlon e_maxlat e_zoom e_lon e_lat hi h1 h2 h3 h4 h5 h6 0 (by rw [hc]; exact CK) w;rw [if_neg (by cases clu <;> decide), if_pos rfl, hc] at this;exact this
end Go.Proofs.YtbfieomjobbhoaaGreatDoor
/- Walk: header.Decode of every text. -/
namespace Go.Gz
theorem nAt_lt (s : Bs) (p n : Nat) (h : p + n ≤ s.length) : nAt s p n < 256 ^ n := by
  unfold nAt;have := leV_lt ((s.drop p).take n);rwa [List.length_take, List.length_drop, Nat.min_eq_left (by omega)] at this
theorem uns_sgn {x : Nat} (h : x < 4294967296) : uns4 (sgn4 x) = x ∧ -2147483648 ≤ sgn4 x ∧ sgn4 x < 2147483648 := by
  unfold uns4 sgn4;split <;> omega
theorem pre_iff (s p : Bs) : (Lib.hasPrefix s p = true) ↔ s.take p.length = p := by
  unfold Lib.hasPrefix;rw [List.isPrefixOf_iff_prefix, List.prefix_iff_eq_take];exact eq_comm
theorem ver_iff {s : Bs} {v : UInt8} (h : s[7]? = some v) : (s.drop 7).take 1 = [v] := by
  obtain ⟨hl, hv⟩ := List.getElem?_eq_some_iff.1 h;rw [List.drop_eq_getElem_cons hl, hv];rfl
end Go.Gz
namespace Go.Proofs.YtbfieomjobbhoaaGreatDoor
open Go.RowKit Go.Gz Go.Shelf

set_option maxRecDepth 100000
set_option maxHeartbeats 8000000 in
theorem hdec_magic (s : Bs) (hl : 127 ≤ s.length) (hm : Lib.hasPrefix s [80, 77, 84, 105, 108, 101, 115] = false) (w : World) :
    Calls Tryz.prog 35 #[.string ⟨s.toArray⟩] w (DecE w (HZ, 12)) := by
  have HP : ∀ (x p : Bs) (w : World), Hid (Calls Tryz.prog 76 #[.string ⟨x.toArray⟩, .string ⟨p.toArray⟩] w fun e w' => e = .returned (.bool (Lib.hasPrefix x p)) ∧ w' = w) := fun x p w => Lib.hid (Tryz.strings_HasPrefix ⟨x.toArray⟩ ⟨p.toArray⟩ w);have t0 : ¬ (s.length : Int) < 127 := by omega
  have hb := heap_alloc_new w (.cells HZ 63);have hu := (Up.refl w).alloc (.cells HZ 63);go_enter Tryz.func35, Tryz.ntmps35;go_wp2_with fail;refine (HP s [80, 77, 84, 105, 108, 101, 115] _).out.mono ?_;rintro e w0 ⟨rfl, rfl⟩;rw [hm];have bz := build_hz (w.alloc (.cells HZ 63));have th1 : (w.alloc (.cells HZ 63)).there w.heap.size 0 24 := show _ from (th_blk hb : World.there _ _ _ (HZ).size)
  have hrg := World.rangeAt_setCells_same (w.alloc (.cells HZ 63)) w.heap.size 0 (HZ).toList th1;have hu2 : Up w ((w.alloc (.cells HZ 63)).setCells w.heap.size 0 (HZ).toList) := up_setCells _ hu (Nat.le_refl _);obtain ⟨Y, hY⟩ : ∃ x, (w.alloc (.cells HZ 63)).setCells w.heap.size 0 (HZ).toList = x := ⟨_, rfl⟩;rw [hY] at hrg hu2;have HU := Lib.hid hu2;clear hu2;go_wp2_with (refine wpList_store_mid rfl 63 _ _ rfl w.heap.size 0 HZ rfl rfl th1 (by kernel_rfl) (by simp [Value.oneCell']) ?_; rw [hY])
  refine bodyPost_ret (results_cell_tmp rfl _ _ w.heap.size (HZ).toList _ rfl hrg Tryz.underlying63 rfl (by kernel_rfl)) rfl ?_;exact ⟨rfl, HU.out⟩
set_option maxHeartbeats 8000000 in
theorem hdec_ver (s : Bs) (hl : 127 ≤ s.length) (hm : Lib.hasPrefix s [80, 77, 84, 105, 108, 101, 115] = true) (v : UInt8) (hv : s[7]? = some v) (h3 : v ≠ 3) (w : World) :
    Calls Tryz.prog 35 #[.string ⟨s.toArray⟩] w (DecE w (HZ, 13)) := by
  have HP : ∀ (x p : Bs) (w : World), Hid (Calls Tryz.prog 76 #[.string ⟨x.toArray⟩, .string ⟨p.toArray⟩] w fun e w' => e = .returned (.bool (Lib.hasPrefix x p)) ∧ w' = w) := fun x p w => Lib.hid (Tryz.strings_HasPrefix ⟨x.toArray⟩ ⟨p.toArray⟩ w);have t0 : ¬ (s.length : Int) < 127 := by omega
  have hb := heap_alloc_new w (.cells HZ 63);have hu := (Up.refl w).alloc (.cells HZ 63);have hb7 : (⟨s.toArray⟩ : ByteArray)[7]'(by rw [size_mk]; exact Nat.lt_of_lt_of_le (by decide) hl) = v := by
    rw [List.getElem?_eq_getElem (Nat.lt_of_lt_of_le (by decide) hl)] at hv;injection hv
  have hvb : ((v.toNat : Int) != 3) = true := by
    rw [bne_iff_ne];intro e;exact h3 (UInt8.toNat_inj.1 (by have : (3 : UInt8).toNat = 3 := rfl; omega))
  go_enter Tryz.func35, Tryz.ntmps35;go_wp2_with fail;refine (HP s [80, 77, 84, 105, 108, 101, 115] _).out.mono ?_;rintro e w0 ⟨rfl, rfl⟩;rw [hm];have bz := build_hz (w.alloc (.cells HZ 63));have th1 : (w.alloc (.cells HZ 63)).there w.heap.size 0 24 := show _ from (th_blk hb : World.there _ _ _ (HZ).size)
  have hrg := World.rangeAt_setCells_same (w.alloc (.cells HZ 63)) w.heap.size 0 (HZ).toList th1;have hu2 : Up w ((w.alloc (.cells HZ 63)).setCells w.heap.size 0 (HZ).toList) := up_setCells _ hu (Nat.le_refl _);obtain ⟨Y, hY⟩ : ∃ x, (w.alloc (.cells HZ 63)).setCells w.heap.size 0 (HZ).toList = x := ⟨_, rfl⟩;rw [hY] at hrg hu2;have HU := Lib.hid hu2;clear hu2;go_wp2_with (refine wpList_store_mid rfl 63 _ _ rfl w.heap.size 0 HZ rfl rfl th1 (by kernel_rfl) (by simp [Value.oneCell']) ?_; rw [hY])
  refine bodyPost_ret (results_cell_tmp rfl _ _ w.heap.size (HZ).toList _ rfl hrg Tryz.underlying63 rfl (by kernel_rfl)) rfl ?_;exact ⟨rfl, HU.out⟩
/-- what header.Decode tells -/
def decH (s : Bs) : Array Value × Int := if hdrDE s = 0 then (HC (nAt s 8 8) (nAt s 16 8) (nAt s 24 8) (nAt s 32 8) (nAt s 40 8) (nAt s 48 8) (nAt s 56 8) (nAt s 64 8) (nAt s 72 8) (nAt s 80 8) (nAt s 88 8) (nAt s 96 1 == 1) (nAt s 97 1) (nAt s 98 1) (nAt s 99 1) (nAt s 100 1) (nAt s 101 1) (sgn4 (nAt s 102 4)) (sgn4 (nAt s 106 4)) (sgn4 (nAt s 110 4)) (sgn4 (nAt s 114 4)) (nAt s 118 1) (sgn4 (nAt s 119 4)) (sgn4 (nAt s 123 4)), 0) else (HZ, hdrDE s)
theorem decH_of {s : Bs} {E : Int} (h : hdrDE s = E) : decH s = if E = 0 then (HC (nAt s 8 8) (nAt s 16 8) (nAt s 24 8) (nAt s 32 8) (nAt s 40 8) (nAt s 48 8) (nAt s 56 8) (nAt s 64 8) (nAt s 72 8) (nAt s 80 8) (nAt s 88 8) (nAt s 96 1 == 1) (nAt s 97 1) (nAt s 98 1) (nAt s 99 1) (nAt s 100 1) (nAt s 101 1) (sgn4 (nAt s 102 4)) (sgn4 (nAt s 106 4)) (sgn4 (nAt s 110 4)) (sgn4 (nAt s 114 4)) (nAt s 118 1) (sgn4 (nAt s 119 4)) (sgn4 (nAt s 123 4)), 0) else (HZ, E) := by
  subst h; rfl
theorem decH_bad {s : Bs} {E : Int} (h : hdrDE s = E) (hE : E ≠ 0) : decH s = (HZ, E) := by rw [decH_of h, if_neg hE]
theorem hdec_any (s : Bs) (hs : s.length ≤ 1000000000) (w : World) :
    Calls Tryz.prog 35 #[.string ⟨s.toArray⟩] w (DecE w (decH s)) := by
  by_cases h0 : s.length < 127
  · rw [decH_bad (E := 3) (by unfold hdrDE; rw [if_pos h0]) (by decide)];exact hdec_short s h0 w
  by_cases h1 : s.take 7 = [80, 77, 84, 105, 108, 101, 115]
  rotate_left
  · rw [decH_bad (E := 12) (by unfold hdrDE; rw [if_neg h0, if_pos h1]) (by decide)];exact hdec_magic s (by omega) (Bool.eq_false_iff.2 fun h => h1 ((pre_iff _ _).1 h)) w
  obtain ⟨v, hv⟩ : ∃ v, s[7]? = some v := ⟨_, List.getElem?_eq_getElem (by omega)⟩;have hv1 := ver_iff hv;have hd : ∀ h2 : v = 3, hdrDE s = if 1 < nAt s 96 1 then 4 else hdrE (hdrD s) := fun h2 => by
    unfold hdrDE;rw [if_neg h0, if_neg (fun h => h h1), hv1, h2, if_neg (fun h => h rfl)]
  by_cases h2 : v = 3
  rotate_left
  · rw [decH_bad (E := 13) (by unfold hdrDE; rw [if_neg h0, if_neg (fun h => h h1), hv1, if_pos (by simpa using h2)]) (by decide)];exact hdec_ver s (by omega) ((pre_iff _ _).2 h1) v hv h2 w
  have n1 : ∀ p, p + 1 ≤ s.length → nAt s p 1 < 256 := fun p h => nAt_lt s p 1 h;have sg : ∀ p, p + 4 ≤ s.length → uns4 (sgn4 (nAt s p 4)) = nAt s p 4 ∧ -2147483648 ≤ sgn4 (nAt s p 4) ∧ sgn4 (nAt s p 4) < 2147483648 := fun p h => uns_sgn (nAt_lt s p 4 h);have CK := fun w => Lib.hid (hchk_any (hdrD s) w)
  have := hdec_cl s hs (by omega) ((pre_iff _ _).2 h1) (h2 ▸ hv) (nAt s 8 8) (nAt s 16 8) (nAt s 24 8) (nAt s 32 8) (nAt s 40 8) (nAt s 48 8) (nAt s 56 8) (nAt s 64 8) (nAt s 72 8) (nAt s 80 8) (nAt s 88 8) (nAt s 96 1) (nAt s 97 1) (nAt s 98 1) (nAt s 99 1) (nAt s 100 1) (nAt s 101 1) (sgn4 (nAt s 102 4)) (sgn4 (nAt s 106 4)) (sgn4 (nAt s 110 4)) (sgn4 (nAt s 114 4)) (nAt s 118 1) (sgn4 (nAt s 119 4)) (sgn4 (nAt s 123 4)) rfl rfl rfl rfl rfl rfl rfl rfl rfl rfl rfl rfl rfl rfl rfl rfl rfl (sg 102 (by omega)).1.symm (sg 106 (by omega)).1.symm (sg 110 (by omega)).1.symm (sg 114 (by omega)).1.symm rfl (sg 119 (by omega)).1.symm (sg 123 (by omega)).1.symm
    ⟨n1 97 (by omega), n1 98 (by omega), n1 99 (by omega), n1 100 (by omega), n1 101 (by omega), n1 118 (by omega)⟩ (sg 102 (by omega)).2 (sg 106 (by omega)).2 (sg 110 (by omega)).2 (sg 114 (by omega)).2 (sg 119 (by omega)).2 (sg 123 (by omega)).2 (hdrE (hdrD s)) CK w
  by_cases h4 : 1 < nAt s 96 1
  · rw [if_pos h4] at this;rw [decH_bad (E := 4) (by rw [hd h2, if_pos h4]) (by decide)];exact this
  rw [if_neg h4] at this;rw [decH_of (E := hdrE (hdrD s)) (by rw [hd h2, if_neg h4])];exact this
end Go.Proofs.YtbfieomjobbhoaaGreatDoor
/- Walk: header.Decode of the header of an archive that press.Press makes. -/
namespace Go.Gz
/-- the header of a chart's archive -/
def pressH (L : Items) (b kind : Nat) (note : Bs) : Hdr := withH (headH L (rowsL L).1 kind) (dirB (splitV (rowsL L).1 b).2.1).length note.length (splitV (rowsL L).1 b).2.2.1.length (rowsL L).2.flatten.length
theorem split_len {L : Items} (h : Good L) (hl : L.length ≤ 1000) (ht : total L ≤ 1000000000) {b : Nat} (hb : 512 ≤ b) (hb2 : b ≤ 16257) : (splitV (rowsL L).1 b).2.2.1.length ≤ 67108864 := by
  obtain ⟨i1, i2, i3, i4, i5, i6, i7, i8⟩ := rows_inv L h (by omega);have hrow := rows_row h (by omega);have hok := rows_ok h (by omega);obtain ⟨s1, s2, s3, s4⟩ := split_ok hb hb2 hrow hok (by omega) (fun e he => (i6 e he).2.1);rcases s4 with ⟨e, _⟩ | ⟨n, hn, _, e, hall⟩
  · rw [e]; simp
  · rw [e];have := dirs_len hall;have h2 := flat_len (cut_ne (rowsL L).1 hn);rw [cut_flat _ hn] at h2;omega
theorem part_at (a b c : Bs) (n m : Nat) (hn : a.length = n) (hm : b.length = m) : part (a ++ (b ++ c)) n m = b := by
  subst hn; subst hm;unfold part;rw [List.drop_left, List.take_left]
/-- an archive with anything behind it -/
theorem press_at {L : Items} (h : Good L) (hl : L.length ≤ 1000) (ht : total L ≤ 400000) {b kind : Nat} (hb : 512 ≤ b) (hb2 : b ≤ 16257) (hk : kind ≤ 5) {note : Bs} (hn : note.length ≤ 4096) :
    (pressV L b kind note).2 = hdrB (pressH L b kind note) ++ (dirB (splitV (rowsL L).1 b).2.1 ++ (note ++ ((splitV (rowsL L).1 b).2.2.1 ++ (rowsL L).2.flatten))) ∧ hdrE (pressH L b kind note) = 0 ∧ OkH (pressH L b kind note) ∧ (dirB (splitV (rowsL L).1 b).2.1).length ≤ b ∧ (rowsL L).2.flatten.length ≤ total L := by
  obtain ⟨root, text, e, h0, hr, hx, hrl, _⟩ := press_ok h hl (by omega : total L ≤ 1000000000) hb hb2 hk hn;subst hr; subst hx;obtain ⟨i1, _, _, _, i5, _, _, _⟩ := rows_inv L h (by omega);refine ⟨by rw [e]; rfl, h0, ⟨?_, ?_, ?_⟩, hrl, i5⟩
  · show L.length < _
    omega
  · show (rowsL L).1.length < _
    omega
  · show contE (rowsL L).1 < _
    have := seenE_len (rowsL L).1;omega
end Go.Gz
namespace Go.Proofs.YtbfieomjobbhoaaGreatDoor
open Go.RowKit Go.Gz Go.Shelf

set_option maxRecDepth 100000
theorem hdec_hdr (h : Hdr) (e : hdrE h = 0) (ok : OkH h) (t : Bs) (ht : t.length ≤ 900000000) (w : World) :
    Calls Tryz.prog 35 #[.string ⟨(hdrB h ++ t).toArray⟩] w fun en w' => en = .returned (.tuple #[hdrV h, .int .i64 0]) ∧ Up w w' := by
  have hl := hdrB_len h;have CK := fun w => Lib.hid (hchk_good h e w);have p8 : (256 : Nat) ^ 8 = 18446744073709551616 := by decide
  have p1 : (256 : Nat) ^ 1 = 256 := by decide
  have hcl : h.clu.toNat < 256 := by cases h.clu <;> decide
  have R := rd_pc h t;obtain ⟨e1, e2, e3, e4, e5⟩ := hdr_ok e;obtain ⟨o1, o2, o3⟩ := ok;have hsl : (hdrB h ++ t).length = 127 + t.length := by rw [List.length_append, hl]
  have hpre : Lib.hasPrefix (hdrB h ++ t) [80, 77, 84, 105, 108, 101, 115] = true := by unfold hdrB; rfl
  have hver : (hdrB h ++ t)[7]? = some 3 := by unfold hdrB; rfl
  unfold TOT at e1;clear e hl;obtain ⟨r0, r1, m0, m1, l0, l1, d0, d1, adr, ent, con, clu, inn, out, kind, minz, maxz, minlon, minlat, maxlon, maxlat, zoom, lon, lat⟩ := h;simp only at e1 e2 e3 e4 e5 o1 o2 o3 hcl;obtain ⟨z1, rfl⟩ : ∃ n : Nat, minz = (n : Int) := ⟨minz.toNat, by omega⟩;obtain ⟨z2, rfl⟩ : ∃ n : Nat, maxz = (n : Int) := ⟨maxz.toNat, by omega⟩;obtain ⟨z3, rfl⟩ : ∃ n : Nat, zoom = (n : Int) := ⟨zoom.toNat, by omega⟩
  refine hdec_good _ (by omega) (by omega) hpre hver r0 r1 m0 m1 l0 l1 d0 d1 adr ent con clu inn out kind z1 z2 minlon minlat maxlon maxlat z3 lon lat
    (R 0 8 8 r0 rfl (by simp [pcs, wideP]) (by omega)) (R 1 16 8 r1 rfl (by simp [pcs, wideP]) (by omega)) (R 2 24 8 m0 rfl (by simp [pcs, wideP]) (by omega)) (R 3 32 8 m1 rfl (by simp [pcs, wideP]) (by omega))
    (R 4 40 8 l0 rfl (by simp [pcs, wideP]) (by omega)) (R 5 48 8 l1 rfl (by simp [pcs, wideP]) (by omega)) (R 6 56 8 d0 rfl (by simp [pcs, wideP]) (by omega)) (R 7 64 8 d1 rfl (by simp [pcs, wideP]) (by omega))
    (R 8 72 8 adr rfl (by simp [pcs, wideP]) (by omega)) (R 9 80 8 ent rfl (by simp [pcs, wideP]) (by omega)) (R 10 88 8 con rfl (by simp [pcs, wideP]) (by omega)) (R 11 96 1 clu.toNat rfl (by simp [pcs, wideP]) (by omega))
    (R 12 97 1 inn rfl (by simp [pcs, wideP]) (by omega)) (R 13 98 1 out rfl (by simp [pcs, wideP]) (by omega)) (R 14 99 1 kind rfl (by simp [pcs, wideP]) (by omega)) (R 15 100 1 z1 rfl (by simp [pcs, wideP]) (by omega)) (R 16 101 1 z2 rfl (by simp [pcs, wideP]) (by omega))
    (R 17 102 4 (uns4 minlon) rfl (by simp [pcs, wideP]) (uns_lt _)) (R 18 106 4 (uns4 minlat) rfl (by simp [pcs, wideP]) (uns_lt _)) (R 19 110 4 (uns4 maxlon) rfl (by simp [pcs, wideP]) (uns_lt _)) (R 20 114 4 (uns4 maxlat) rfl (by simp [pcs, wideP]) (uns_lt _))
    (R 21 118 1 z3 rfl (by simp [pcs, wideP]) (by omega)) (R 22 119 4 (uns4 lon) rfl (by simp [pcs, wideP]) (uns_lt _)) (R 23 123 4 (uns4 lat) rfl (by simp [pcs, wideP]) (uns_lt _))
    (by omega) (by omega) (by omega) (by omega) (by omega) (by omega) (by omega) CK w
end Go.Proofs.YtbfieomjobbhoaaGreatDoor
/- Walk: layout.Cut of what press.Press makes. -/
namespace Go.Proofs.YtbfieomjobbhoaaGreatDoor
open Go.RowKit Go.Gz Go.Shelf

set_option maxRecDepth 100000
theorem lcut_hdr (h : Hdr) (e : hdrE h = 0) (ok : OkH h) (t : Bs) (ht : t.length ≤ 900000000) (h0 : h.r0 + h.r1 ≤ 127 + t.length) (h1 : h.m0 + h.m1 ≤ 127 + t.length) (h2 : h.l0 + h.l1 ≤ 127 + t.length) (h3 : h.d0 + h.d1 ≤ 127 + t.length) (w : World) :
    Calls Tryz.prog 24 #[.string ⟨(hdrB h ++ t).toArray⟩] w fun en w' => en = .returned (.tuple #[hdrV h, .agg (S4 (Gz.part (hdrB h ++ t) h.r0 h.r1) (Gz.part (hdrB h ++ t) h.m0 h.m1) (Gz.part (hdrB h ++ t) h.l0 h.l1) (Gz.part (hdrB h ++ t) h.d0 h.d1)), .int .i64 0]) ∧ Up w w' := by
  have DC := fun w => Lib.hid (hdec_hdr h e ok t ht w);have hsl : (hdrB h ++ t).length = 127 + t.length := by rw [List.length_append, hdrB_len h]
  obtain ⟨e1, e2, e3, e4, e5⟩ := hdr_ok e;generalize hdrB h ++ t = s at *;clear e ok;obtain ⟨r0, r1, m0, m1, l0, l1, d0, d1, adr, ent, con, clu, inn, out, kind, minz, maxz, minlon, minlat, maxlon, maxlat, zoom, lon, lat⟩ := h;simp only at e1 e2 e3 e4 e5 h0 h1 h2 h3 ⊢;obtain ⟨z1, rfl⟩ : ∃ n : Nat, minz = (n : Int) := ⟨minz.toNat, by omega⟩;obtain ⟨z2, rfl⟩ : ∃ n : Nat, maxz = (n : Int) := ⟨maxz.toNat, by omega⟩;obtain ⟨z3, rfl⟩ : ∃ n : Nat, zoom = (n : Int) := ⟨zoom.toNat, by omega⟩;exact lcut_good s (by omega) r0 r1 m0 m1 l0 l1 d0 d1 adr ent con clu inn out kind z1 z2 minlon minlat maxlon maxlat z3 lon lat (by omega) (by omega) (by omega) (by omega) DC w
/-- what was pressed is cut into its parts, with anything behind it, too -/
theorem acut_any {L : Items} (hg : Gz.Good L) (hl : L.length ≤ 1000) (ht : total L ≤ 400000) {b kind : Nat} (hb : 512 ≤ b) (hb2 : b ≤ 16257) (hk : kind ≤ 5) {note : Bs} (hn : note.length ≤ 4096) (t : Bs) (htl : t.length ≤ 1000000) (w : World) :
    Calls Tryz.prog 24 #[.string ⟨((pressV L b kind note).2 ++ t).toArray⟩] w fun en w' => en = .returned (.tuple #[hdrV (pressH L b kind note), .agg (S4 (dirB (splitV (rowsL L).1 b).2.1) note (splitV (rowsL L).1 b).2.2.1 (rowsL L).2.flatten), .int .i64 0]) ∧ Up w w' := by
  obtain ⟨e, h0, ok, hrl, hdl⟩ := press_at hg hl ht hb hb2 hk hn;have htx := split_len hg hl (by omega : total L ≤ 1000000000) hb hb2;have k0 : (pressH L b kind note).r0 = 127 := rfl;have k1 : (pressH L b kind note).r1 = (dirB (splitV (rowsL L).1 b).2.1).length := rfl;have k2 : (pressH L b kind note).m0 = 127 + (dirB (splitV (rowsL L).1 b).2.1).length := rfl;have k3 : (pressH L b kind note).m1 = note.length := rfl;have k4 : (pressH L b kind note).l0 = 127 + (dirB (splitV (rowsL L).1 b).2.1).length + note.length := rfl;have k5 : (pressH L b kind note).l1 = (splitV (rowsL L).1 b).2.2.1.length := rfl;have k6 : (pressH L b kind note).d0 = 127 + (dirB (splitV (rowsL L).1 b).2.1).length + note.length + (splitV (rowsL L).1 b).2.2.1.length := rfl;have k7 : (pressH L b kind note).d1 = (rowsL L).2.flatten.length := rfl;rw [e];generalize pressH L b kind note = h at *;generalize dirB (splitV (rowsL L).1 b).2.1 = root at *;generalize (splitV (rowsL L).1 b).2.2.1 = text at *;generalize (rowsL L).2.flatten = data at *;have hbl := hdrB_len h;have LC := lcut_hdr h h0 ok (root ++ (note ++ (text ++ data)) ++ t) (by simp; omega) (by simp; omega) (by simp; omega) (by simp; omega) (by simp; omega) w;have x0 : Gz.part (hdrB h ++ (root ++ (note ++ (text ++ data)) ++ t)) h.r0 h.r1 = root := by
    rw [show hdrB h ++ (root ++ (note ++ (text ++ data)) ++ t) = hdrB h ++ (root ++ (note ++ (text ++ data) ++ t)) by simp];exact part_at _ _ _ _ _ (by omega) k1.symm
  have x1 : Gz.part (hdrB h ++ (root ++ (note ++ (text ++ data)) ++ t)) h.m0 h.m1 = note := by
    rw [show hdrB h ++ (root ++ (note ++ (text ++ data)) ++ t) = (hdrB h ++ root) ++ (note ++ (text ++ data ++ t)) by simp];exact part_at _ _ _ _ _ (by simp; omega) k3.symm
  have x2 : Gz.part (hdrB h ++ (root ++ (note ++ (text ++ data)) ++ t)) h.l0 h.l1 = text := by
    rw [show hdrB h ++ (root ++ (note ++ (text ++ data)) ++ t) = (hdrB h ++ root ++ note) ++ (text ++ (data ++ t)) by simp];exact part_at _ _ _ _ _ (by simp; omega) k5.symm
  have x3 : Gz.part (hdrB h ++ (root ++ (note ++ (text ++ data)) ++ t)) h.d0 h.d1 = data := by
    rw [show hdrB h ++ (root ++ (note ++ (text ++ data)) ++ t) = (hdrB h ++ root ++ note ++ text) ++ (data ++ t) by simp];exact part_at _ _ _ _ _ (by simp; omega) k7.symm
  rw [x0, x1, x2, x3] at LC;rw [List.append_assoc];exact LC
end Go.Proofs.YtbfieomjobbhoaaGreatDoor
