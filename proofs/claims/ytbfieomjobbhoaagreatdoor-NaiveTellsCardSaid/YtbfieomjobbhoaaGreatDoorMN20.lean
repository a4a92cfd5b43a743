/- Walks: gazetteerref01.Signed at four bytes, gazetteerref06.at, part, degree, fits, between. -/
import Derived.Test.YtbfieomjobbhoaaGreatDoorMN18
import Derived.Test.YtbfieomjobbhoaaGreatDoorMN19
import Derived.Test.YtbfieomjobbhoaaGreatDoorMN11
namespace Go.Proofs.YtbfieomjobbhoaaGreatDoor
open Go.RowKit Go.Gz Go.Shelf
set_option maxRecDepth 100000
set_option maxHeartbeats 2000000 in
theorem r1sig_any (x : Nat) (hx : x < 4294967296) (w : World) :
    Calls Tryz.prog 151 #[.int .u64 (x : Int), .int .i64 4] w fun e w' => e = .returned (.tuple #[.int .i64 (sgn4 x), .int .i64 0]) ∧ Up w w' := by
  have m1 : Int.tmod (x : Int) 4294967296 = (x : Int) := Int.tmod_eq_of_lt (by omega) (by omega);have m2 : (x : Int) % 4294967296 = (x : Int) := Int.emod_eq_of_lt (by omega) (by omega);have e1 : IntKind.u64.wrap (x : Int) = (x : Int) := IntWalk.u64_in _ (by omega);have e2 : IntKind.i64.wrap (x : Int) = (x : Int) := IntWalk.i64_in _ (by omega);have e3 : IntKind.i64.wrap ((x : Int) - 4294967296) = (x : Int) - 4294967296 := IntWalk.i64_in _ (by omega);by_cases h : 2147483648 ≤ x
  · have hI : (2147483648 : Int) ≤ (x : Int) := by omega
    rw [show sgn4 x = (x : Int) - 4294967296 by unfold sgn4; rw [if_neg (by omega)]];clear h hx;go_enter Tryz.func151, Tryz.ntmps151;go_wp2_with fail;go_ret2
    exact ⟨rfl, Up.refl w⟩
  · have hI : ¬ (2147483648 : Int) ≤ (x : Int) := by omega
    rw [show sgn4 x = (x : Int) by unfold sgn4; rw [if_pos (by omega)]];clear h hx;go_enter Tryz.func151, Tryz.ntmps151;go_wp2_with fail;go_ret2
    exact ⟨rfl, Up.refl w⟩
set_option maxHeartbeats 2000000 in
theorem r6at_any (s : Bs) (hs : s.length ≤ 1000000) (a n : Nat) (hn : n ≤ 8) (h : a + n ≤ s.length) (w : World) :
    Calls Tryz.prog 97 #[.string ⟨s.toArray⟩, .int .i64 (a : Int), .int .i64 (n : Int)] w fun e w' => e = .returned (.int .u64 (nAt s a n : Int)) ∧ Up w w' := by
  have NM := fun w => Lib.hid (r1num_any ((s.drop a).take n) (by rw [List.length_take]; omega) w);have hss : (⟨s.toArray⟩ : ByteArray).size = s.length := by simp [ByteArray.size]
  have hp := part_mk s a n (a + n) rfl;unfold Gz.part at hp;unfold nAt;generalize (s.drop a).take n = T at *;generalize leV T = V at *;obtain ⟨b, hb⟩ : ∃ b, a + n = b := ⟨_, rfl⟩;rw [hb] at hp;have e1 : IntKind.i64.wrap ((a : Int) + (n : Int)) = (b : Int) := by rw [IntWalk.i64_in _ (by omega)]; omega
  have b1 : (a : Int) ≤ (b : Int) := by omega
  have b2 : (b : Int) ≤ (s.length : Int) := by omega
  clear hb h hn hs;go_enter Tryz.func97, Tryz.ntmps97;go_wp2_with fail;with_reducible refine (NM _).out.mono ?_
  rintro e w1 ⟨rfl, hu⟩;go_wp2_with fail;go_ret;exact ⟨rfl, hu⟩
theorem r6at_at (s : Bs) (hs : s.length ≤ 1000000) (a n : Nat) (hn : n ≤ 8) (h : a + n ≤ s.length) (a' n' : Int) (ha : a' = (a : Int)) (hn' : n' = (n : Int)) (x : Nat) (hx : nAt s a n = x) (w : World) :
    Calls Tryz.prog 97 #[.string ⟨s.toArray⟩, .int .i64 a', .int .i64 n'] w fun e w' => e = .returned (.int .u64 (x : Int)) ∧ Up w w' := by
  subst ha; subst hn'; subst hx;exact r6at_any s hs a n hn h w
set_option maxHeartbeats 2000000 in
theorem r6deg_any (s : Bs) (hs : s.length ≤ 1000000) (a : Nat) (h : a + 4 ≤ s.length) (a' : Int) (ha : a' = (a : Int)) (v : Int) (hv : sgn4 (nAt s a 4) = v) (w : World) :
    Calls Tryz.prog 98 #[.string ⟨s.toArray⟩, .int .i64 a'] w fun e w' => e = .returned (.int .i64 v) ∧ Up w w' := by
  subst ha;have AT := fun w => Lib.hid (r6at_at s hs a 4 (by omega) h a 4 rfl rfl _ rfl w);have hlt : nAt s a 4 < 4294967296 := by
    have := leV_lt ((s.drop a).take 4);rw [List.length_take, List.length_drop, Nat.min_eq_left (by omega)] at this;exact this
  have SG := fun w => Lib.hid (r1sig_any _ hlt w);rw [hv] at SG;generalize nAt s a 4 = X at *;clear hv hlt h;go_enter Tryz.func98, Tryz.ntmps98;go_wp2_with fail;with_reducible refine (AT _).out.mono ?_
  rintro e w1 ⟨rfl, hu1⟩;have HU1 := Lib.hid hu1;clear hu1 AT;go_wp2_with fail;with_reducible refine (SG _).out.mono ?_
  rintro e w2 ⟨rfl, hu2⟩;have HU2 := Lib.hid (HU1.out.trans hu2);clear hu2 SG HU1;go_wp2_with fail;go_ret;exact ⟨rfl, HU2.out⟩
set_option maxHeartbeats 2000000 in
theorem r6part_any (s : Bs) (hs : s.length ≤ 1000000) (a b : Nat) (hb : a + 8 = b) (h : b + 8 ≤ s.length) (a' : Int) (ha : a' = (a : Int)) (x y : Nat) (hx : nAt s a 8 = x) (hy : nAt s b 8 = y) (w : World) :
    Calls Tryz.prog 96 #[.string ⟨s.toArray⟩, .int .i64 a'] w fun e w' => e = .returned (.agg #[.int .u64 (x : Int), .int .u64 (y : Int)]) ∧ Up w w' := by
  subst ha;have A1 := fun w => Lib.hid (r6at_at s hs a 8 (by omega) (by omega) a 8 rfl rfl x hx w);have A2 := fun w => Lib.hid (r6at_at s hs b 8 (by omega) (by omega) b 8 rfl rfl y hy w);have e1 : IntKind.i64.wrap ((a : Int) + 8) = (b : Int) := by rw [IntWalk.i64_in _ (by omega)]; omega
  have hG := heap_alloc_new w (.cells #[.int .u64 0, .int .u64 0] 71);have hU := (Up.refl w).alloc (.cells #[.int .u64 0, .int .u64 0] 71);have HG := Lib.hid hG;have HU := Lib.hid hU;clear hx hy hb hG hU h;go_enter Tryz.func96, Tryz.ntmps96;go_wp2_with fail;with_reducible refine (A1 _).out.mono ?_
  rintro e w1 ⟨rfl, hu1⟩;have HG1 := Lib.hid (hu1.obj HG.out);have HU1 := Lib.hid (HU.out.trans hu1);clear hu1 HG HU A1;go_wp2_with fail;with_reducible refine (A2 _).out.mono ?_
  rintro e w2 ⟨rfl, hu2⟩;have g2 := hu2.obj HG1.out;have HU2 := Lib.hid (HU1.out.trans hu2);have d0 := blkc g2 0 _ rfl;have d1 := blkc g2 1 _ rfl;have z0 := blkf g2 0;have z1 := blkf g2 1;have G2 := Lib.hid g2;clear hu2 HG1 HU1 A2 g2;go_wp2_with fail;have f0 := heap_setCell_same w2 w.heap.size 0 _ _ (.int .u64 (x : Int)) G2.out;have f1 := heap_setCell_same _ w.heap.size 1 _ _ (.int .u64 (y : Int)) f0;have k0 := blkc f1 0 _ rfl;have k1 := blkc f1 1 _ rfl;refine bodyPost_ret (v := .agg #[.int .u64 (x : Int), .int .u64 (y : Int)]) (by simp [results, Tryz.results96, go_sem, k0, k1]) rfl ?_;exact ⟨rfl, (HU2.out.set (p := ⟨w.heap.size, 0, none⟩) (Nat.le_refl _) (.int .u64 (x : Int))).set (p := ⟨w.heap.size, 1, none⟩) (Nat.le_refl _) (.int .u64 (y : Int))⟩
set_option maxHeartbeats 2000000 in
theorem r6fits_any (a b : Nat) (T : Bool) (hT : decide (a + b ≤ 1099511627776) = T) (w : World) :
    Calls Tryz.prog 152 #[.agg #[.int .u64 (a : Int), .int .u64 (b : Int)]] w fun e w' => e = .returned (.bool T) ∧ Up w w' := by
  have hq := heap_alloc_new w (.cells #[.int .u64 (a : Int), .int .u64 (b : Int)] 71);have c0 := blkc hq 0 _ rfl;have c1 := blkc hq 1 _ rfl;clear hq;by_cases h1 : a ≤ 1099511627776
  · have b1 : decide ((a : Int) ≤ 1099511627776) = true := decide_eq_true (by omega);by_cases h2 : b ≤ 1099511627776
    · have b2 : decide ((b : Int) ≤ 1099511627776) = true := decide_eq_true (by omega);have e1 : IntKind.u64.wrap ((a : Int) + (b : Int)) = ((a + b : Nat) : Int) := by rw [IntWalk.u64_in _ (by omega)]; omega
      have b3 : decide (((a + b : Nat) : Int) ≤ 1099511627776) = T := by
        rw [← hT];by_cases h : a + b ≤ 1099511627776
        · rw [decide_eq_true h, decide_eq_true (by omega)]
        · rw [decide_eq_false h, decide_eq_false (by omega)]
      clear hT;generalize a + b = s at *;clear h1 h2;go_enter Tryz.func152, Tryz.ntmps152;go_wp2_with fail;go_ret;exact ⟨rfl, (Up.refl w).alloc _⟩
    · have b2 : decide ((b : Int) ≤ 1099511627776) = false := decide_eq_false (by omega);rw [decide_eq_false (show ¬ a + b ≤ 1099511627776 by omega)] at hT;subst hT;clear h1 h2;go_enter Tryz.func152, Tryz.ntmps152;go_wp2_with fail;go_ret;exact ⟨rfl, (Up.refl w).alloc _⟩
  · have b1 : decide ((a : Int) ≤ 1099511627776) = false := decide_eq_false (by omega);rw [decide_eq_false (show ¬ a + b ≤ 1099511627776 by omega)] at hT;subst hT;clear h1;go_enter Tryz.func152, Tryz.ntmps152;go_wp2_with fail;go_ret;exact ⟨rfl, (Up.refl w).alloc _⟩
set_option maxHeartbeats 2000000 in
theorem r6btw_any (n lo hi : Int) (T : Bool) (hT : decide (lo ≤ n ∧ n ≤ hi) = T) (w : World) :
    Calls Tryz.prog 153 #[.int .i64 n, .int .i64 lo, .int .i64 hi] w fun e w' => e = .returned (.bool T) ∧ Up w w' := by
  by_cases h1 : lo ≤ n
  · have b1 : decide (lo ≤ n) = true := decide_eq_true h1;have b2 : decide (n ≤ hi) = T := by rw [← hT]; simp [h1]
    clear hT h1;go_enter Tryz.func153, Tryz.ntmps153;go_wp2_with fail;go_ret;exact ⟨rfl, Up.refl w⟩
  · have b1 : decide (lo ≤ n) = false := decide_eq_false h1;rw [decide_eq_false (fun h => h1 h.1)] at hT;subst hT;clear h1;go_enter Tryz.func153, Tryz.ntmps153;go_wp2_with fail;go_ret;exact ⟨rfl, Up.refl w⟩
end Go.Proofs.YtbfieomjobbhoaaGreatDoor
/- Walk: gazetteerref06.Check. -/
namespace Go.Proofs.YtbfieomjobbhoaaGreatDoor
open Go.RowKit Go.Gz Go.Shelf
set_option maxRecDepth 100000
theorem two8 {A B : Prop} [Decidable A] [Decidable B] (h : A ∨ B) : (if A then (8 : Int) else if B then 8 else 0) = 8 := by
  split
  · rfl
  · rename_i g;rw [if_pos (h.resolve_left g)]
set_option maxHeartbeats 16000000 in
theorem r6chk_if (r0 r1 m0 m1 l0 l1 d0 d1 adr ent con : Nat) (clu : Bool) (inn out kind : Nat) (minz maxz minlon minlat maxlon maxlat zoom lon lat : Int) (w : World) :
    Calls Tryz.prog 99 #[.agg #[.int .u64 (r0 : Int), .int .u64 (r1 : Int), .int .u64 (m0 : Int), .int .u64 (m1 : Int), .int .u64 (l0 : Int), .int .u64 (l1 : Int), .int .u64 (d0 : Int), .int .u64 (d1 : Int), .int .u64 (adr : Int), .int .u64 (ent : Int), .int .u64 (con : Int), .bool clu, .int .u8 (inn : Int), .int .u8 (out : Int), .int .u8 (kind : Int), .int .i64 minz, .int .i64 maxz, .int .i64 minlon, .int .i64 minlat, .int .i64 maxlon, .int .i64 maxlat, .int .i64 zoom, .int .i64 lon, .int .i64 lat]] w fun e w' => e = .returned (.int .i64 (if 1099511627776 < r0 + r1 ∨ 1099511627776 < m0 + m1 ∨ 1099511627776 < l0 + l1 ∨ 1099511627776 < d0 + d1 then 8
    else if 4 < inn ∨ 4 < out ∨ 5 < kind then 14
    else if minz < 0 ∨ 26 < minz ∨ maxz < 0 ∨ 26 < maxz ∨ zoom < 0 ∨ 26 < zoom ∨ maxz < minz then 8
    else if minlon < -1800000000 ∨ 1800000000 < minlon ∨ maxlon < -1800000000 ∨ 1800000000 < maxlon ∨ lon < -1800000000 ∨ 1800000000 < lon ∨ maxlon < minlon then 8
    else if minlat < -900000000 ∨ 900000000 < minlat ∨ maxlat < -900000000 ∨ 900000000 < maxlat ∨ lat < -900000000 ∨ 900000000 < lat ∨ maxlat < minlat then 8
    else 0)) ∧ Up w w' := by
  obtain ⟨E, hE⟩ : ∃ E : Int, (if 1099511627776 < r0 + r1 ∨ 1099511627776 < m0 + m1 ∨ 1099511627776 < l0 + l1 ∨ 1099511627776 < d0 + d1 then 8
    else if 4 < inn ∨ 4 < out ∨ 5 < kind then 14
    else if minz < 0 ∨ 26 < minz ∨ maxz < 0 ∨ 26 < maxz ∨ zoom < 0 ∨ 26 < zoom ∨ maxz < minz then 8
    else if minlon < -1800000000 ∨ 1800000000 < minlon ∨ maxlon < -1800000000 ∨ 1800000000 < maxlon ∨ lon < -1800000000 ∨ 1800000000 < lon ∨ maxlon < minlon then 8
    else if minlat < -900000000 ∨ 900000000 < minlat ∨ maxlat < -900000000 ∨ 900000000 < maxlat ∨ lat < -900000000 ∨ 900000000 < lat ∨ maxlat < minlat then 8
    else 0) = E := ⟨_, rfl⟩
  rw [hE];have HE := Lib.hid hE;have hq := heap_alloc_new w (.cells #[.int .u64 (r0 : Int), .int .u64 (r1 : Int), .int .u64 (m0 : Int), .int .u64 (m1 : Int), .int .u64 (l0 : Int), .int .u64 (l1 : Int), .int .u64 (d0 : Int), .int .u64 (d1 : Int), .int .u64 (adr : Int), .int .u64 (ent : Int), .int .u64 (con : Int), .bool clu, .int .u8 (inn : Int), .int .u8 (out : Int), .int .u8 (kind : Int), .int .i64 minz, .int .i64 maxz, .int .i64 minlon, .int .i64 minlat, .int .i64 maxlon, .int .i64 maxlat, .int .i64 zoom, .int .i64 lon, .int .i64 lat] 73);have HB := Lib.hid hq;have HU0 := Lib.hid ((Up.refl w).alloc (.cells #[.int .u64 (r0 : Int), .int .u64 (r1 : Int), .int .u64 (m0 : Int), .int .u64 (m1 : Int), .int .u64 (l0 : Int), .int .u64 (l1 : Int), .int .u64 (d0 : Int), .int .u64 (d1 : Int), .int .u64 (adr : Int), .int .u64 (ent : Int), .int .u64 (con : Int), .bool clu, .int .u8 (inn : Int), .int .u8 (out : Int), .int .u8 (kind : Int), .int .i64 minz, .int .i64 maxz, .int .i64 minlon, .int .i64 minlat, .int .i64 maxlon, .int .i64 maxlat, .int .i64 zoom, .int .i64 lon, .int .i64 lat] 73));clear hE hq;obtain ⟨s0, hs0⟩ : ∃ t, decide (r0 + r1 ≤ 1099511627776) = t := ⟨_, rfl⟩;have F0 := fun w => Lib.hid (r6fits_any r0 r1 s0 hs0 w);replace hs0 := Lib.hid hs0;obtain ⟨s1, hs1⟩ : ∃ t, decide (m0 + m1 ≤ 1099511627776) = t := ⟨_, rfl⟩;have F1 := fun w => Lib.hid (r6fits_any m0 m1 s1 hs1 w);replace hs1 := Lib.hid hs1;obtain ⟨s2, hs2⟩ : ∃ t, decide (l0 + l1 ≤ 1099511627776) = t := ⟨_, rfl⟩;have F2 := fun w => Lib.hid (r6fits_any l0 l1 s2 hs2 w);replace hs2 := Lib.hid hs2;obtain ⟨s3, hs3⟩ : ∃ t, decide (d0 + d1 ≤ 1099511627776) = t := ⟨_, rfl⟩;have F3 := fun w => Lib.hid (r6fits_any d0 d1 s3 hs3 w);replace hs3 := Lib.hid hs3;obtain ⟨u0, hu0⟩ : ∃ t, decide ((0 : Int) ≤ minz ∧ minz ≤ maxz) = t := ⟨_, rfl⟩;have B0 := fun w => Lib.hid (r6btw_any minz (0) (maxz) u0 hu0 w);replace hu0 := Lib.hid hu0;obtain ⟨u1, hu1⟩ : ∃ t, decide ((0 : Int) ≤ zoom ∧ zoom ≤ 26) = t := ⟨_, rfl⟩;have B1 := fun w => Lib.hid (r6btw_any zoom (0) (26) u1 hu1 w);replace hu1 := Lib.hid hu1;obtain ⟨u2, hu2⟩ : ∃ t, decide ((-1800000000 : Int) ≤ minlon ∧ minlon ≤ maxlon) = t := ⟨_, rfl⟩;have B2 := fun w => Lib.hid (r6btw_any minlon (-1800000000) (maxlon) u2 hu2 w);replace hu2 := Lib.hid hu2;obtain ⟨u3, hu3⟩ : ∃ t, decide ((-900000000 : Int) ≤ minlat ∧ minlat ≤ maxlat) = t := ⟨_, rfl⟩;have B3 := fun w => Lib.hid (r6btw_any minlat (-900000000) (maxlat) u3 hu3 w);replace hu3 := Lib.hid hu3;obtain ⟨u4, hu4⟩ : ∃ t, decide ((-1800000000 : Int) ≤ lon ∧ lon ≤ 1800000000) = t := ⟨_, rfl⟩;have B4 := fun w => Lib.hid (r6btw_any lon (-1800000000) (1800000000) u4 hu4 w);replace hu4 := Lib.hid hu4;obtain ⟨u5, hu5⟩ : ∃ t, decide ((-900000000 : Int) ≤ lat ∧ lat ≤ 900000000) = t := ⟨_, rfl⟩;have B5 := fun w => Lib.hid (r6btw_any lat (-900000000) (900000000) u5 hu5 w);replace hu5 := Lib.hid hu5;have c0 := blkc HB.out 0 (.int .u64 (r0 : Int)) rfl;have c1 := blkc HB.out 1 (.int .u64 (r1 : Int)) rfl;go_enter Tryz.func99, Tryz.ntmps99;go_wp2_with fail;with_reducible refine (F0 _).out.mono ?_
  rintro e w1 ⟨rfl, hu⟩;have HU1 := Lib.hid (HU0.out.trans hu);replace HB := Lib.hid (hu.obj HB.out);clear hu HU0 F0 c0 c1;cases s0;case false =>
    have := of_decide_eq_false hs0.out;obtain rfl : E = 8 := (by rw [← HE.out, if_pos (by omega)]);go_wp2_with fail;go_ret;exact ⟨rfl, HU1.out⟩
  replace hs0 := of_decide_eq_true hs0.out;have c2 := blkc HB.out 2 (.int .u64 (m0 : Int)) rfl;have c3 := blkc HB.out 3 (.int .u64 (m1 : Int)) rfl;go_wp2_with fail;with_reducible refine (F1 _).out.mono ?_
  rintro e w2 ⟨rfl, hu⟩;have HU2 := Lib.hid (HU1.out.trans hu);replace HB := Lib.hid (hu.obj HB.out);clear hu HU1 F1 c2 c3;cases s1;case false =>
    have := of_decide_eq_false hs1.out;obtain rfl : E = 8 := (by rw [← HE.out, if_pos (by omega)]);go_wp2_with fail;go_ret;exact ⟨rfl, HU2.out⟩
  replace hs1 := of_decide_eq_true hs1.out;have c4 := blkc HB.out 4 (.int .u64 (l0 : Int)) rfl;have c5 := blkc HB.out 5 (.int .u64 (l1 : Int)) rfl;go_wp2_with fail;with_reducible refine (F2 _).out.mono ?_
  rintro e w3 ⟨rfl, hu⟩;have HU3 := Lib.hid (HU2.out.trans hu);replace HB := Lib.hid (hu.obj HB.out);clear hu HU2 F2 c4 c5;cases s2;case false =>
    have := of_decide_eq_false hs2.out;obtain rfl : E = 8 := (by rw [← HE.out, if_pos (by omega)]);go_wp2_with fail;go_ret;exact ⟨rfl, HU3.out⟩
  replace hs2 := of_decide_eq_true hs2.out;have c6 := blkc HB.out 6 (.int .u64 (d0 : Int)) rfl;have c7 := blkc HB.out 7 (.int .u64 (d1 : Int)) rfl;go_wp2_with fail;with_reducible refine (F3 _).out.mono ?_
  rintro e w4 ⟨rfl, hu⟩;have HU4 := Lib.hid (HU3.out.trans hu);replace HB := Lib.hid (hu.obj HB.out);clear hu HU3 F3 c6 c7;cases s3;case false =>
    have := of_decide_eq_false hs3.out;obtain rfl : E = 8 := (by rw [← HE.out, if_pos (by omega)]);go_wp2_with fail;go_ret;exact ⟨rfl, HU4.out⟩
  replace hs3 := of_decide_eq_true hs3.out;have h2 := HE.out;rw [if_neg (by omega)] at h2;replace HE := Lib.hid h2;clear h2 hs0 hs1 hs2 hs3;have c12 := blkc HB.out 12 (.int .u8 (inn : Int)) rfl;have c13 := blkc HB.out 13 (.int .u8 (out : Int)) rfl;have c14 := blkc HB.out 14 (.int .u8 (kind : Int)) rfl;by_cases t0 : 4 < inn
  · have g0 : decide ((4 : Int) < (inn : Int)) = true := decide_eq_true (by omega);obtain rfl : E = 14 := (by rw [← HE.out, if_pos (by omega)]);go_wp2_with fail;go_ret;exact ⟨rfl, HU4.out⟩
  have g0 : decide ((4 : Int) < (inn : Int)) = false := decide_eq_false (by omega);by_cases t1 : 4 < out
  · have g1 : decide ((4 : Int) < (out : Int)) = true := decide_eq_true (by omega);obtain rfl : E = 14 := (by rw [← HE.out, if_pos (by omega)]);go_wp2_with fail;go_ret;exact ⟨rfl, HU4.out⟩
  have g1 : decide ((4 : Int) < (out : Int)) = false := decide_eq_false (by omega);by_cases t2 : 5 < kind
  · have g2 : decide ((5 : Int) < (kind : Int)) = true := decide_eq_true (by omega);obtain rfl : E = 14 := (by rw [← HE.out, if_pos (by omega)]);go_wp2_with fail;go_ret;exact ⟨rfl, HU4.out⟩
  have g2 : decide ((5 : Int) < (kind : Int)) = false := decide_eq_false (by omega);have h2 := HE.out;rw [if_neg (by omega)] at h2;replace HE := Lib.hid h2;clear h2 t0 t1 t2;have c15 := blkc HB.out 15 (.int .i64 minz) rfl;have c16 := blkc HB.out 16 (.int .i64 maxz) rfl;go_wp2_with fail;with_reducible refine (B0 _).out.mono ?_
  rintro e w5 ⟨rfl, hu⟩;have HU5 := Lib.hid (HU4.out.trans hu);replace HB := Lib.hid (hu.obj HB.out);clear hu HU4 B0 c12 c13 c14 g0 g1 g2 c15 c16;cases u0;case false =>
    have := of_decide_eq_false hu0.out;obtain rfl : E = 8 := (by rw [← HE.out, if_pos (by omega)]);go_wp2_with fail;go_ret;exact ⟨rfl, HU5.out⟩
  replace hu0 := of_decide_eq_true hu0.out;have c16 := blkc HB.out 16 (.int .i64 maxz) rfl;by_cases tg3 : 26 < maxz
  · have g3 : decide ((26 : Int) < maxz) = true := decide_eq_true tg3;obtain rfl : E = 8 := (by rw [← HE.out, if_pos (by omega)]);go_wp2_with fail;go_ret;exact ⟨rfl, HU5.out⟩
  have g3 : decide ((26 : Int) < maxz) = false := decide_eq_false tg3;have c21 := blkc HB.out 21 (.int .i64 zoom) rfl;go_wp2_with fail;with_reducible refine (B1 _).out.mono ?_
  rintro e w6 ⟨rfl, hu⟩;have HU6 := Lib.hid (HU5.out.trans hu);replace HB := Lib.hid (hu.obj HB.out);clear hu HU5 B1 c16 g3 c21;cases u1;case false =>
    have := of_decide_eq_false hu1.out;obtain rfl : E = 8 := (by rw [← HE.out, if_pos (by omega)]);go_wp2_with fail;go_ret;exact ⟨rfl, HU6.out⟩
  replace hu1 := of_decide_eq_true hu1.out;have h2 := HE.out;rw [if_neg (by omega)] at h2;replace HE := Lib.hid h2;clear h2 tg3 hu0 hu1;have c17 := blkc HB.out 17 (.int .i64 minlon) rfl;have c19 := blkc HB.out 19 (.int .i64 maxlon) rfl;go_wp2_with fail;with_reducible refine (B2 _).out.mono ?_
  rintro e w7 ⟨rfl, hu⟩;have HU7 := Lib.hid (HU6.out.trans hu);replace HB := Lib.hid (hu.obj HB.out);clear hu HU6 B2 c17 c19;cases u2;case false =>
    have := of_decide_eq_false hu2.out;obtain rfl : E = 8 := (by rw [← HE.out]; exact two8 (by omega));go_wp2_with fail;go_ret;exact ⟨rfl, HU7.out⟩
  replace hu2 := of_decide_eq_true hu2.out;have c19 := blkc HB.out 19 (.int .i64 maxlon) rfl;by_cases tg4 : 1800000000 < maxlon
  · have g4 : decide ((1800000000 : Int) < maxlon) = true := decide_eq_true tg4;obtain rfl : E = 8 := (by rw [← HE.out]; exact two8 (by omega));go_wp2_with fail;go_ret;exact ⟨rfl, HU7.out⟩
  have g4 : decide ((1800000000 : Int) < maxlon) = false := decide_eq_false tg4;have c18 := blkc HB.out 18 (.int .i64 minlat) rfl;have c20 := blkc HB.out 20 (.int .i64 maxlat) rfl;go_wp2_with fail;with_reducible refine (B3 _).out.mono ?_
  rintro e w8 ⟨rfl, hu⟩;have HU8 := Lib.hid (HU7.out.trans hu);replace HB := Lib.hid (hu.obj HB.out);clear hu HU7 B3 c18 c20 c19 g4;cases u3;case false =>
    have := of_decide_eq_false hu3.out;obtain rfl : E = 8 := (by rw [← HE.out]; exact two8 (by omega));go_wp2_with fail;go_ret;exact ⟨rfl, HU8.out⟩
  replace hu3 := of_decide_eq_true hu3.out;have c20 := blkc HB.out 20 (.int .i64 maxlat) rfl;by_cases tg5 : 900000000 < maxlat
  · have g5 : decide ((900000000 : Int) < maxlat) = true := decide_eq_true tg5;obtain rfl : E = 8 := (by rw [← HE.out]; exact two8 (by omega));go_wp2_with fail;go_ret;exact ⟨rfl, HU8.out⟩
  have g5 : decide ((900000000 : Int) < maxlat) = false := decide_eq_false tg5;have c22 := blkc HB.out 22 (.int .i64 lon) rfl;go_wp2_with fail;with_reducible refine (B4 _).out.mono ?_
  rintro e w9 ⟨rfl, hu⟩;have HU9 := Lib.hid (HU8.out.trans hu);replace HB := Lib.hid (hu.obj HB.out);clear hu HU8 B4 c20 g5 c22;cases u4;case false =>
    have := of_decide_eq_false hu4.out;obtain rfl : E = 8 := (by rw [← HE.out]; exact two8 (by omega));go_wp2_with fail;go_ret;exact ⟨rfl, HU9.out⟩
  replace hu4 := of_decide_eq_true hu4.out;have c23 := blkc HB.out 23 (.int .i64 lat) rfl;go_wp2_with fail;with_reducible refine (B5 _).out.mono ?_
  rintro e w10 ⟨rfl, hu⟩;have HU10 := Lib.hid (HU9.out.trans hu);replace HB := Lib.hid (hu.obj HB.out);clear hu HU9 B5 c23;cases u5;case false =>
    have := of_decide_eq_false hu5.out;obtain rfl : E = 8 := (by rw [← HE.out]; exact two8 (by omega));go_wp2_with fail;go_ret;exact ⟨rfl, HU10.out⟩
  replace hu5 := of_decide_eq_true hu5.out;obtain rfl : E = 0 := by rw [← HE.out, if_neg (by omega), if_neg (by omega)]
  go_wp2_with fail;go_ret;exact ⟨rfl, HU10.out⟩
theorem r6chk_any (h : Hdr) (w : World) :
    Calls Tryz.prog 99 #[hdrV h] w fun e w' => e = .returned (.int .i64 (hdrE h)) ∧ Up w w' := by
  obtain ⟨r0, r1, m0, m1, l0, l1, d0, d1, adr, ent, con, clu, inn, out, kind, minz, maxz, minlon, minlat, maxlon, maxlat, zoom, lon, lat⟩ := h;exact r6chk_if r0 r1 m0 m1 l0 l1 d0 d1 adr ent con clu inn out kind minz maxz minlon minlat maxlon maxlat zoom lon lat w
end Go.Proofs.YtbfieomjobbhoaaGreatDoor
