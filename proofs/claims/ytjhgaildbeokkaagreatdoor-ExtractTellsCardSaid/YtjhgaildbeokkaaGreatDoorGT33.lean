/- Walks: cover.walk. -/
import Derived.Test.YtjhgaildbeokkaaGreatDoorGT32
import Derived.Test.YtjhgaildbeokkaaGreatDoorGT27
namespace Go.Proofs.YtjhgaildbeokkaaGreatDoor
open Go.RowKit Go.Gz Go.Shelf

set_option maxRecDepth 100000
theorem spW_up {base BO : Nat} {l : Sps} {w w' : World} (h : SpW base BO l w) (hu : Up w w') : SpW base BO l w' := by
  obtain ⟨v, h1, h2, h3, h4⟩ := h;exact ⟨v, hu.obj h1, own_up h2 hu, Nat.le_trans h3 hu.le, h4⟩
/-- the rule that cover.Spans hands down -/
def putV (BO BM : Nat) : Value := .func (.func 164) #[] #[.pointer (some ⟨BO, 0, none⟩), .pointer (some ⟨BM, 0, none⟩)]
def WalkE (w : World) (base BO : Nat) (p : Sps × Bool) (e : Ending) (w' : World) : Prop := e = .returned (.bool p.2) ∧ SpW base BO p.1 w' ∧ KpS base BO w w'
set_option maxHeartbeats 4000000 in
theorem walk_apart_any (r : Rc) (rz : Nat) (hr : r.z = (rz : Int)) (h26 : rz ≤ 26) (t : Til) (ht : TilOk t.1 t) (hz : t.1 ≤ rz) (hap : apartR (squareR t.1 t.2.1 t.2.2 rz) r = true) (l : Sps) (base BO BM : Nat) (w : World) (hS : SpW base BO l w) :
    Calls Tryz.prog 166 #[tiA (t.1 : Int) (t.2.1 : Int) (t.2.2 : Int), rcA r, putV BO BM] w (WalkE w base BO (l, true)) := by
  obtain ⟨tz, tx, ty⟩ := t;obtain ⟨_, hx, hy⟩ := ht;obtain ⟨az, ax0, ay0, ax1, ay1⟩ := r;simp only at hr hx hy hz hap ⊢;subst hr;have SQ := fun w => Lib.hid (square_any tz tx ty rz hz h26 hx hy w);obtain ⟨sq, hsq⟩ : ∃ s, squareR tz tx ty rz = s := ⟨_, rfl⟩;rw [hsq] at SQ hap;have CA := fun w => Lib.hid (capart_any sq ⟨(rz : Int), ax0, ay0, ax1, ay1⟩ w);rw [hap] at CA;have hu := ((Up.refl w).alloc (tiC (tz : Int) (tx : Int) (ty : Int))).alloc (rcC ⟨(rz : Int), ax0, ay0, ax1, ay1⟩);have q0 := ((Up.refl _).alloc (rcC ⟨(rz : Int), ax0, ay0, ax1, ay1⟩)).obj (heap_alloc_new w (tiC (tz : Int) (tx : Int) (ty : Int)));have q1 := heap_alloc_new (w.alloc (tiC (tz : Int) (tx : Int) (ty : Int))) (rcC ⟨(rz : Int), ax0, ay0, ax1, ay1⟩);rw [World.size_alloc] at q1;have HQ0 := Lib.hid q0;have HQ1 := Lib.hid q1;obtain ⟨c0, c1, c2⟩ := ti_cells q0;obtain ⟨d0, d1, d2, d3, d4⟩ := rc_cells (r := ⟨(rz : Int), ax0, ay0, ax1, ay1⟩) q1;obtain ⟨sz, sx0, sy0, sx1, sy1⟩ := sq;simp only at d0 d1 d2 d3 d4;clear q0 q1 hap hsq hx hy hz h26;go_enter Tryz.func166, Tryz.ntmps166;go_wp2_with fail;with_reducible refine (SQ _).out.mono ?_
  rintro e X ⟨rfl, hu1⟩;have hX := heap_alloc_new X (rcC ⟨sz, sx0, sy0, sx1, sy1⟩);have HX := Lib.hid hX;obtain ⟨e0, e1, e2, e3, e4⟩ := rc_cells (r := ⟨sz, sx0, sy0, sx1, sy1⟩) hX;have hu2 := hu1.trans ((Up.refl X).alloc (rcC ⟨sz, sx0, sy0, sx1, sy1⟩));obtain ⟨d0, d1, d2, d3, d4⟩ := rc_cells (r := ⟨(rz : Int), ax0, ay0, ax1, ay1⟩) (hu2.obj HQ1.out);simp only at d0 d1 d2 d3 d4 e0 e1 e2 e3 e4;replace HQ0 := Lib.hid (hu2.obj HQ0.out);replace HQ1 := Lib.hid (hu2.obj HQ1.out);have HU := Lib.hid (hu.trans hu2);clear hX hu hu1 hu2;go_wp2_with fail;with_reducible refine (CA _).out.mono ?_
  rintro e w2 ⟨rfl, hu3⟩;have HU2 := Lib.hid (HU.out.trans hu3);clear hu3 HQ0 HQ1 HX;go_wp2_with fail;go_ret;exact ⟨rfl, spW_up hS HU2.out, KpS.of_up HU2.out⟩
set_option maxHeartbeats 4000000 in
theorem walk_within_any (r : Rc) (rz : Nat) (hr : r.z = (rz : Int)) (h26 : rz ≤ 26) (t : Til) (ht : TilOk t.1 t) (hz : t.1 ≤ rz) (hap : apartR (squareR t.1 t.2.1 t.2.2 rz) r = false) (hwi : withinR (squareR t.1 t.2.1 t.2.2 rz) r = true) (l : Sps) (hl : l.length ≤ 100000) (ho : SpOk l) (most : Int) (base BO BM : Nat) (w : World) (hS : SpW base BO l w) (hBM : BM ≠ BO) (hM : w.heap[BM]? = some (.cells #[.int .i64 most] 3 (0, 0))) :
    Calls Tryz.prog 166 #[tiA (t.1 : Int) (t.2.1 : Int) (t.2.2 : Int), rcA r, putV BO BM] w (WalkE w base BO (joinL l (rangeV t.1 t.2.1 t.2.2 rz), decide (((joinL l (rangeV t.1 t.2.1 t.2.2 rz)).length : Int) ≤ most))) := by
  obtain ⟨tz, tx, ty⟩ := t;obtain ⟨_, hx, hy⟩ := ht;obtain ⟨az, ax0, ay0, ax1, ay1⟩ := r;have hrl := (range_lt (t := (tz, tx, ty)) (z := tz) ⟨rfl, hx, hy⟩ hz h26).1;simp only at hr hx hy hz hap hwi hrl ⊢;subst hr;unfold putV;have SQ := fun w => Lib.hid (square_any tz tx ty rz hz h26 hx hy w);obtain ⟨sq, hsq⟩ : ∃ s, squareR tz tx ty rz = s := ⟨_, rfl⟩;rw [hsq] at SQ hap hwi;have CA := fun w => Lib.hid (capart_any sq ⟨(rz : Int), ax0, ay0, ax1, ay1⟩ w);rw [hap] at CA;have CW := fun w => Lib.hid (cwithin_any sq ⟨(rz : Int), ax0, ay0, ax1, ay1⟩ w);rw [hwi] at CW;have RG := fun w => Lib.hid (trange_any tz tx ty rz hz h26 hx hy w);generalize rangeV tz tx ty rz = g at *;have SP := fun w (hS : SpW base BO l w) hM => Lib.hid (sput_any l g most hl (by omega) ho base BO BM hBM w hS hM);obtain ⟨gf, gt⟩ := g;simp only at RG;have HM := Lib.hid hM;have HS := Lib.hid hS;have hu := ((Up.refl w).alloc (tiC (tz : Int) (tx : Int) (ty : Int))).alloc (rcC ⟨(rz : Int), ax0, ay0, ax1, ay1⟩);have q0 := ((Up.refl _).alloc (rcC ⟨(rz : Int), ax0, ay0, ax1, ay1⟩)).obj (heap_alloc_new w (tiC (tz : Int) (tx : Int) (ty : Int)));have q1 := heap_alloc_new (w.alloc (tiC (tz : Int) (tx : Int) (ty : Int))) (rcC ⟨(rz : Int), ax0, ay0, ax1, ay1⟩);rw [World.size_alloc] at q1;have HQ0 := Lib.hid q0;have HQ1 := Lib.hid q1;obtain ⟨c0, c1, c2⟩ := ti_cells q0;obtain ⟨d0, d1, d2, d3, d4⟩ := rc_cells (r := ⟨(rz : Int), ax0, ay0, ax1, ay1⟩) q1;obtain ⟨sz, sx0, sy0, sx1, sy1⟩ := sq;simp only at d0 d1 d2 d3 d4;clear q0 q1 hap hsq hx hy hz h26 hl ho hM hS hwi hrl;go_enter Tryz.func166, Tryz.ntmps166;go_wp2_with fail;with_reducible refine (SQ _).out.mono ?_
  rintro e X ⟨rfl, hu1⟩;have hX := heap_alloc_new X (rcC ⟨sz, sx0, sy0, sx1, sy1⟩);have HX := Lib.hid hX;obtain ⟨e0, e1, e2, e3, e4⟩ := rc_cells (r := ⟨sz, sx0, sy0, sx1, sy1⟩) hX;have hu2 := hu1.trans ((Up.refl X).alloc (rcC ⟨sz, sx0, sy0, sx1, sy1⟩));obtain ⟨d0, d1, d2, d3, d4⟩ := rc_cells (r := ⟨(rz : Int), ax0, ay0, ax1, ay1⟩) (hu2.obj HQ1.out);simp only at d0 d1 d2 d3 d4 e0 e1 e2 e3 e4;replace HQ0 := Lib.hid (hu2.obj HQ0.out);replace HQ1 := Lib.hid (hu2.obj HQ1.out);have HU := Lib.hid (hu.trans hu2);clear hX hu hu1 hu2;go_wp2_with fail;with_reducible refine (CA _).out.mono ?_
  rintro e w2 ⟨rfl, hu3⟩;replace HU := Lib.hid (HU.out.trans hu3);replace HQ0 := Lib.hid (hu3.obj HQ0.out);replace HQ1 := Lib.hid (hu3.obj HQ1.out);obtain ⟨e0, e1, e2, e3, e4⟩ := rc_cells (r := ⟨sz, sx0, sy0, sx1, sy1⟩) (hu3.obj HX.out);obtain ⟨c0, c1, c2⟩ := ti_cells HQ0.out;obtain ⟨d0, d1, d2, d3, d4⟩ := rc_cells (r := ⟨(rz : Int), ax0, ay0, ax1, ay1⟩) HQ1.out;simp only at d0 d1 d2 d3 d4;simp only at e0 e1 e2 e3 e4;clear hu3 HX CA SQ;go_wp2_with fail;with_reducible refine (CW _).out.mono ?_
  rintro e w3 ⟨rfl, hu3⟩;replace HU := Lib.hid (HU.out.trans hu3);replace HQ0 := Lib.hid (hu3.obj HQ0.out);replace HQ1 := Lib.hid (hu3.obj HQ1.out);obtain ⟨c0, c1, c2⟩ := ti_cells HQ0.out;obtain ⟨d0, d1, d2, d3, d4⟩ := rc_cells (r := ⟨(rz : Int), ax0, ay0, ax1, ay1⟩) HQ1.out;simp only at d0 d1 d2 d3 d4;clear hu3 CW e0 e1 e2 e3 e4;go_wp2_with fail;with_reducible refine (RG _).out.mono ?_
  rintro e w4 ⟨rfl, hu3⟩;replace HU := Lib.hid (HU.out.trans hu3);clear hu3 RG HQ0 HQ1 c0 c1 c2 d0 d1 d2 d3 d4;replace HS := Lib.hid (spW_up HS.out HU.out);replace HM := Lib.hid (HU.out.obj HM.out);go_wp2_with fail;with_reducible refine (SP _ HS.out HM.out).out.mono ?_
  rintro e w5 ⟨rfl, hs5, hk5⟩;go_wp2_with fail;go_ret;exact ⟨rfl, hs5, (KpS.of_up HU.out).trans hk5⟩
theorem own_kpS {base BO base' : Nat} {e : TypeId} {size n : Nat} {v : Value} {xs : List Value} {w w' : World} (h : w.ownsRow base' e size v n xs) (he : e ≠ 168) (hb : BO < base') (hk : KpS base BO w w') : w'.ownsRow base' e size v n xs := by
  refine ⟨h.1, h.2.imp id ?_⟩;rintro ⟨g, cap, cur, h1, h2, h3, h4⟩;exact ⟨g, cap, cur, h1, h2, hk.oth g _ h3 (by omega) (by intro cs fz e; injection e with _ e; exact absurd e he), h4⟩
theorem Rd.tile3 {w : World} {l : List Til} {A : Option Addr} {n c : Nat} (h : Rd w 3 A n c (tiV l)) (hn : l.length = n) {k : Nat} (hk : k < l.length) : ∃ b o, A = some ⟨b, o, none⟩ ∧ w.cell? ⟨b, o + k * 3, none⟩ = some (.int .i64 (l[k].1 : Int)) ∧ w.cell? ⟨b, o + k * 3 + 1, none⟩ = some (.int .i64 (l[k].2.1 : Int)) ∧ w.cell? ⟨b, o + k * 3 + 2, none⟩ = some (.int .i64 (l[k].2.2 : Int)) := by
  obtain ⟨b, o, e, hc⟩ := h.2.2.2.2 (by omega);obtain ⟨g0, g1, g2⟩ := tiV_get l k hk;exact ⟨b, o, e, hc _ _ g0, by have := hc _ _ g1; rwa [← Nat.add_assoc] at this, by have := hc _ _ g2; rwa [← Nat.add_assoc] at this⟩
theorem goK_drop (f : Til → Sps → Sps × Bool) (ts : List Til) {k : Nat} (hk : k < ts.length) (l : Sps) : goK f (ts.drop k) l = if (f ts[k] l).2 = true then goK f (ts.drop (k + 1)) (f ts[k] l).1 else f ts[k] l := by
  rw [List.drop_eq_getElem_cons hk, goK]
def WkR (w5 : World) (base BO : Nat) (most : Int) (f : Til → Sps → Sps × Bool) (ts : List Til) (P : Sps × Bool) (gk : Nat) (i : Value) (wr : World) : Prop := ∃ (k : Nat) (l : Sps), k + gk = ts.length ∧ i = .int .i64 (k : Int) ∧ P = goK f (ts.drop k) l ∧ SpOk l ∧ (l.length : Int) ≤ most ∧ SpW base BO l wr ∧ KpS base BO w5 wr
set_option maxHeartbeats 4000000 in
theorem walk_deep_any (r : Rc) (rz : Nat) (hr : r.z = (rz : Int)) (h26 : rz ≤ 26) (t : Til) (ht : TilOk t.1 t) (hz : t.1 ≤ rz) (hlt : t.1 < rz) (hap : apartR (squareR t.1 t.2.1 t.2.2 rz) r = false) (hwi : withinR (squareR t.1 t.2.1 t.2.2 rz) r = false) (f : Til → Sps → Sps × Bool) (most : Int) (hf : ∀ u ∈ kidsV t.1 t.2.1 t.2.2, ∀ l, SpOk l → (l.length : Int) ≤ most → WkOk most (f u l)) (l : Sps) (hl : (l.length : Int) ≤ most) (ho : SpOk l) (base BO BM : Nat) (w : World) (hS : SpW base BO l w) (hM : w.heap[BM]? = some (.cells #[.int .i64 most] 3 (0, 0))) (hBM : BM ≠ BO)
    (IH : ∀ u ∈ kidsV t.1 t.2.1 t.2.2, ∀ l, SpOk l → (l.length : Int) ≤ most → ∀ w, SpW base BO l w → w.heap[BM]? = some (.cells #[.int .i64 most] 3 (0, 0)) → Calls Tryz.prog 166 #[tiA (u.1 : Int) (u.2.1 : Int) (u.2.2 : Int), rcA r, putV BO BM] w (WalkE w base BO (f u l))) :
    Calls Tryz.prog 166 #[tiA (t.1 : Int) (t.2.1 : Int) (t.2.2 : Int), rcA r, putV BO BM] w (WalkE w base BO (goK f (kidsV t.1 t.2.1 t.2.2) l)) := by
  obtain ⟨tz, tx, ty⟩ := t;obtain ⟨_, hx, hy⟩ := ht;obtain ⟨az, ax0, ay0, ax1, ay1⟩ := r;simp only at hr hx hy hz hap hwi hlt hf IH ⊢;subst hr;have SQ := fun w => Lib.hid (square_any tz tx ty rz hz h26 hx hy w);obtain ⟨sq, hsq⟩ : ∃ s, squareR tz tx ty rz = s := ⟨_, rfl⟩;rw [hsq] at SQ hap hwi;have CA := fun w => Lib.hid (capart_any sq ⟨(rz : Int), ax0, ay0, ax1, ay1⟩ w);rw [hap] at CA;have CW := fun w => Lib.hid (cwithin_any sq ⟨(rz : Int), ax0, ay0, ax1, ay1⟩ w);rw [hwi] at CW;have DN := fun w => Lib.hid (down_any tz tx ty (by omega) hx hy w);have hkl : (kidsV tz tx ty).length = 4 := kids_len tz tx ty;generalize kidsV tz tx ty = ts at *;have HIH := Lib.hid IH;have HF := Lib.hid hf;have HM := Lib.hid hM;have HS := Lib.hid hS;have HBO := hS.choose_spec.2.2;obtain ⟨pv, hpv⟩ : ∃ v, putV BO BM = v := ⟨_, rfl⟩;rw [hpv] at HIH ⊢;obtain ⟨P, hP⟩ : ∃ P, goK f ts l = P := ⟨_, rfl⟩;have HP := Lib.hid hP;rw [hP];clear hP;have hu := ((Up.refl w).alloc (tiC (tz : Int) (tx : Int) (ty : Int))).alloc (rcC ⟨(rz : Int), ax0, ay0, ax1, ay1⟩);have q0 := ((Up.refl _).alloc (rcC ⟨(rz : Int), ax0, ay0, ax1, ay1⟩)).obj (heap_alloc_new w (tiC (tz : Int) (tx : Int) (ty : Int)));have q1 := heap_alloc_new (w.alloc (tiC (tz : Int) (tx : Int) (ty : Int))) (rcC ⟨(rz : Int), ax0, ay0, ax1, ay1⟩);rw [World.size_alloc] at q1;have HQ0 := Lib.hid q0;have HQ1 := Lib.hid q1;obtain ⟨c0, c1, c2⟩ := ti_cells q0;obtain ⟨d0, d1, d2, d3, d4⟩ := rc_cells (r := ⟨(rz : Int), ax0, ay0, ax1, ay1⟩) q1;obtain ⟨sz, sx0, sy0, sx1, sy1⟩ := sq;simp only at d0 d1 d2 d3 d4;clear q0 q1 hap hsq hx hy hz h26 hM hS hwi IH hf hpv hlt;go_enter Tryz.func166, Tryz.ntmps166;go_wp2_with fail;with_reducible refine (SQ _).out.mono ?_
  rintro e X ⟨rfl, hu1⟩;have hX := heap_alloc_new X (rcC ⟨sz, sx0, sy0, sx1, sy1⟩);have HX := Lib.hid hX;obtain ⟨e0, e1, e2, e3, e4⟩ := rc_cells (r := ⟨sz, sx0, sy0, sx1, sy1⟩) hX;have hu2 := hu1.trans ((Up.refl X).alloc (rcC ⟨sz, sx0, sy0, sx1, sy1⟩));obtain ⟨d0, d1, d2, d3, d4⟩ := rc_cells (r := ⟨(rz : Int), ax0, ay0, ax1, ay1⟩) (hu2.obj HQ1.out);simp only at d0 d1 d2 d3 d4 e0 e1 e2 e3 e4;replace HQ0 := Lib.hid (hu2.obj HQ0.out);replace HQ1 := Lib.hid (hu2.obj HQ1.out);have HU := Lib.hid (hu.trans hu2);clear hX hu hu1 hu2;go_wp2_with fail;with_reducible refine (CA _).out.mono ?_
  rintro e w2 ⟨rfl, hu3⟩;replace HU := Lib.hid (HU.out.trans hu3);replace HQ0 := Lib.hid (hu3.obj HQ0.out);replace HQ1 := Lib.hid (hu3.obj HQ1.out);obtain ⟨e0, e1, e2, e3, e4⟩ := rc_cells (r := ⟨sz, sx0, sy0, sx1, sy1⟩) (hu3.obj HX.out);obtain ⟨c0, c1, c2⟩ := ti_cells HQ0.out;obtain ⟨d0, d1, d2, d3, d4⟩ := rc_cells (r := ⟨(rz : Int), ax0, ay0, ax1, ay1⟩) HQ1.out;simp only at d0 d1 d2 d3 d4;simp only at e0 e1 e2 e3 e4;clear hu3 HX CA SQ;go_wp2_with fail;with_reducible refine (CW _).out.mono ?_
  rintro e w3 ⟨rfl, hu3⟩;replace HU := Lib.hid (HU.out.trans hu3);replace HQ0 := Lib.hid (hu3.obj HQ0.out);replace HQ1 := Lib.hid (hu3.obj HQ1.out);obtain ⟨c0, c1, c2⟩ := ti_cells HQ0.out;obtain ⟨d0, d1, d2, d3, d4⟩ := rc_cells (r := ⟨(rz : Int), ax0, ay0, ax1, ay1⟩) HQ1.out;simp only at d0 d1 d2 d3 d4;clear hu3 CW e0 e1 e2 e3 e4;go_wp2_with fail;with_reducible refine (DN _).out.mono ?_
  rintro e w5 ⟨v, rfl, ho5, hu3⟩;have hb5 : BO < w3.heap.size := by have := HU.out.le; omega
  replace HU := Lib.hid (HU.out.trans hu3);replace HQ1 := Lib.hid (hu3.obj HQ1.out);obtain ⟨A, c, rfl, _⟩ := Rd.of_own ho5;have HO5 := Lib.hid ho5;replace HS := Lib.hid (spW_up HS.out HU.out);replace HM := Lib.hid (HU.out.obj HM.out);clear hu3 DN HQ0 c0 c1 c2 d0 d1 d2 d3 d4 ho5;have HKL := Lib.hid hkl;clear hkl;go_wp2_with fail;go_loopg [45] ts.length (fun gk i wr => WkR w5 base BO most f ts P gk i wr)
  case atStart => exact ⟨0, l, by omega, rfl, by rw [List.drop_zero]; exact HP.out.symm, ho, hl, HS.out, KpS.of_up (Up.refl _)⟩
  case round =>
    obtain ⟨k, l1, hk, rfl, hPk, ho1, hl1, hS1, hK1⟩ := hrel;by_cases hlt : k < ts.length
    · obtain ⟨m, rfl⟩ : ∃ m, gk = m + 1 := ⟨gk - 1, by omega⟩;have hltI : (k : Int) < 4 := by have := HKL.out; omega
      rw [goK_drop f ts hlt] at hPk;have hmem := List.getElem_mem hlt;obtain ⟨A', c', hA, hr⟩ := Rd.of_own (own_kpS HO5.out (by decide) hb5 hK1);injection hA with hA _ hc;subst hA hc;have hk4 : k < 4 := by have := HKL.out; omega
      obtain ⟨b, o, rfl, c0, c1, c2⟩ := Rd.tile3 hr HKL.out hlt;have HW := Lib.hid (HIH.out _ hmem l1 ho1 hl1);have HO := Lib.hid (HF.out _ hmem l1 ho1 hl1);generalize ts[k] = u at *;obtain ⟨uz, ux, uy⟩ := u;simp only at c0 c1 c2 HW;have hu1 := (Up.refl wr).alloc (tiC (uz : Int) (ux : Int) (uy : Int));obtain ⟨t0, t1, t2⟩ := ti_cells (heap_alloc_new wr (tiC (uz : Int) (ux : Int) (uy : Int)));obtain ⟨d0, d1, d2, d3, d4⟩ := rc_cells (r := ⟨(rz : Int), ax0, ay0, ax1, ay1⟩) (hu1.obj (hK1.oth _ _ HQ1.out (by have := HBO; omega) (by intro cs fz e; injection e with _ e; exact absurd e (by decide))));simp only at d0 d1 d2 d3 d4;have HCW := Lib.hid (HW.out _ (spW_up hS1 hu1) (hu1.obj (hK1.oth _ _ HM.out hBM (by intro cs fz e; injection e with _ e; exact absurd e (by decide)))));have HK := Lib.hid (hK1.trans (KpS.of_up hu1));have HPK := Lib.hid hPk;generalize f (uz, ux, uy) l1 = p at *;obtain ⟨l2, bb⟩ := p;clear hPk HW hS1 hK1 hr hu1;go_wp2_with fail;with_reducible refine HCW.out.mono ?_
      rintro e w6 ⟨rfl, hs6, hk6⟩;clear t0 t1 t2 d0 d1 d2 d3 d4 c0 c1 c2;cases bb with
      | true =>
        have hPk := HPK.out;rw [if_pos rfl] at hPk;replace HPK := Lib.hid hPk;clear hPk;go_wp2_with fail;go_roundg m
        case measure => omega
        case rel => exact ⟨k + 1, l2, by omega, by go_num, HPK.out, HO.out.ok, HO.out.len rfl, hs6, HK.out.trans hk6⟩
      | false =>
        have hPk := HPK.out;rw [if_neg (by simp)] at hPk;subst hPk;go_wp2_with fail;go_ret;exact ⟨rfl, hs6, (KpS.of_up HU.out).trans (HK.out.trans hk6)⟩
    · obtain rfl : k = ts.length := by omega
      rw [List.drop_length, goK] at hPk;subst hPk;have hge : ¬ ((ts.length : Nat) : Int) < 4 := by have := HKL.out; omega
      go_wp2_with fail;go_ret;exact ⟨rfl, hS1, (KpS.of_up HU.out).trans hK1⟩
set_option maxHeartbeats 1000000 in
theorem walk_any (r : Rc) (rz : Nat) (hr : r.z = (rz : Int)) (h26 : rz ≤ 26) (most : Int) (hmo : most ≤ 4096) (base BO BM : Nat) (hBM : BM ≠ BO) : ∀ (n z : Nat) (t : Til), TilOk z t → z + n = rz → ∀ l, SpOk l → (l.length : Int) ≤ most → ∀ w, SpW base BO l w → w.heap[BM]? = some (.cells #[.int .i64 most] 3 (0, 0)) →
    Calls Tryz.prog 166 #[tiA (t.1 : Int) (t.2.1 : Int) (t.2.2 : Int), rcA r, putV BO BM] w (WalkE w base BO (walkV r rz most n t l)) := by
  intro n;induction n with
  | zero =>
    intro z t ht hz l ho hl w hS hM;have hz' := ht.z;subst hz';by_cases hap : apartR (squareR t.1 t.2.1 t.2.2 rz) r = true
    · rw [walk_apart hap];exact walk_apart_any r rz hr h26 t ht (by omega) hap l base BO BM w hS
    · have hwi := apart_within (rz := rz) (t := t) (by rw [← hz]; exact ht) r hap;rw [walk_within hap hwi];exact walk_within_any r rz hr h26 t ht (by omega) (by simpa using hap) hwi l (by omega) ho most base BO BM w hS hBM hM
  | succ n ih =>
    intro z t ht hz l ho hl w hS hM;have hz' := ht.z;subst hz';by_cases hap : apartR (squareR t.1 t.2.1 t.2.2 rz) r = true
    · rw [walk_apart hap];exact walk_apart_any r rz hr h26 t ht (by omega) hap l base BO BM w hS
    · by_cases hwi : withinR (squareR t.1 t.2.1 t.2.2 rz) r = true
      · rw [walk_within hap hwi];exact walk_within_any r rz hr h26 t ht (by omega) (by simpa using hap) hwi l (by omega) ho most base BO BM w hS hBM hM
      · rw [walk_deep hap hwi];have hko := kids_ok t.1 t.2.1 t.2.2;exact walk_deep_any r rz hr h26 t ht (by omega) (by omega) (by simpa using hap) (by simpa using hwi) (walkV r rz most n) most (fun u hu l h1 h2 => walk_ok r rz h26 most n (t.1 + 1) u (hko u hu) (by omega) l h1 h2) l hl ho base BO BM w hS hM hBM (fun u hu l h1 h2 w h3 h4 => ih (t.1 + 1) u (hko u hu) (by omega) l h1 h2 w h3 h4)
end Go.Proofs.YtjhgaildbeokkaaGreatDoor
/- Walks: cover.Spans. -/
namespace Go.Gz
/-- the identifiers of a rectangle's tiles, and how it went -/
def spansV (r : Rc) (most : Int) : Sps × Int :=
  if most < 1 ∨ 4096 < most then ([], 2) else if chkR r ≠ 0 then ([], chkR r)
  else if (walkV r r.z.toNat most r.z.toNat (0, 0, 0) []).2 = true then ((walkV r r.z.toNat most r.z.toNat (0, 0, 0) []).1, 0) else ([], 21)
theorem chk_zoom {r : Rc} (h : chkR r = 0) : ∃ n : Nat, r.z = (n : Int) ∧ n ≤ 26 := by
  unfold chkR sideV at h;by_cases k : 0 ≤ r.z ∧ r.z ≤ 26
  · exact ⟨r.z.toNat, by omega, by omega⟩
  · rw [if_neg k] at h; simp at h
theorem til_zero : TilOk 0 (0, 0, 0) := ⟨rfl, by decide, by decide⟩
theorem spOk_nil : SpOk [] := fun x hx => by simp at hx
end Go.Gz
namespace Go.Proofs.YtjhgaildbeokkaaGreatDoor
open Go.RowKit Go.Gz Go.Shelf

set_option maxRecDepth 100000
def SpnE (w : World) (p : Sps × Int) (e : Ending) (w' : World) : Prop := ∃ A c, e = .returned (.tuple #[.slice A p.1.length c, .int .i64 p.2]) ∧ Rd w' 2 A p.1.length c (spV p.1) ∧ Up w w'
set_option maxHeartbeats 4000000 in
theorem spans_any (r : Rc) (most : Int) (w : World) :
    Calls Tryz.prog 94 #[rcA r, .int .i64 most] w (SpnE w (spansV r most)) := by
  have CK := fun w => Lib.hid (ccheck_any r w);have hu := ((Up.refl w).alloc (rcC r)).alloc (.cells #[.int .i64 most] 3);have q0 := ((Up.refl _).alloc (.cells #[.int .i64 most] 3)).obj (heap_alloc_new w (rcC r));have q1 := heap_alloc_new (w.alloc (rcC r)) (.cells #[.int .i64 most] 3);rw [World.size_alloc] at q1;have HQ0 := Lib.hid q0;have HQ1 := Lib.hid q1;have m0 := (blk_one q1).1;have HU := Lib.hid hu;obtain ⟨d0, d1, d2, d3, d4⟩ := rc_cells q0;unfold spansV;by_cases hm1 : most < 1
  · rw [if_pos (Or.inl hm1)];clear hu q0 q1 d0 d1 d2 d3 d4 CK;obtain ⟨az, ax0, ay0, ax1, ay1⟩ := r;go_enter Tryz.func94, Tryz.ntmps94;go_wp2_with fail;go_ret2
    exact ⟨none, 0, rfl, Rd.nil_ _ _, HU.out⟩
  by_cases hm2 : 4096 < most
  · rw [if_pos (Or.inr hm2)];clear hu q0 q1 d0 d1 d2 d3 d4 CK;obtain ⟨az, ax0, ay0, ax1, ay1⟩ := r;go_enter Tryz.func94, Tryz.ntmps94;go_wp2_with fail;go_ret2
    exact ⟨none, 0, rfl, Rd.nil_ _ _, HU.out⟩
  rw [if_neg (by omega)];by_cases hck : chkR r = 0
  · rw [if_neg (by simpa using hck)];obtain ⟨n, hn, h26⟩ := chk_zoom hck;rw [hn, Int.toNat_natCast];have WK := fun base BO BM (hB : BM ≠ BO) w hS hM => Lib.hid (walk_any r n hn h26 most (by omega) base BO BM hB n 0 (0, 0, 0) til_zero (by omega) [] spOk_nil (by simp; omega) w hS hM);generalize walkV r n most n (0, 0, 0) [] = p at *;obtain ⟨S, bb⟩ := p;rw [hck] at CK;obtain ⟨az, ax0, ay0, ax1, ay1⟩ := r;simp only at d0 d1 d2 d3 d4 WK CK;clear hu q0 q1 hn hck;cases bb with
    | true =>
      rw [if_pos rfl];go_enter Tryz.func94, Tryz.ntmps94;go_wp2_with fail;with_reducible refine (CK _).out.mono ?_
      rintro e X ⟨rfl, hu1⟩;have hua := (Up.refl X).alloc (.cells #[.slice none 0 0] 90);have HS : Hid (SpW (X.heap.size + 1) X.heap.size [] (X.alloc (.cells #[.slice none 0 0] 90))) := Lib.hid ⟨_, heap_alloc_new _ _, World.ownsRow_nil _ _ _ _, by simp, by omega⟩;have HM := Lib.hid ((hu1.trans hua).obj HQ1.out);have HUX := Lib.hid (HU.out.trans hu1);have hne : w.heap.size + 1 ≠ X.heap.size := by have := (Array.getElem?_eq_some_iff.1 (hu1.obj HQ1.out)).1; omega
      obtain ⟨d0, d1, d2, d3, d4⟩ := rc_cells (r := ⟨az, ax0, ay0, ax1, ay1⟩) ((hu1.trans hua).obj HQ0.out);simp only at d0 d1 d2 d3 d4;clear hu1 HQ0 HQ1 CK HU;unfold putV at WK;go_wp2_with fail;refine (WK _ _ _ hne _ HS.out HM.out).out.mono ?_;rintro e w2 ⟨rfl, ⟨v, hB, ho, _⟩, hk⟩;obtain ⟨k0, _⟩ := blk_one hB;obtain ⟨A, c, rfl, hr⟩ := Rd.of_own ho;have HR := Lib.hid hr;have HU2 := Lib.hid (hk.toUp (HUX.out.trans hua) (by have := HUX.out.le; omega) (by have := HUX.out.le; omega));clear hk hB ho hr hua WK HS HM d0 d1 d2 d3 d4;go_wp2_with fail;go_ret2
      exact ⟨A, c, rfl, HR.out, HU2.out⟩
    | false =>
      rw [if_neg (by simp)];go_enter Tryz.func94, Tryz.ntmps94;go_wp2_with fail;with_reducible refine (CK _).out.mono ?_
      rintro e X ⟨rfl, hu1⟩;have hua := (Up.refl X).alloc (.cells #[.slice none 0 0] 90);have HS : Hid (SpW (X.heap.size + 1) X.heap.size [] (X.alloc (.cells #[.slice none 0 0] 90))) := Lib.hid ⟨_, heap_alloc_new _ _, World.ownsRow_nil _ _ _ _, by simp, by omega⟩;have HM := Lib.hid ((hu1.trans hua).obj HQ1.out);have HUX := Lib.hid (HU.out.trans hu1);have hne : w.heap.size + 1 ≠ X.heap.size := by have := (Array.getElem?_eq_some_iff.1 (hu1.obj HQ1.out)).1; omega
      obtain ⟨d0, d1, d2, d3, d4⟩ := rc_cells (r := ⟨az, ax0, ay0, ax1, ay1⟩) ((hu1.trans hua).obj HQ0.out);simp only at d0 d1 d2 d3 d4;clear hu1 HQ0 HQ1 CK HU;unfold putV at WK;go_wp2_with fail;refine (WK _ _ _ hne _ HS.out HM.out).out.mono ?_;rintro e w2 ⟨rfl, ⟨v, hB, ho, _⟩, hk⟩;obtain ⟨k0, _⟩ := blk_one hB;obtain ⟨A, c, rfl, hr⟩ := Rd.of_own ho;have HR := Lib.hid hr;have HU2 := Lib.hid (hk.toUp (HUX.out.trans hua) (by have := HUX.out.le; omega) (by have := HUX.out.le; omega));clear hk hB ho hr hua WK HS HM d0 d1 d2 d3 d4;go_wp2_with fail;go_ret2
      exact ⟨none, 0, rfl, Rd.nil_ _ _, HU2.out⟩
  · rw [if_pos hck];generalize chkR r = q at *;obtain ⟨az, ax0, ay0, ax1, ay1⟩ := r;simp only at d0 d1 d2 d3 d4 CK;have hqb : (q == 0) = false := by rw [beq_eq_false_iff_ne]; exact hck
    clear hu q0 q1 HQ0 HQ1;go_enter Tryz.func94, Tryz.ntmps94;go_wp2_with fail;with_reducible refine (CK _).out.mono ?_
    rintro e X ⟨rfl, hu1⟩;have HUX := Lib.hid (HU.out.trans hu1);clear hu1;go_wp2_with fail;go_ret2
    exact ⟨none, 0, rfl, Rd.nil_ _ _, HUX.out⟩
end Go.Proofs.YtjhgaildbeokkaaGreatDoor
