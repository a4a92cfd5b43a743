/- Walks: cover.Spans' rule; tileid.Range. -/
import Derived.Test.YtjhgaildbeokkaaGreatDoorGT31
import Derived.Test.YtjhgaildbeokkaaGreatDoorGT09
namespace Go.Proofs.YtjhgaildbeokkaaGreatDoor
open Go.RowKit Go.Gz Go.Shelf

set_option maxRecDepth 100000
theorem kpS_grown {base BO : Nat} {w w' : World} {v : Value} {n : Nat} {xs : List Value} (ho : w.ownsRow base 168 2 v n xs) (hg : w.grownBy w' v.ownBlock) : KpS base BO w w' := by
  have own : ∀ g, v.ownBlock = some g → base ≤ g ∧ ∃ cur fz, w.heap[g]? = some (.cells cur 168 fz) := by
    intro g hgb;rcases ho.2 with ⟨rfl, _⟩ | ⟨g', cap, cur, rfl, hgb', hgh, _⟩
    · cases hgb
    · injection hgb with hgb; have : g' = g := hgb; subst this; exact ⟨hgb', cur, _, hgh⟩
  have hlt := ho.lt;refine ⟨hg.os, hg.tape, hg.output, hg.size, fun k h1 hk _ => hg.block k hk (fun e => by have := (own k e.symm).1; omega), fun k o h1 _ h3 => ?_⟩;rw [hg.block k (Array.getElem?_eq_some_iff.1 h1).1 (fun e => by
    obtain ⟨_, cur, fz, hh⟩ := own k e.symm;rw [h1] at hh; injection hh with hh; exact h3 _ _ hh), h1]
theorem kpS_box {base BO : Nat} {w : World} (v : Value) : KpS base BO w (w.setCell ⟨BO, 0, none⟩ v) :=
  ⟨rfl, rfl, rfl, by simp, fun k _ _ h2 => Below.heap_setCell w ⟨BO, 0, none⟩ v k (by simpa using h2), fun k o h1 h2 _ => (Below.heap_setCell w ⟨BO, 0, none⟩ v k (by simpa using h2)).trans h1⟩
set_option maxHeartbeats 1000000 in
theorem sput_any (l : Sps) (s : Sp) (most : Int) (hl : l.length ≤ 100000) (hs1 : s.1 < 18446744073709551616) (hx : ∀ x ∈ l, x.2 < 18446744073709551615) (base BO BM : Nat) (hBM : BM ≠ BO) (w : World) (hS : SpW base BO l w) (hM : w.heap[BM]? = some (.cells #[.int .i64 most] 3 (0, 0))) :
    Calls Tryz.prog 164 #[spA s, .pointer (some ⟨BO, 0, none⟩), .pointer (some ⟨BM, 0, none⟩)] w fun e w' => e = .returned (.bool (decide (((joinL l s).length : Int) ≤ most))) ∧ SpW base BO (joinL l s) w' ∧ KpS base BO w w' := by
  obtain ⟨v, hB, ho, hb, hBb⟩ := hS;obtain ⟨sf, st⟩ := s;have hu := (Up.refl w).alloc (spC (sf, st));have hn := heap_alloc_new w (spC (sf, st));have c0 := blkc hn 0 _ rfl;have c1 := blkc hn 1 _ rfl;simp only [List.getElem_toArray, List.getElem_cons_succ, List.getElem_cons_zero] at c0 c1;have k0 := (blk_one (hu.obj hB)).1;have JN := Lib.hid (join_any l (sf, st) hl base v _ (Nat.le_trans hb hu.le) (own_up ho hu) hs1 hx);have HO := Lib.hid (own_up ho hu);have HB := Lib.hid (hu.obj hB);have HM := Lib.hid (hu.obj hM);have HK0 := Lib.hid (KpS.of_up (base := base) (BO := BO) hu);generalize joinL l (sf, st) = J at *;clear hB hM ho hn;go_enter Tryz.func164, Tryz.ntmps164;go_wp2_with fail;refine JN.out.mono ?_;rintro e w2 ⟨v', rfl, ho2, hg2⟩;have HK1 := Lib.hid (HK0.out.trans (kpS_grown HO.out hg2));have hne : some BO ≠ v.ownBlock := fun e => by have := (HO.out.lt BO e.symm).1; omega
  have HB2 := Lib.hid ((hg2.block BO (Array.getElem?_eq_some_iff.1 HB.out).1 hne).trans HB.out);have HM2 := Lib.hid ((kpS_grown (BO := BO) HO.out hg2).oth BM _ HM.out hBM (by intro cs fz e; injection e with _ e; exact absurd e (by decide)));have hb2 : base ≤ w2.heap.size := Nat.le_trans (Nat.le_trans hb hu.le) hg2.size;obtain ⟨A, c, rfl, _⟩ := Rd.of_own ho2;have HO2 := Lib.hid ho2;obtain ⟨z0, z1⟩ := blk_one HB2.out;have m0 := (blk_one HM2.out).1;clear ho2 hg2 c0 c1 k0 hne;go_wp2_with fail;go_ret;exact ⟨rfl, ⟨_, heap_setCell_same w2 BO 0 _ _ _ HB2.out, ownsRow_setCell_below HO2.out (a := ⟨BO, 0, none⟩) hBb _, by simpa using hb2, hBb⟩, HK1.out.trans (kpS_box _)⟩
end Go.Proofs.YtjhgaildbeokkaaGreatDoor
/- Walks: cover.square. -/
namespace Go.Gz
def squareR (tz tx ty z : Nat) : Rc := ⟨z, ((tx * 2 ^ (z - tz) : Nat) : Int), ((ty * 2 ^ (z - tz) : Nat) : Int), (((tx + 1) * 2 ^ (z - tz) - 1 : Nat) : Int), (((ty + 1) * 2 ^ (z - tz) - 1 : Nat) : Int)⟩
end Go.Gz
namespace Go.Proofs.YtjhgaildbeokkaaGreatDoor
open Go.RowKit Go.Gz Go.Shelf

set_option maxRecDepth 100000
theorem sq_up {t n : Nat} (P : Nat) (hP : P ≤ 67108864) (ht : t * 2 ^ n ≤ P) : IntKind.i64.wrap ((t : Int) * 2 ^ n) = ((t * 2 ^ n : Nat) : Int) := by
  have e : (t : Int) * 2 ^ n = ((t * 2 ^ n : Nat) : Int) := by simp
  rw [e]; exact IntWalk.i64_in _ (by omega)
set_option maxHeartbeats 4000000 in
theorem square_any (tz tx ty z : Nat) (h1 : tz ≤ z) (h2 : z ≤ 26) (hx : tx < 2 ^ tz) (hy : ty < 2 ^ tz) (w : World) :
    Calls Tryz.prog 234 #[tiA (tz : Int) (tx : Int) (ty : Int), .int .i64 (z : Int)] w fun e w' => e = .returned (rcA (squareR tz tx ty z)) ∧ Up w w' := by
  have hp := two_pow_le26 h2;obtain ⟨n, hn⟩ : ∃ n, z - tz = n := ⟨_, rfl⟩;have hz : 2 ^ z = 2 ^ tz * 2 ^ n := by rw [← Nat.pow_add]; congr 1; omega
  have b1 : (tx + 1) * 2 ^ n ≤ 2 ^ z := by rw [hz]; exact Nat.mul_le_mul_right _ (by omega)
  have b2 : (ty + 1) * 2 ^ n ≤ 2 ^ z := by rw [hz]; exact Nat.mul_le_mul_right _ (by omega)
  have hpos := Nat.two_pow_pos n;have a1 : tx * 2 ^ n + 2 ^ n = (tx + 1) * 2 ^ n := by rw [Nat.add_mul, Nat.one_mul]
  have a2 : ty * 2 ^ n + 2 ^ n = (ty + 1) * 2 ^ n := by rw [Nat.add_mul, Nat.one_mul]
  have e0 : IntKind.i64.wrap ((z : Int) - (tz : Int)) = (n : Int) := by rw [IntWalk.i64_in _ (by omega)]; omega
  have f1 := sq_up (t := tx) (n := n) (2 ^ z) hp (by omega);have f2 := sq_up (t := ty) (n := n) (2 ^ z) hp (by omega);have f3 := sq_up (t := tx + 1) (n := n) (2 ^ z) hp b1;have f4 := sq_up (t := ty + 1) (n := n) (2 ^ z) hp b2;have htx : tx ≤ 67108864 := by have := Nat.le_mul_of_pos_right (tx + 1) hpos; omega
  have hty : ty ≤ 67108864 := by have := Nat.le_mul_of_pos_right (ty + 1) hpos; omega
  have g1 : IntKind.i64.wrap ((tx : Int) + 1) = ((tx + 1 : Nat) : Int) := by rw [IntWalk.i64_in _ (by omega)]; omega
  have g2 : IntKind.i64.wrap ((ty : Int) + 1) = ((ty + 1 : Nat) : Int) := by rw [IntWalk.i64_in _ (by omega)]; omega
  have q1 : IntKind.i64.wrap (((((tx + 1) * 2 ^ n : Nat)) : Int) - 1) = ((((tx + 1) * 2 ^ n - 1 : Nat)) : Int) := by rw [IntWalk.i64_in _ (by omega)]; omega
  have q2 : IntKind.i64.wrap (((((ty + 1) * 2 ^ n : Nat)) : Int) - 1) = ((((ty + 1) * 2 ^ n - 1 : Nat)) : Int) := by rw [IntWalk.i64_in _ (by omega)]; omega
  unfold squareR;rw [hn];obtain ⟨X0, hX0⟩ : ∃ X, tx * 2 ^ n = X := ⟨_, rfl⟩;obtain ⟨Y0, hY0⟩ : ∃ X, ty * 2 ^ n = X := ⟨_, rfl⟩;obtain ⟨X1, hX1⟩ : ∃ X, (tx + 1) * 2 ^ n = X := ⟨_, rfl⟩;obtain ⟨Y1, hY1⟩ : ∃ X, (ty + 1) * 2 ^ n = X := ⟨_, rfl⟩;obtain ⟨sx, hsx⟩ : ∃ X, tx + 1 = X := ⟨_, rfl⟩;obtain ⟨sy, hsy⟩ : ∃ X, ty + 1 = X := ⟨_, rfl⟩;rw [hX0] at f1 ⊢;rw [hY0] at f2 ⊢;rw [hX1] at f3 q1 ⊢;rw [hY1] at f4 q2 ⊢;rw [hsx] at f3 g1;rw [hsy] at f4 g2;have hu := ((Up.refl w).alloc (tiC (tz : Int) (tx : Int) (ty : Int))).alloc (rcC ⟨0, 0, 0, 0, 0⟩);have p0 := ((Up.refl _).alloc (rcC ⟨0, 0, 0, 0, 0⟩)).obj (heap_alloc_new w (tiC (tz : Int) (tx : Int) (ty : Int)));have p1 := heap_alloc_new (w.alloc (tiC (tz : Int) (tx : Int) (ty : Int))) (rcC ⟨0, 0, 0, 0, 0⟩);rw [World.size_alloc] at p1;obtain ⟨t0, t1, t2⟩ := ti_cells p0;have HP0 := Lib.hid p0;clear hX0 hY0 hX1 hY1 hsx hsy b1 b2 a1 a2 hz hx hy hpos p0;go_enter Tryz.func234, Tryz.ntmps234;go_wp2_with fail;obtain ⟨X, hX⟩ : ∃ X, (w.alloc (tiC (tz : Int) (tx : Int) (ty : Int))).alloc (rcC ⟨0, 0, 0, 0, 0⟩) = X := ⟨_, rfl⟩;rw [hX] at hu p1 t0 t1 t2 HP0;(try rw [hX]);clear hX;have P0 := Lib.hid (((Up.refl X).drew).obj HP0.out);have P1 := Lib.hid (((Up.refl X).drew).obj p1);have MK := Lib.hid (fun w' (h : Up X w') => (⟨h.cell t0, h.cell t1, h.cell t2⟩ : w'.cell? ⟨w.heap.size, 0, none⟩ = some (.int .i64 (tz : Int)) ∧ w'.cell? ⟨w.heap.size, 1, none⟩ = some (.int .i64 (tx : Int)) ∧ w'.cell? ⟨w.heap.size, 2, none⟩ = some (.int .i64 (ty : Int))));refine wp_region_held_drew (S := fun w' => w'.cell? ⟨w.heap.size, 0, none⟩ = some (.int .i64 (tz : Int)) ∧ w'.cell? ⟨w.heap.size, 1, none⟩ = some (.int .i64 (tx : Int)) ∧ w'.cell? ⟨w.heap.size, 2, none⟩ = some (.int .i64 (ty : Int))) (by kernel_rfl) (MK.out _ (Up.refl _).drew) (fun hHeld => ?_);refine tk 0 rfl ?_;(try simp only [Act.put, tz1, tz2, tz3]);refine tk 1 rfl ?_;(try simp only [Act.put, tz1, tz2, tz3]);refine tk 2 rfl ?_;(try simp only [Act.put, tz1, tz2, tz3]);refine tk 3 rfl ?_;(try simp only [Act.put, tz1, tz2, tz3]);refine tk 4 rfl ?_;(try simp only [Act.put, tz1, tz2, tz3]);refine tk 5 rfl ?_;(try simp only [Act.put, tz1, tz2, tz3]);refine tk 6 rfl ?_;(try simp only [Act.put, tz1, tz2, tz3]);refine tk 7 rfl ?_;(try simp only [Act.put, tz1, tz2, tz3]);refine tk 8 rfl ?_;(try simp only [Act.put, tz1, tz2, tz3]);refine tk 9 rfl ?_;(try simp only [Act.put, tz1, tz2, tz3]);refine tk 10 rfl ?_;(try simp only [Act.put, tz1, tz2, tz3]);refine tk 11 rfl ?_;(try simp only [Act.put, tz1, tz2, tz3]);refine tk 12 rfl ?_;(try simp only [Act.put, tz1, tz2, tz3]);refine tk 13 rfl ?_;(try simp only [Act.put, tz1, tz2, tz3]);refine tk 14 rfl ?_;(try simp only [Act.put, tz1, tz2, tz3]);refine tk 15 rfl ?_;(try simp only [Act.put, tz1, tz2, tz3]);refine tk 16 rfl ?_;(try simp only [Act.put, tz1, tz2, tz3]);refine tk 17 rfl ?_;(try simp only [Act.put, tz1, tz2, tz3]);refine tk 18 rfl ?_;(try simp only [Act.put, tz1, tz2, tz3]);refine tk 19 rfl ?_;(try simp only [Act.put, tz1, tz2, tz3]);refine tk 20 rfl ?_;(try simp only [Act.put, tz1, tz2, tz3]);refine tk 21 rfl ?_;(try simp only [Act.put, tz1, tz2, tz3]);have hud := (Up.refl X).drew;generalize X.drew = Y at *;obtain ⟨c0, c1, c2, c3, c4⟩ := rc_cells (r := ⟨0, 0, 0, 0, 0⟩) P1.out;simp only at c0 c1 c2 c3 c4;have z0 : Y.frozen? ⟨w.heap.size + 1, 0, none⟩ = false := by simp [World.frozen?, P1.out]
  have z1 : Y.frozen? ⟨w.heap.size + 1, 1, none⟩ = false := by simp [World.frozen?, P1.out]
  have z2 : Y.frozen? ⟨w.heap.size + 1, 2, none⟩ = false := by simp [World.frozen?, P1.out]
  have z3 : Y.frozen? ⟨w.heap.size + 1, 3, none⟩ = false := by simp [World.frozen?, P1.out]
  have z4 : Y.frozen? ⟨w.heap.size + 1, 4, none⟩ = false := by simp [World.frozen?, P1.out]
  have s0 := heap_setCell_same Y (w.heap.size + 1) 0 _ 166 (.int .i64 (z : Int)) P1.out;have s1 := heap_setCell_same _ (w.heap.size + 1) 1 _ 166 (.int .i64 (X0 : Int)) s0;have s2 := heap_setCell_same _ (w.heap.size + 1) 2 _ 166 (.int .i64 (Y0 : Int)) s1;have s3 := heap_setCell_same _ (w.heap.size + 1) 3 _ 166 (.int .i64 ((X1 - 1 : Nat) : Int)) s2;have s4 := heap_setCell_same _ (w.heap.size + 1) 4 _ 166 (.int .i64 ((Y1 - 1 : Nat) : Int)) s3;have d0 := blkc s4 0 _ rfl;have d1 := blkc s4 1 _ rfl;have d2 := blkc s4 2 _ rfl;have d3 := blkc s4 3 _ rfl;have d4 := blkc s4 4 _ rfl;have hwY := hu.trans hud;have huF := ((((hwY.set (p := ⟨w.heap.size + 1, 0, none⟩) (by simp) (.int .i64 (z : Int))).set (p := ⟨w.heap.size + 1, 1, none⟩) (by simp) (.int .i64 (X0 : Int))).set (p := ⟨w.heap.size + 1, 2, none⟩) (by simp) (.int .i64 (Y0 : Int))).set (p := ⟨w.heap.size + 1, 3, none⟩) (by simp) (.int .i64 ((X1 - 1 : Nat) : Int))).set (p := ⟨w.heap.size + 1, 4, none⟩) (by simp) (.int .i64 ((Y1 - 1 : Nat) : Int));have HF := Lib.hid huF;have hT := ti_cells ((Below.heap_setCell _ ⟨w.heap.size + 1, 4, none⟩ (.int .i64 ((Y1 - 1 : Nat) : Int)) w.heap.size (by simp)).trans ((Below.heap_setCell _ ⟨w.heap.size + 1, 3, none⟩ (.int .i64 ((X1 - 1 : Nat) : Int)) w.heap.size (by simp)).trans ((Below.heap_setCell _ ⟨w.heap.size + 1, 2, none⟩ (.int .i64 (Y0 : Int)) w.heap.size (by simp)).trans ((Below.heap_setCell _ ⟨w.heap.size + 1, 1, none⟩ (.int .i64 (X0 : Int)) w.heap.size (by simp)).trans ((Below.heap_setCell Y ⟨w.heap.size + 1, 0, none⟩ (.int .i64 (z : Int)) w.heap.size (by simp)).trans P0.out)))));have HT := Lib.hid hT;clear hT;clear s0 s1 s2 s3 s4 MK;refine rd1 22 rfl (fun K hK => ?_);go_simp;refine hK.out _ _ HT.out (fun hHeld2 => ?_);clear hK K hHeld2;refine wpAnyH_done (by kernel_rfl) ?_ _;go_wp2_with fail;refine bodyPost_ret (v := rcA ⟨z, X0, Y0, (X1 - 1 : Nat), (Y1 - 1 : Nat)⟩) (by simp [results, Tryz.results234, go_sem, d0, d1, d2, d3, d4]) rfl ⟨rfl, HF.out⟩
end Go.Proofs.YtjhgaildbeokkaaGreatDoor
/- Walks: tileid.Range. -/
namespace Go.Gz
def rangeV (tz tx ty z : Nat) : Sp := (baseN z + hil tz tx ty * 4 ^ (z - tz), baseN z + hil tz tx ty * 4 ^ (z - tz) + 4 ^ (z - tz) - 1)
end Go.Gz
namespace Go.Proofs.YtjhgaildbeokkaaGreatDoor
open Go.RowKit Go.Gz Go.Shelf

set_option maxRecDepth 100000
set_option maxHeartbeats 4000000 in
theorem trange_any (tz tx ty z : Nat) (h1 : tz ≤ z) (h2 : z ≤ 26) (hx : tx < 2 ^ tz) (hy : ty < 2 ^ tz) (w : World) :
    Calls Tryz.prog 237 #[tiA (tz : Int) (tx : Int) (ty : Int), .int .i64 (z : Int)] w fun e w' => e = .returned (.tuple #[.int .u64 ((rangeV tz tx ty z).1 : Int), .int .u64 ((rangeV tz tx ty z).2 : Int), .int .i64 0]) ∧ Up w w' := by
  obtain ⟨n, hn⟩ : ∃ n, z - tz = n := ⟨_, rfl⟩;have hpe : placeE (tz : Int) (tx : Int) (ty : Int) = 0 := by
    unfold placeE;rw [if_neg (by omega), if_neg (by simp only [Int.toNat_natCast]; omega)]
  have ID := fun w => Lib.hid (id_any (tz : Int) (tx : Int) (ty : Int) w);have hid : idV (tz : Int) (tx : Int) (ty : Int) = baseN tz + hil tz tx ty := by unfold idV; rw [if_pos hpe]; simp
  rw [hid, hpe] at ID;have BZ := fun w => Lib.hid (base_any z (by omega) w);have BT := fun w => Lib.hid (base_any tz (by omega) w);have hh := hil_lt tz tx ty hx hy;have h4 : 4 ^ z = 4 ^ tz * 4 ^ n := by rw [← Nat.pow_add]; congr 1; omega
  have hb := baseN_eq z;have hbt := baseN_eq tz;have h26 := four_pow_le27 (z := z) (by omega);have h27 := four_pow_le27 (z := tz) (by omega);have hpos : 1 ≤ 4 ^ n := Nat.pos_of_ne_zero (by simp);have hn4 := four_pow_le27 (z := n) (by omega);have hm : (hil tz tx ty + 1) * 4 ^ n ≤ 4 ^ z := by rw [h4]; exact Nat.mul_le_mul_right _ (by omega)
  have ha : (hil tz tx ty + 1) * 4 ^ n = hil tz tx ty * 4 ^ n + 4 ^ n := by rw [Nat.add_mul, Nat.one_mul]
  unfold rangeV;rw [hn];generalize hil tz tx ty = h at *;have ep : (2 : Int) ^ (2 * n) = ((4 ^ n : Nat) : Int) := by rw [Int.pow_mul]; simp
  have e0 : IntKind.i64.wrap ((z : Int) - (tz : Int)) = (n : Int) := by rw [IntWalk.i64_in _ (by omega)]; omega
  have e1 : IntKind.i64.wrap (2 * (n : Int)) = 2 * (n : Int) := IntWalk.i64_in _ (by omega);have e5 : (2 * (n : Int)).toNat = 2 * n := by omega
  have f0 : IntKind.u64.wrap (((baseN tz + h : Nat) : Int) - (baseN tz : Int)) = (h : Int) := by rw [IntWalk.u64_in _ (by omega)]; omega
  have f1 : IntKind.u64.wrap ((h : Int) * 2 ^ (2 * n)) = ((h * 4 ^ n : Nat) : Int) := by
    rw [ep, show (h : Int) * ((4 ^ n : Nat) : Int) = ((h * 4 ^ n : Nat) : Int) by simp];exact IntWalk.u64_in _ (by omega)
  have f1' : IntKind.u64.wrap (2 ^ (2 * n)) = ((4 ^ n : Nat) : Int) := by rw [ep]; exact IntWalk.u64_in _ (by omega)
  generalize h * 4 ^ n = hq at *;generalize 4 ^ n = q at *;obtain ⟨bz, hbz⟩ : ∃ b, baseN z = b := ⟨_, rfl⟩;rw [hbz] at hb BZ ⊢;obtain ⟨ii, hii⟩ : ∃ b, baseN tz + h = b := ⟨_, rfl⟩;rw [hii] at f0 ID;have f2 : IntKind.u64.wrap ((bz : Int) + (hq : Int)) = ((bz + hq : Nat) : Int) := by rw [IntWalk.u64_in _ (by omega)]; omega
  have f3 : IntKind.u64.wrap (((bz + hq : Nat) : Int) + (q : Int)) = ((bz + hq + q : Nat) : Int) := by rw [IntWalk.u64_in _ (by omega)]; omega
  have f4 : IntKind.u64.wrap (((bz + hq + q : Nat) : Int) - 1) = ((bz + hq + q - 1 : Nat) : Int) := by rw [IntWalk.u64_in _ (by omega)]; omega
  obtain ⟨fr, hfr⟩ : ∃ b, bz + hq = b := ⟨_, rfl⟩;rw [hfr] at f2 f3 f4 ⊢;obtain ⟨f5, hf5⟩ : ∃ b, fr + q = b := ⟨_, rfl⟩;rw [hf5] at f3 f4 ⊢;have g1 : ¬ (z : Int) < (tz : Int) := by omega
  have g2 : ¬ (26 : Int) < (z : Int) := by omega
  have hu := (Up.refl w).alloc (tiC (tz : Int) (tx : Int) (ty : Int));have p0 := heap_alloc_new w (tiC (tz : Int) (tx : Int) (ty : Int));obtain ⟨t0, t1, t2⟩ := ti_cells p0;clear hb hbt h26 h27 hpos hn4 hm ha hh h4 hid hpe hx hy ep hii hfr hf5 hbz p0 h1 h2;go_enter Tryz.func237, Tryz.ntmps237;go_wp2_with fail;with_reducible refine (ID _).out.mono ?_
  rintro e X ⟨rfl, hu1⟩;replace t0 := hu1.cell t0;have HX := Lib.hid (hu.trans hu1);clear t1 t2 hu1 ID;go_wp2_with fail;have MK := Lib.hid (fun w' (h : Up X w') => (h.cell t0 : w'.cell? ⟨w.heap.size, 0, none⟩ = some (.int .i64 (tz : Int))));refine wp_region_held_drew (S := fun w' => w'.cell? ⟨w.heap.size, 0, none⟩ = some (.int .i64 (tz : Int))) (by kernel_rfl) (MK.out _ (Up.refl _).drew) (fun hHeld => ?_);have hU := (Up.refl X).drew;generalize X.drew = y0 at *;refine tk 0 rfl ?_;(try simp only [Act.put, tz1, tz2, tz3]);refine tk 2 rfl ?_;(try simp only [Act.put, tz1, tz2, tz3]);refine tk 3 rfl ?_;(try simp only [Act.put, tz1, tz2, tz3]);refine tk 4 rfl ?_;(try simp only [Act.put, tz1, tz2, tz3]);refine tk 7 rfl ?_;(try simp only [Act.put, tz1, tz2, tz3]);refine rd1 1 rfl (fun K hK => ?_);go_simp;go_at_call 230;with_reducible refine (BZ _).out.mono ?_
  rintro e y1 ⟨rfl, hqq⟩;have hu : Up y0 y1 := by rw [← hqq]; exact Up.refl _
  clear hqq;refine hK.out _ _ (MK.out _ (hU.trans hu)) (fun hHeld => ?_);clear hK K;(try simp only [Act.put, tz1, tz2, tz3]);replace hU := hU.trans hu;clear hu;refine rd1 5 rfl (fun K hK => ?_);go_simp;go_at_call 230;with_reducible refine (BT _).out.mono ?_
  rintro e y2 ⟨rfl, hqq⟩;have hu : Up y1 y2 := by rw [← hqq]; exact Up.refl _
  clear hqq;refine hK.out _ _ (MK.out _ (hU.trans hu)) (fun hHeld => ?_);clear hK K;(try simp only [Act.put, tz1, tz2, tz3]);replace hU := hU.trans hu;clear hu;refine tk 6 rfl ?_;(try simp only [Act.put, tz1, tz2, tz3]);refine tk 8 rfl ?_;(try simp only [Act.put, tz1, tz2, tz3]);refine tk 9 rfl ?_;(try simp only [Act.put, tz1, tz2, tz3]);refine tk 10 rfl ?_;(try simp only [Act.put, tz1, tz2, tz3]);refine wpAnyH_done (by kernel_rfl) ?_ _;clear hHeld MK;have HY := Lib.hid (HX.out.trans hU);clear hU t0;go_wp2_with fail;refine wp_region_held_drew (S := fun _ => True) (by kernel_rfl) trivial (fun hHeld => ?_);refine tk 0 rfl ?_;(try simp only [Act.put, tz1, tz2, tz3]);refine tk 1 rfl ?_;(try simp only [Act.put, tz1, tz2, tz3]);refine tk 2 rfl ?_;(try simp only [Act.put, tz1, tz2, tz3]);refine tk 3 rfl ?_;(try simp only [Act.put, tz1, tz2, tz3]);refine tk 4 rfl ?_;(try simp only [Act.put, tz1, tz2, tz3]);refine tk 5 rfl ?_;(try simp only [Act.put, tz1, tz2, tz3]);refine tk 6 rfl ?_;(try simp only [Act.put, tz1, tz2, tz3]);refine tk 7 rfl ?_;(try simp only [Act.put, tz1, tz2, tz3]);refine tk 8 rfl ?_;(try simp only [Act.put, tz1, tz2, tz3]);refine wpAnyH_done (by kernel_rfl) ?_ _;go_wp2_with fail;go_ret3
  exact ⟨rfl, HY.out.drew⟩
end Go.Proofs.YtjhgaildbeokkaaGreatDoor
/- Walks: tileid.Down. -/
namespace Go.Proofs.YtjhgaildbeokkaaGreatDoor
open Go.RowKit Go.Gz Go.Shelf

set_option maxRecDepth 100000
theorem infoTi : (Tryz.prog.info? 171).map (fun i => (i.zero, i.size, i.bytes)) = some (some (.agg #[.int .i64 0, .int .i64 0, .int .i64 0]), 3, 24) := by kernel_rfl
def DownR (w : World) (z x y fr gk : Nat) (v i : Value) (wr : World) : Prop := ∃ k j : Nat, k + gk = 4 ∧ j = fr + k ∧ i = .int .u64 (j : Int) ∧ wr.ownsRow w.heap.size 171 3 v k (tiV ((kidsV z x y).take k)) ∧ Up w wr
set_option maxHeartbeats 4000000 in
theorem down_any (z x y : Nat) (hz : z < 26) (hx : x < 2 ^ z) (hy : y < 2 ^ z) (w : World) :
    Calls Tryz.prog 238 #[tiA (z : Int) (x : Int) (y : Int)] w fun e w' => ∃ v, e = .returned (.tuple #[v, .int .i64 0]) ∧ w'.ownsRow w.heap.size 171 3 v 4 (tiV (kidsV z x y)) ∧ Up w w' := by
  obtain ⟨i0, hi, hz0, hz1, hz2⟩ := info_parts infoTi;have RG := fun w => Lib.hid (trange_any z x y (z + 1) (by omega) (by omega) hx hy w);have hh := hil_lt z x y hx hy;have h4 : 4 ^ (z + 1) = 4 * 4 ^ z := by rw [Nat.pow_succ]; omega
  have TO := fun k (hk : k < 4) => tile_of (z := z + 1) (d := hil z x y * 4 + k) (by omega) (by omega);have hr : rangeV z x y (z + 1) = (baseN (z + 1) + hil z x y * 4, baseN (z + 1) + hil z x y * 4 + 3) := by
    unfold rangeV;rw [show z + 1 - z = 1 by omega];rfl
  rw [hr] at RG;simp only at RG;obtain ⟨fr, hfr⟩ : ∃ f, baseN (z + 1) + hil z x y * 4 = f := ⟨_, rfl⟩;rw [hfr] at RG;obtain ⟨i3, hi3⟩ : ∃ f, fr + 3 = f := ⟨_, rfl⟩;rw [hi3] at RG;have TF : ∀ k, k < 4 → ∀ w, Hid (Calls Tryz.prog 158 #[.int .u64 ((fr + k : Nat) : Int)] w fun e w' => e = .returned (.tuple #[tiA ((tilZ (z + 1) (hil z x y * 4 + k)).1 : Int) ((tilZ (z + 1) (hil z x y * 4 + k)).2.1 : Int) ((tilZ (z + 1) (hil z x y * 4 + k)).2.2 : Int), .int .i64 0]) ∧ Up w w') := fun k hk w => by
    obtain ⟨t1, t2, t3⟩ := TO k hk;have e : baseN (z + 1) + (hil z x y * 4 + k) = fr + k := by omega
    rw [e] at t1 t2 t3;have h := tof_any (fr + k) t1 w;rw [t2, t3] at h;exact Lib.hid h
  have hfl : fr < 6004799503160661 := by have := (TO 0 (by omega)).1; omega
  have KG := Lib.hid (fun k (h : k < 4) => kids_get z x y k h);have KL := Lib.hid (kids_len z x y);have hu := (Up.refl w).alloc (tiC (z : Int) (x : Int) (y : Int));obtain ⟨t0, t1, t2⟩ := ti_cells (heap_alloc_new w (tiC (z : Int) (x : Int) (y : Int)));have e0 : IntKind.i64.wrap ((z : Int) + 1) = ((z + 1 : Nat) : Int) := by rw [IntWalk.i64_in _ (by omega)]; omega
  obtain ⟨z1, hz1'⟩ : ∃ q, z + 1 = q := ⟨_, rfl⟩;rw [hz1'] at e0 RG;clear TO hr hh h4 hx hy hfr;go_enter Tryz.func238, Tryz.ntmps238;go_wp2_with fail;with_reducible refine (RG _).out.mono ?_
  rintro e w1 ⟨rfl, hu1⟩;have HU1 := Lib.hid (hu.trans hu1);clear t0 t1 t2 hu1 hu RG;go_wp2_with fail;go_loopg [9, 10] 4 (fun gk v i wr => DownR w z x y fr gk v i wr)
  case atStart => exact ⟨0, fr, by omega, by omega, rfl, World.ownsRow_nil _ _ _ _, HU1.out⟩
  case round =>
    obtain ⟨k, j, hk, hj, rfl, ho, hu⟩ := hrel;by_cases hlt : k < 4
    · obtain ⟨m, rfl⟩ : ∃ m, gk = m + 1 := ⟨gk - 1, by omega⟩;have T := TF k hlt;rw [← hj] at T;have hst : (kidsV z x y).take (k + 1) = (kidsV z x y).take k ++ [tilZ (z + 1) (hil z x y * 4 + k)] := by
        rw [List.take_succ_eq_append_getElem (by rw [KL.out]; exact hlt), KG.out k hlt]
      have HST := Lib.hid hst;generalize tilZ (z + 1) (hil z x y * 4 + k) = q at *;obtain ⟨qz, qx, qy⟩ := q;simp only at T;have HO := Lib.hid ho;have HU := Lib.hid hu;have kI : j ≤ i3 := by omega
      have f1 : IntKind.u64.wrap ((j : Int) + 1) = ((j + 1 : Nat) : Int) := by rw [IntWalk.u64_in _ (by omega)]; omega
      obtain ⟨j1, hj1⟩ : ∃ i, j + 1 = i := ⟨_, rfl⟩;rw [hj1] at f1;have HJ := Lib.hid hj;have HJ1 := Lib.hid hj1;have HI3 := Lib.hid hi3;clear ho hu hst TF hj hj1 hi3;go_wp2_with fail;with_reducible refine (T _).out.mono ?_
      rintro e X ⟨rfl, hu1⟩;have hua := hu1.trans ((Up.refl X).alloc (tiC (qz : Int) (qx : Int) (qy : Int)));have HU2 := Lib.hid (HU.out.trans hua);have HO2 := Lib.hid (own_up HO.out hua);obtain ⟨t0, t1, t2⟩ := ti_cells (heap_alloc_new X (tiC (qz : Int) (qx : Int) (qy : Int)));have hsz : w.heap.size ≤ X.heap.size := (HU.out.trans hu1).le;clear hu1 hua;go_wp2_with (at_builtin; refine app_one (X.alloc (tiC (qz : Int) (qx : Int) (qy : Int))) rfl _ _ 368 rfl w.heap.size 171 i0 _ 3 24 Tryz.underlying368 hi hz0 hz1 hz2 rfl (by decide) _ _ _ HO2.out rfl #[.int .i64 (qz : Int), .int .i64 (qx : Int), .int .i64 (qy : Int)] (by simp [Act.eval]; done) rfl (by simp [Value.oneCell']) (by omega) (by omega) (by simp; omega) ?_; intro v3 w3 ho3 hg3 hb3)
      go_roundg m
      case measure => omega
      case rel =>
        refine ⟨k + 1, j1, by omega, by have := HJ.out; have := HJ1.out; omega, rfl, ?_, Up.of (Below.trans HU2.out.below hb3)⟩;rw [HST.out, tiV_app];exact ho3
    · have kI : ¬ j ≤ i3 := by omega
      have hk0 : k = 4 := by omega
      subst hk0;rw [List.take_of_length_le (by rw [KL.out]; omega)] at ho;have hr := ho;have HO := Lib.hid hr;have HU := Lib.hid hu;clear ho hr hu TF hj hi3;go_wp2_with fail;go_ret2
      exact ⟨_, rfl, HO.out, HU.out⟩
end Go.Proofs.YtjhgaildbeokkaaGreatDoor
/- Plain laws: going down the tiles of a rectangle. -/
namespace Go.Gz
/-- over tiles, until one says stop -/
def goK (f : Til → Sps → Sps × Bool) : List Til → Sps → Sps × Bool
  | [], l => (l, true)
  | t :: ts, l => if (f t l).2 = true then goK f ts (f t l).1 else f t l
def walkV (r : Rc) (rz : Nat) (most : Int) : Nat → Til → Sps → Sps × Bool
  | 0, t, l => if apartR (squareR t.1 t.2.1 t.2.2 rz) r = true then (l, true) else (joinL l (rangeV t.1 t.2.1 t.2.2 rz), decide (((joinL l (rangeV t.1 t.2.1 t.2.2 rz)).length : Int) ≤ most))
  | n + 1, t, l => if apartR (squareR t.1 t.2.1 t.2.2 rz) r = true then (l, true) else if withinR (squareR t.1 t.2.1 t.2.2 rz) r = true then (joinL l (rangeV t.1 t.2.1 t.2.2 rz), decide (((joinL l (rangeV t.1 t.2.1 t.2.2 rz)).length : Int) ≤ most)) else goK (walkV r rz most n) (kidsV t.1 t.2.1 t.2.2) l
/-- a list that spans may be put to -/
def SpOk (l : Sps) : Prop := ∀ x ∈ l, x.2 < 18446744073709551615
theorem spOk_join {l : Sps} {s : Sp} (h : SpOk l) (hs : s.2 < 18446744073709551615) : SpOk (joinL l s) := by
  rcases List.eq_nil_or_concat l with rfl | ⟨pre, x, rfl⟩
  · intro y hy; simp [join_nil] at hy; subst hy; exact hs
  · rw [List.concat_eq_append] at *;rw [join_snoc];have hx := h x (by simp);have hp : ∀ y ∈ pre, y.2 < 18446744073709551615 := fun y hy => h y (by simp [hy]);split
    · intro y hy;rcases List.mem_append.1 hy with hy | hy
      · exact hp y hy
      · simp only [List.mem_singleton] at hy; subst hy; simp only; omega
    · intro y hy;rcases List.mem_append.1 hy with hy | hy
      · exact h y hy
      · simp only [List.mem_singleton] at hy; subst hy; exact hs
/-- a tile of zoom z, in its place -/
structure TilOk (q : Nat) (t : Til) : Prop where
  z : t.1 = q
  x : t.2.1 < 2 ^ q
  y : t.2.2 < 2 ^ q
theorem kids_ok (z x y : Nat) : ∀ t ∈ kidsV z x y, TilOk (z + 1) t := by
  intro t ht;unfold kidsV at ht;simp only [List.mem_map] at ht;obtain ⟨k, _, rfl⟩ := ht;exact ⟨rfl, (unhil_lt _ _).1, (unhil_lt _ _).2⟩
theorem range_lt {rz : Nat} {t : Til} {z : Nat} (h : TilOk z t) (hz : z ≤ rz) (h2 : rz ≤ 26) : (rangeV t.1 t.2.1 t.2.2 rz).1 < 6004799503160661 ∧ (rangeV t.1 t.2.1 t.2.2 rz).2 < 6004799503160661 := by
  obtain ⟨tz, tx, ty⟩ := t;obtain ⟨h1, hx, hy⟩ := h;simp only at h1 hx hy;subst h1;have hh := hil_lt tz tx ty hx hy;obtain ⟨n, hn⟩ : ∃ n, rz - tz = n := ⟨_, rfl⟩;have h4 : 4 ^ rz = 4 ^ tz * 4 ^ n := by rw [← Nat.pow_add]; congr 1; omega
  have hm : (hil tz tx ty + 1) * 4 ^ n ≤ 4 ^ rz := by rw [h4]; exact Nat.mul_le_mul_right _ (by omega)
  have ha : (hil tz tx ty + 1) * 4 ^ n = hil tz tx ty * 4 ^ n + 4 ^ n := by rw [Nat.add_mul, Nat.one_mul]
  have hpos : 1 ≤ 4 ^ n := Nat.pos_of_ne_zero (by simp);have hb := baseN_eq 27;have hmn := baseN_mono (a := rz + 1) (b := 27) (by omega);have e : baseN (rz + 1) = baseN rz + 4 ^ rz := rfl;have h27 : (4 : Nat) ^ 27 = 18014398509481984 := by decide
  unfold rangeV;rw [hn];simp only;omega
/-- what going down keeps -/
structure WkOk (most : Int) (p : Sps × Bool) : Prop where
  ok : SpOk p.1
  len : p.2 = true → (p.1.length : Int) ≤ most
theorem goK_ok {f : Til → Sps → Sps × Bool} {most : Int} (ts : List Til) (hf : ∀ t ∈ ts, ∀ l, SpOk l → (l.length : Int) ≤ most → WkOk most (f t l)) : ∀ l, SpOk l → (l.length : Int) ≤ most → WkOk most (goK f ts l) := by
  induction ts with
  | nil => exact fun l h1 h2 => ⟨h1, fun _ => h2⟩
  | cons t ts ih =>
    intro l h1 h2;have ht := hf t (by simp) l h1 h2;unfold goK;split
    · rename_i hb;exact ih (fun u hu => hf u (by simp [hu])) _ ht.ok (ht.len hb)
    · exact ht
theorem walk_ok (r : Rc) (rz : Nat) (h2 : rz ≤ 26) (most : Int) : ∀ (n : Nat) (z : Nat) (t : Til), TilOk z t → z + n = rz → ∀ l, SpOk l → (l.length : Int) ≤ most → WkOk most (walkV r rz most n t l)
  | 0, z, t, ht, hz, l, h, hl => by
    unfold walkV;split
    · exact ⟨h, fun _ => hl⟩
    · exact ⟨spOk_join h (by have := (range_lt ht (by omega) h2).2; omega), fun hb => of_decide_eq_true hb⟩
  | n + 1, z, t, ht, hz, l, h, hl => by
    unfold walkV;split
    · exact ⟨h, fun _ => hl⟩
    · split
      · exact ⟨spOk_join h (by have := (range_lt ht (by omega) h2).2; omega), fun hb => of_decide_eq_true hb⟩
      · exact goK_ok _ (fun u hu l h hl => walk_ok r rz h2 most n (z + 1) u (by have := kids_ok t.1 t.2.1 t.2.2 u hu; rw [ht.z] at this; exact this) (by omega) l h hl) l h hl
/-- at the rectangle's own zoom a tile is apart or within -/
theorem apart_within {rz : Nat} {t : Til} (ht : TilOk rz t) (r : Rc) (h : ¬ apartR (squareR t.1 t.2.1 t.2.2 rz) r = true) : withinR (squareR t.1 t.2.1 t.2.2 rz) r = true := by
  obtain ⟨tz, tx, ty⟩ := t;obtain ⟨h1, hx, hy⟩ := ht;simp only at h1 hx hy;subst h1;unfold apartR withinR squareR at *;simp only [Nat.sub_self, Nat.pow_zero, Nat.mul_one, Nat.add_sub_cancel, Bool.or_eq_true, Bool.and_eq_true, decide_eq_true_eq] at *;omega
theorem walk_apart {r : Rc} {rz : Nat} {most : Int} {t : Til} {l : Sps} (h : apartR (squareR t.1 t.2.1 t.2.2 rz) r = true) : ∀ n, walkV r rz most n t l = (l, true)
  | 0 => by unfold walkV; rw [if_pos h]
  | n + 1 => by unfold walkV; rw [if_pos h]
theorem walk_within {r : Rc} {rz : Nat} {most : Int} {t : Til} {l : Sps} (h : ¬ apartR (squareR t.1 t.2.1 t.2.2 rz) r = true) (k : withinR (squareR t.1 t.2.1 t.2.2 rz) r = true) : ∀ n, walkV r rz most n t l = (joinL l (rangeV t.1 t.2.1 t.2.2 rz), decide (((joinL l (rangeV t.1 t.2.1 t.2.2 rz)).length : Int) ≤ most))
  | 0 => by unfold walkV; rw [if_neg h]
  | n + 1 => by unfold walkV; rw [if_neg h, if_pos k]
theorem walk_deep {r : Rc} {rz : Nat} {most : Int} {t : Til} {l : Sps} (h : ¬ apartR (squareR t.1 t.2.1 t.2.2 rz) r = true) (k : ¬ withinR (squareR t.1 t.2.1 t.2.2 rz) r = true) (n : Nat) : walkV r rz most (n + 1) t l = goK (walkV r rz most n) (kidsV t.1 t.2.1 t.2.2) l := by
  rw [walkV, if_neg h, if_neg k]
end Go.Gz
