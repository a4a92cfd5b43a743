/- Walk: dirs.set. -/
import Derived.Test.YtbfieomjobbhoaaGreatDoorMN18
import Derived.Test.YtbfieomjobbhoaaGreatDoorMN12
import Derived.Laws.MakeOwn
import Derived.Test.YtbfieomjobbhoaaGreatDoorMN10
namespace Go.Proofs.YtbfieomjobbhoaaGreatDoor
open Go.RowKit Go.Gz Go.Shelf

set_option maxRecDepth 100000
theorem entV_set (L : Ents) : ∀ (i : Nat) (hi : i < L.length) (e' : Ent) (f : Nat) (_ : f < 4) (v : Value) (_ : entC e' = (entC L[i]).set f v), (entV L).set (i * 4 + f) v = entV (L.set i e') := by
  induction L with
  | nil => intro i hi; simp at hi
  | cons x r ih =>
    intro i hi e' f hf v hv;cases i with
    | zero =>
      have e1 : entV (x :: r) = entC x ++ entV r := rfl;have e2 : entV ((x :: r).set 0 e') = entC e' ++ entV r := rfl;rw [e1, e2, hv, List.set_append_left _ _ (by simp [entC]; omega)];simp
    | succ i =>
      have e1 : entV (x :: r) = entC x ++ entV r := rfl;have e2 : entV ((x :: r).set (i + 1) e') = entC x ++ entV (r.set i e') := rfl;have hl : (entC x).length = 4 := rfl;rw [e1, e2, List.set_append_right _ _ (by rw [hl]; omega), hl, show (i + 1) * 4 + f - 4 = i * 4 + f by omega, ih i (by simpa using hi) e' f hf v (by simpa using hv)]
/-- a row of entries that fills its block -/
def EB (w : World) (B : Nat) (L : Ents) : Prop := w.heap[B]? = some (.cells (entV L).toArray 84 (0, 0))
theorem EB.cell {w : World} {B : Nat} {L : Ents} (h : EB w B L) {i : Nat} (hi : i < L.length) : w.cell? ⟨B, i * 4, none⟩ = some (.int .u64 (L[i].id : Int)) ∧ w.cell? ⟨B, i * 4 + 1, none⟩ = some (.int .u64 (L[i].off : Int)) ∧ w.cell? ⟨B, i * 4 + 2, none⟩ = some (.int .u32 (L[i].len : Int)) ∧ w.cell? ⟨B, i * 4 + 3, none⟩ = some (.int .u32 (L[i].run : Int)) ∧ ∀ k, w.frozen? ⟨B, k, none⟩ = false := by
  obtain ⟨g0, g1, g2, g3⟩ := entV_get L i hi;exact ⟨blkc h _ _ (by simpa using g0), blkc h _ _ (by simpa using g1), blkc h _ _ (by simpa using g2), blkc h _ _ (by simpa using g3), fun k => blkf h k⟩
theorem EB.set {w : World} {B : Nat} {L : Ents} (h : EB w B L) {i : Nat} (hi : i < L.length) (e' : Ent) (f : Nat) (hf : f < 4) (v : Value) (hv : entC e' = (entC L[i]).set f v) : EB (w.setCell ⟨B, i * 4 + f, none⟩ v) B (L.set i e') := by
  have := heap_setCell_same w B (i * 4 + f) _ _ v h;unfold EB;rw [this, ← entV_set L i hi e' f hf v hv];simp
/-- what setting a field leaves -/
def SetE (w : World) (B : Nat) (L : Ents) (i : Nat) (r : Int × Ent) (en : Ending) (w' : World) : Prop := en = .returned (.int .i64 r.1) ∧ RK B w w' ∧ (r.1 = 0 → EB w' B (L.set i r.2))
set_option maxHeartbeats 4000000 in
theorem dset0 (i : Nat) (a : Ent) (B : Nat) (L : Ents) (hi : i < L.length) (x : Nat) (w : World) (hb : EB w B L) :
    Calls Tryz.prog 62 #[.int .i64 0, .int .i64 (i : Int), .agg #[.int .u64 (a.id : Int), .int .u64 (a.off : Int), .int .u32 (a.len : Int), .int .u32 (a.run : Int)], .pointer (some ⟨B, i * 4, none⟩), .int .u64 (x : Int)] w (SetE w B L i (setE 0 i a L[i] x)) := by
  have hE : setE 0 i a L[i] x = (if (a.id + x) % 18446744073709551616 < x then 11 else 0, { L[i] with id := (a.id + x) % 18446744073709551616 }) := rfl;rw [hE];obtain ⟨q, hq⟩ : ∃ q, (a.id + x) % 18446744073709551616 = q := ⟨_, rfl⟩;rw [hq];have eq : IntKind.u64.wrap ((a.id : Int) + (x : Int)) = (q : Int) := by rw [IntKind.wrap_u64]; omega
  have hBl : B < w.heap.size := (Array.getElem?_eq_some_iff.1 hb).1;have n4 := new4 w 84 (.int .u64 (a.id : Int)) (.int .u64 (a.off : Int)) (.int .u32 (a.len : Int)) (.int .u32 (a.run : Int));have HB : Hid (EB (w.alloc (.cells #[.int .u64 (a.id : Int), .int .u64 (a.off : Int), .int .u32 (a.len : Int), .int .u32 (a.run : Int)] 84)) B L) := Lib.hid (n4.1.obj hb);have HU := Lib.hid n4.1;obtain ⟨c0, c1, c2, c3, cz⟩ := HB.out.cell hi;have z0 := cz (i * 4);have s0 := EB.set HB.out hi { L[i] with id := q } 0 (by decide) (.int .u64 (q : Int)) rfl;have S0 := Lib.hid s0;have k0 := (EB.cell s0 (i := i) (by simpa using hi)).1;simp only [Nat.add_zero, List.getElem_set_self] at k0;obtain ⟨d0, d1, d2, d3⟩ := n4.2;obtain ⟨W, hW⟩ : ∃ y, w.alloc (.cells #[.int .u64 (a.id : Int), .int .u64 (a.off : Int), .int .u32 (a.len : Int), .int .u32 (a.run : Int)] 84) = y := ⟨_, rfl⟩;rw [hW] at HU c0 z0 k0 S0 d0 d1 d2 d3;clear n4 hb s0 hE hq cz c1 c2 c3 HB;go_enter Tryz.func62, Tryz.ntmps62;by_cases hlt : q < x
  · have t0 : (q : Int) < (x : Int) := by omega
    go_wp2_with fail;go_ret;exact ⟨rfl, ((RK.up HU.out).trans (RK.set B (i * 4) _ _)), fun h => by simp at h⟩
  · have t0 : ¬ (q : Int) < (x : Int) := by omega
    go_wp2_with fail;go_ret;exact ⟨rfl, ((RK.up HU.out).trans (RK.set B (i * 4) _ _)), fun _ => S0.out⟩
set_option maxHeartbeats 4000000 in
theorem dset1 (i : Nat) (a : Ent) (B : Nat) (L : Ents) (hi : i < L.length) (x : Nat) (w : World) (hb : EB w B L) :
    Calls Tryz.prog 62 #[.int .i64 1, .int .i64 (i : Int), .agg #[.int .u64 (a.id : Int), .int .u64 (a.off : Int), .int .u32 (a.len : Int), .int .u32 (a.run : Int)], .pointer (some ⟨B, i * 4, none⟩), .int .u64 (x : Int)] w (SetE w B L i (setE 1 i a L[i] x)) := by
  have hE : setE 1 i a L[i] x = (if 4294967296 ≤ x then (11, L[i]) else (0, { L[i] with run := x })) := rfl;rw [hE];have n4 := new4 w 84 (.int .u64 (a.id : Int)) (.int .u64 (a.off : Int)) (.int .u32 (a.len : Int)) (.int .u32 (a.run : Int));have HB : Hid (EB (w.alloc (.cells #[.int .u64 (a.id : Int), .int .u64 (a.off : Int), .int .u32 (a.len : Int), .int .u32 (a.run : Int)] 84)) B L) := Lib.hid (n4.1.obj hb);have HU := Lib.hid n4.1;obtain ⟨c0, c1, c2, c3, cz⟩ := HB.out.cell hi;have z0 := cz (i * 4 + 3);have S0 := Lib.hid (EB.set HB.out hi { L[i] with run := x } 3 (by decide) (.int .u32 (x : Int)) rfl);obtain ⟨W, hW⟩ : ∃ y, w.alloc (.cells #[.int .u64 (a.id : Int), .int .u64 (a.off : Int), .int .u32 (a.len : Int), .int .u32 (a.run : Int)] 84) = y := ⟨_, rfl⟩;rw [hW] at HU c3 z0 S0;clear n4 hb hE cz HB;go_enter Tryz.func62, Tryz.ntmps62;by_cases hlt : 4294967296 ≤ x
  · have t0 : (4294967296 : Int) ≤ (x : Int) := by omega
    rw [if_pos hlt];go_wp2_with fail;go_ret;exact ⟨rfl, RK.up HU.out, fun h => by simp at h⟩
  · have t0 : ¬ (4294967296 : Int) ≤ (x : Int) := by omega
    have e1 : IntKind.u32.wrap (x : Int) = (x : Int) := by rw [IntKind.wrap_u32]; omega
    rw [if_neg hlt];go_wp2_with fail;go_ret;exact ⟨rfl, ((RK.up HU.out).trans (RK.set B (i * 4 + 3) _ _)), fun _ => S0.out⟩
set_option maxHeartbeats 4000000 in
theorem dset2 (i : Nat) (a : Ent) (B : Nat) (L : Ents) (hi : i < L.length) (x : Nat) (w : World) (hb : EB w B L) :
    Calls Tryz.prog 62 #[.int .i64 2, .int .i64 (i : Int), .agg #[.int .u64 (a.id : Int), .int .u64 (a.off : Int), .int .u32 (a.len : Int), .int .u32 (a.run : Int)], .pointer (some ⟨B, i * 4, none⟩), .int .u64 (x : Int)] w (SetE w B L i (setE 2 i a L[i] x)) := by
  have hE : setE 2 i a L[i] x = (if 4294967296 ≤ x then (11, L[i]) else (0, { L[i] with len := x })) := rfl;rw [hE];have n4 := new4 w 84 (.int .u64 (a.id : Int)) (.int .u64 (a.off : Int)) (.int .u32 (a.len : Int)) (.int .u32 (a.run : Int));have HB : Hid (EB (w.alloc (.cells #[.int .u64 (a.id : Int), .int .u64 (a.off : Int), .int .u32 (a.len : Int), .int .u32 (a.run : Int)] 84)) B L) := Lib.hid (n4.1.obj hb);have HU := Lib.hid n4.1;obtain ⟨c0, c1, c2, c3, cz⟩ := HB.out.cell hi;have z0 := cz (i * 4 + 2);have S0 := Lib.hid (EB.set HB.out hi { L[i] with len := x } 2 (by decide) (.int .u32 (x : Int)) rfl);obtain ⟨W, hW⟩ : ∃ y, w.alloc (.cells #[.int .u64 (a.id : Int), .int .u64 (a.off : Int), .int .u32 (a.len : Int), .int .u32 (a.run : Int)] 84) = y := ⟨_, rfl⟩;rw [hW] at HU c2 z0 S0;clear n4 hb hE cz HB;go_enter Tryz.func62, Tryz.ntmps62;by_cases hlt : 4294967296 ≤ x
  · have t0 : (4294967296 : Int) ≤ (x : Int) := by omega
    rw [if_pos hlt];go_wp2_with fail;go_ret;exact ⟨rfl, RK.up HU.out, fun h => by simp at h⟩
  · have t0 : ¬ (4294967296 : Int) ≤ (x : Int) := by omega
    have e1 : IntKind.u32.wrap (x : Int) = (x : Int) := by rw [IntKind.wrap_u32]; omega
    rw [if_neg hlt];go_wp2_with fail;go_ret;exact ⟨rfl, ((RK.up HU.out).trans (RK.set B (i * 4 + 2) _ _)), fun _ => S0.out⟩
theorem nextW_any (e : Ent) (w : World) :
    Calls Tryz.prog 127 #[.agg #[.int .u64 (e.id : Int), .int .u64 (e.off : Int), .int .u32 (e.len : Int), .int .u32 (e.run : Int)]] w fun en w' => en = .returned (.int .u64 ((nextE e : Nat) : Int)) ∧ Up w w' := by
  obtain ⟨id, off, len, run⟩ := e;obtain ⟨q, hq⟩ : ∃ q, nextE ⟨id, off, len, run⟩ = q := ⟨_, rfl⟩;rw [hq];unfold nextE at hq;simp only at hq ⊢;have e1 : IntKind.u64.wrap (len : Int) = ((len % 18446744073709551616 : Nat) : Int) := by rw [IntKind.wrap_u64]; omega
  have e2 : IntKind.u64.wrap ((off : Int) + ((len % 18446744073709551616 : Nat) : Int)) = (q : Int) := by rw [IntKind.wrap_u64]; omega
  have n4 := new4 w 84 (.int .u64 (id : Int)) (.int .u64 (off : Int)) (.int .u32 (len : Int)) (.int .u32 (run : Int));obtain ⟨nu, d0, d1, d2, d3⟩ := n4;have HU := Lib.hid nu;clear nu hq;generalize len % 18446744073709551616 = l2 at *;go_enter Tryz.func127, Tryz.ntmps127;go_wp2_with fail;go_ret;exact ⟨rfl, HU.out⟩
/-- the last column -/
theorem RK.drew' {R : Nat} {w w' : World} (h : RK R w w') : RK R w w'.drew := h.trans (RK.drew R w')
set_option maxHeartbeats 8000000 in
theorem dset3 (i : Nat) (a : Ent) (B : Nat) (L : Ents) (hi : i < L.length) (x : Nat) (hx : x < 18446744073709551616) (w : World) (hb : EB w B L) :
    Calls Tryz.prog 62 #[.int .i64 3, .int .i64 (i : Int), .agg #[.int .u64 (a.id : Int), .int .u64 (a.off : Int), .int .u32 (a.len : Int), .int .u32 (a.run : Int)], .pointer (some ⟨B, i * 4, none⟩), .int .u64 (x : Int)] w (SetE w B L i (setE 3 i a L[i] x)) := by
  have hE : setE 3 i a L[i] x = (if i = 0 ∧ x = 0 ∨ 0 < i ∧ 0 < x ∧ (x + 18446744073709551615) % 18446744073709551616 = nextE a then (4, L[i]) else (0, { L[i] with off := if x = 0 then nextE a else (x + 18446744073709551615) % 18446744073709551616 })) := rfl;rw [hE];have NX := fun w => Lib.hid (nextW_any a w);obtain ⟨y, hy⟩ : ∃ y, (x + 18446744073709551615) % 18446744073709551616 = y := ⟨_, rfl⟩;rw [hy];have e1 : IntKind.u64.wrap ((x : Int) - 1) = (y : Int) := by rw [IntKind.wrap_u64]; omega
  have hBl : B < w.heap.size := (Array.getElem?_eq_some_iff.1 hb).1;have n4 := new4 w 84 (.int .u64 (a.id : Int)) (.int .u64 (a.off : Int)) (.int .u32 (a.len : Int)) (.int .u32 (a.run : Int));have HB : Hid (EB (w.alloc (.cells #[.int .u64 (a.id : Int), .int .u64 (a.off : Int), .int .u32 (a.len : Int), .int .u32 (a.run : Int)] 84)) B L) := Lib.hid (n4.1.obj hb);have HU := Lib.hid n4.1;have bx := heap_alloc_new w (.cells #[.int .u64 (a.id : Int), .int .u64 (a.off : Int), .int .u32 (a.len : Int), .int .u32 (a.run : Int)] 84);obtain ⟨c0, c1, c2, c3, cz⟩ := HB.out.cell hi;have z1 := cz (i * 4 + 1);obtain ⟨W, hW⟩ : ∃ y, w.alloc (.cells #[.int .u64 (a.id : Int), .int .u64 (a.off : Int), .int .u32 (a.len : Int), .int .u32 (a.run : Int)] 84) = y := ⟨_, rfl⟩;rw [hW] at HU c1 z1 bx HB;have S0 := EB.set HB.out hi { L[i] with off := y } 1 (by decide) (.int .u64 (y : Int)) rfl;have by2 := (heap_setCell_other W ⟨B, i * 4 + 1, none⟩ w.heap.size (.int .u64 (y : Int)) (by simp; omega)).trans bx;have hk1 : RK B w (W.setCell ⟨B, i * 4 + 1, none⟩ (.int .u64 (y : Int))) := (RK.up HU.out).trans (RK.set B (i * 4 + 1) _ _);obtain ⟨Y, hY⟩ : ∃ y2, W.setCell ⟨B, i * 4 + 1, none⟩ (.int .u64 (y : Int)) = y2 := ⟨_, rfl⟩;rw [hY] at S0 by2 hk1;have hil : i < (L.set i { L[i] with off := y }).length := by simpa using hi
  have k1 := (EB.cell S0 hil).2.1;have kz := (EB.cell S0 hil).2.2.2.2 (i * 4 + 1);have S1 := fun W2 (h : EB W2 B (L.set i { L[i] with off := y })) => EB.set h hil { L[i] with off := nextE a } 1 (by decide) (.int .u64 (nextE a : Int)) (by simp [entC]);simp only [List.getElem_set_self] at k1;have SS := Lib.hid S0;have SN := Lib.hid S1;have HK := Lib.hid hk1;have d0 := blkc by2 0 (.int .u64 (a.id : Int)) rfl;have d1 := blkc by2 1 (.int .u64 (a.off : Int)) rfl;have d2 := blkc by2 2 (.int .u32 (a.len : Int)) rfl;have d3 := blkc by2 3 (.int .u32 (a.run : Int)) rfl;clear n4 hb hE hy cz c0 c2 c3 HB bx by2 S0 S1 hk1 hil;obtain ⟨q, hq⟩ : ∃ q, nextE a = q := ⟨_, rfl⟩;rw [hq] at NX SN ⊢;clear hq;go_enter Tryz.func62, Tryz.ntmps62;by_cases hi0 : i = 0
  · have i0 : ((i : Int) == 0) = true := by rw [beq_iff_eq]; omega
    have i1 : decide ((0 : Int) < (i : Int)) = false := decide_eq_false (by omega);have i2 : decide (0 < i) = false := decide_eq_false (by omega);by_cases hx0 : x = 0
    · have x0 : ((x : Int) == 0) = true := by rw [beq_iff_eq]; omega
      rw [if_pos (.inl ⟨hi0, hx0⟩)];clear hi0 hx0;go_wp2_with fail;try rw [hY]
      refine wp_region_held_drew (S := fun w' => (w'.cell? ⟨w.heap.size, 0, none⟩ = some (.int .u64 (a.id : Int)) ∧ w'.cell? ⟨w.heap.size, 1, none⟩ = some (.int .u64 (a.off : Int)) ∧ w'.cell? ⟨w.heap.size, 2, none⟩ = some (.int .u32 (a.len : Int)) ∧ w'.cell? ⟨w.heap.size, 3, none⟩ = some (.int .u32 (a.run : Int)) ∧ w'.cell? ⟨B, i * 4 + 1, none⟩ = some (.int .u64 (y : Int)))) (by kernel_rfl) ⟨d0, d1, d2, d3, k1⟩ (fun hHeld => ?_);refine tk 0 rfl ?_;(try simp only [Act.put, tz1, tz2, tz3]);refine tk 1 rfl ?_;(try simp only [Act.put, tz1, tz2, tz3]);refine tk 2 rfl ?_;(try simp only [Act.put, tz1, tz2, tz3]);refine tk 3 rfl ?_;(try simp only [Act.put, tz1, tz2, tz3]);refine tk 4 rfl ?_;(try simp only [Act.put, tz1, tz2, tz3]);refine tk 5 rfl ?_;(try simp only [Act.put, tz1, tz2, tz3]);refine tk 6 rfl ?_;(try simp only [Act.put, tz1, tz2, tz3]);refine tk 7 rfl ?_;(try simp only [Act.put, tz1, tz2, tz3]);refine tk 8 rfl ?_;(try simp only [Act.put, tz1, tz2, tz3]);refine tk 9 rfl ?_;(try simp only [Act.put, tz1, tz2, tz3]);refine tk 10 rfl ?_;(try simp only [Act.put, tz1, tz2, tz3]);refine tk 11 rfl ?_;(try simp only [Act.put, tz1, tz2, tz3]);refine tk 12 rfl ?_;(try simp only [Act.put, tz1, tz2, tz3]);refine tk 13 rfl ?_;(try simp only [Act.put, tz1, tz2, tz3]);refine tk 14 rfl ?_;(try simp only [Act.put, tz1, tz2, tz3]);refine tk 15 rfl ?_;(try simp only [Act.put, tz1, tz2, tz3]);refine tk 16 rfl ?_;(try simp only [Act.put, tz1, tz2, tz3]);refine tk 17 rfl ?_;(try simp only [Act.put, tz1, tz2, tz3]);refine tk 18 rfl ?_;(try simp only [Act.put, tz1, tz2, tz3]);refine tk 19 rfl ?_;(try simp only [Act.put, tz1, tz2, tz3]);refine tk 20 rfl ?_;(try simp only [Act.put, tz1, tz2, tz3]);refine tk 21 rfl ?_;(try simp only [Act.put, tz1, tz2, tz3]);refine tk 22 rfl ?_;(try simp only [Act.put, tz1, tz2, tz3]);refine wpAnyH_done (by kernel_rfl) ?_ _;clear hHeld;go_wp2_with fail;go_ret;exact ⟨rfl, HK.out.drew', fun h => by simp at h⟩
    · have x0 : ((x : Int) == 0) = false := by rw [beq_eq_false_iff_ne]; omega
      have x1 : decide ((0 : Int) < (x : Int)) = true := decide_eq_true (by omega);have x2 : decide (0 < x) = true := decide_eq_true (by omega);rw [if_neg (by omega), if_neg hx0];clear hi0 hx0;go_wp2_with fail;try rw [hY]
      refine wp_region_held_drew (S := fun w' => (w'.cell? ⟨w.heap.size, 0, none⟩ = some (.int .u64 (a.id : Int)) ∧ w'.cell? ⟨w.heap.size, 1, none⟩ = some (.int .u64 (a.off : Int)) ∧ w'.cell? ⟨w.heap.size, 2, none⟩ = some (.int .u32 (a.len : Int)) ∧ w'.cell? ⟨w.heap.size, 3, none⟩ = some (.int .u32 (a.run : Int)) ∧ w'.cell? ⟨B, i * 4 + 1, none⟩ = some (.int .u64 (y : Int)))) (by kernel_rfl) ⟨d0, d1, d2, d3, k1⟩ (fun hHeld => ?_);refine tk 0 rfl ?_;(try simp only [Act.put, tz1, tz2, tz3]);refine tk 1 rfl ?_;(try simp only [Act.put, tz1, tz2, tz3]);refine tk 2 rfl ?_;(try simp only [Act.put, tz1, tz2, tz3]);refine tk 3 rfl ?_;(try simp only [Act.put, tz1, tz2, tz3]);refine tk 4 rfl ?_;(try simp only [Act.put, tz1, tz2, tz3]);refine tk 5 rfl ?_;(try simp only [Act.put, tz1, tz2, tz3]);refine tk 6 rfl ?_;(try simp only [Act.put, tz1, tz2, tz3]);refine tk 7 rfl ?_;(try simp only [Act.put, tz1, tz2, tz3]);refine tk 8 rfl ?_;(try simp only [Act.put, tz1, tz2, tz3]);refine tk 9 rfl ?_;(try simp only [Act.put, tz1, tz2, tz3]);refine tk 10 rfl ?_;(try simp only [Act.put, tz1, tz2, tz3]);refine tk 11 rfl ?_;(try simp only [Act.put, tz1, tz2, tz3]);refine tk 12 rfl ?_;(try simp only [Act.put, tz1, tz2, tz3]);refine tk 13 rfl ?_;(try simp only [Act.put, tz1, tz2, tz3]);refine tk 14 rfl ?_;(try simp only [Act.put, tz1, tz2, tz3]);refine tk 15 rfl ?_;(try simp only [Act.put, tz1, tz2, tz3]);refine tk 16 rfl ?_;(try simp only [Act.put, tz1, tz2, tz3]);refine tk 17 rfl ?_;(try simp only [Act.put, tz1, tz2, tz3]);refine tk 18 rfl ?_;(try simp only [Act.put, tz1, tz2, tz3]);refine tk 19 rfl ?_;(try simp only [Act.put, tz1, tz2, tz3]);refine tk 20 rfl ?_;(try simp only [Act.put, tz1, tz2, tz3]);refine tk 21 rfl ?_;(try simp only [Act.put, tz1, tz2, tz3]);refine tk 22 rfl ?_;(try simp only [Act.put, tz1, tz2, tz3]);refine wpAnyH_done (by kernel_rfl) ?_ _;clear hHeld;go_wp2_with fail;go_ret;exact ⟨rfl, HK.out.drew', fun _ => SS.out⟩
  · have i0 : ((i : Int) == 0) = false := by rw [beq_eq_false_iff_ne]; omega
    have i1 : decide ((0 : Int) < (i : Int)) = true := decide_eq_true (by omega);have i2 : decide (0 < i) = true := decide_eq_true (by omega);by_cases hx0 : x = 0
    · have x0 : ((x : Int) == 0) = true := by rw [beq_iff_eq]; omega
      have x1 : decide ((0 : Int) < (x : Int)) = false := decide_eq_false (by omega);have x2 : decide (0 < x) = false := decide_eq_false (by omega);rw [if_neg (by omega), if_pos hx0];clear hi0 hx0;go_wp2_with fail;try rw [hY]
      refine wp_region_held_drew (S := fun w' => (w'.cell? ⟨w.heap.size, 0, none⟩ = some (.int .u64 (a.id : Int)) ∧ w'.cell? ⟨w.heap.size, 1, none⟩ = some (.int .u64 (a.off : Int)) ∧ w'.cell? ⟨w.heap.size, 2, none⟩ = some (.int .u32 (a.len : Int)) ∧ w'.cell? ⟨w.heap.size, 3, none⟩ = some (.int .u32 (a.run : Int)) ∧ w'.cell? ⟨B, i * 4 + 1, none⟩ = some (.int .u64 (y : Int)))) (by kernel_rfl) ⟨d0, d1, d2, d3, k1⟩ (fun hHeld => ?_);refine tk 0 rfl ?_;(try simp only [Act.put, tz1, tz2, tz3]);refine tk 1 rfl ?_;(try simp only [Act.put, tz1, tz2, tz3]);refine tk 2 rfl ?_;(try simp only [Act.put, tz1, tz2, tz3]);refine tk 3 rfl ?_;(try simp only [Act.put, tz1, tz2, tz3]);refine tk 4 rfl ?_;(try simp only [Act.put, tz1, tz2, tz3]);refine tk 5 rfl ?_;(try simp only [Act.put, tz1, tz2, tz3]);refine tk 6 rfl ?_;(try simp only [Act.put, tz1, tz2, tz3]);refine tk 7 rfl ?_;(try simp only [Act.put, tz1, tz2, tz3]);refine tk 8 rfl ?_;(try simp only [Act.put, tz1, tz2, tz3]);refine tk 9 rfl ?_;(try simp only [Act.put, tz1, tz2, tz3]);refine tk 10 rfl ?_;(try simp only [Act.put, tz1, tz2, tz3]);refine tk 11 rfl ?_;(try simp only [Act.put, tz1, tz2, tz3]);refine tk 12 rfl ?_;(try simp only [Act.put, tz1, tz2, tz3]);refine tk 13 rfl ?_;(try simp only [Act.put, tz1, tz2, tz3]);refine tk 14 rfl ?_;(try simp only [Act.put, tz1, tz2, tz3]);refine tk 15 rfl ?_;(try simp only [Act.put, tz1, tz2, tz3]);refine tk 16 rfl ?_;(try simp only [Act.put, tz1, tz2, tz3]);refine tk 17 rfl ?_;(try simp only [Act.put, tz1, tz2, tz3]);refine tk 18 rfl ?_;(try simp only [Act.put, tz1, tz2, tz3]);refine tk 19 rfl ?_;(try simp only [Act.put, tz1, tz2, tz3]);refine tk 20 rfl ?_;(try simp only [Act.put, tz1, tz2, tz3]);refine tk 21 rfl ?_;(try simp only [Act.put, tz1, tz2, tz3]);refine tk 22 rfl ?_;(try simp only [Act.put, tz1, tz2, tz3]);refine wpAnyH_done (by kernel_rfl) ?_ _;clear hHeld;go_wp2_with fail;refine (NX _).out.mono ?_;rintro e w5 ⟨rfl, hu5⟩;have H5 : EB w5 B (L.set i { L[i] with off := y }) := hu5.obj SS.out;have z5 := blkf H5 (i * 4 + 1);have p5 := hu5.cell k1;have S5 := Lib.hid (SN.out _ H5);have HK5 := Lib.hid ((HK.out.drew').trans (RK.up hu5));clear hu5 H5 d0 d1 d2 d3;go_wp2_with fail;go_ret;exact ⟨rfl, HK5.out.trans (RK.set B (i * 4 + 1) _ _), fun _ => by
        have := S5.out;rw [List.set_set] at this;exact this⟩
    · have x0 : ((x : Int) == 0) = false := by rw [beq_eq_false_iff_ne]; omega
      have x1 : decide ((0 : Int) < (x : Int)) = true := decide_eq_true (by omega);have x2 : decide (0 < x) = true := decide_eq_true (by omega);rw [if_neg hx0];by_cases hyq : y = q
      · rw [if_pos (by omega)];have yq : ((y : Int) == (q : Int)) = true := by rw [beq_iff_eq]; omega
        clear hi0 hx0 hyq;go_wp2_with fail;try rw [hY]
        refine wp_region_held_drew (S := fun w' => (w'.cell? ⟨w.heap.size, 0, none⟩ = some (.int .u64 (a.id : Int)) ∧ w'.cell? ⟨w.heap.size, 1, none⟩ = some (.int .u64 (a.off : Int)) ∧ w'.cell? ⟨w.heap.size, 2, none⟩ = some (.int .u32 (a.len : Int)) ∧ w'.cell? ⟨w.heap.size, 3, none⟩ = some (.int .u32 (a.run : Int)) ∧ w'.cell? ⟨B, i * 4 + 1, none⟩ = some (.int .u64 (y : Int)))) (by kernel_rfl) ⟨d0, d1, d2, d3, k1⟩ (fun hHeld => ?_);refine tk 0 rfl ?_;(try simp only [Act.put, tz1, tz2, tz3]);refine tk 1 rfl ?_;(try simp only [Act.put, tz1, tz2, tz3]);refine tk 2 rfl ?_;(try simp only [Act.put, tz1, tz2, tz3]);refine tk 3 rfl ?_;(try simp only [Act.put, tz1, tz2, tz3]);refine tk 4 rfl ?_;(try simp only [Act.put, tz1, tz2, tz3]);refine tk 5 rfl ?_;(try simp only [Act.put, tz1, tz2, tz3]);refine tk 6 rfl ?_;(try simp only [Act.put, tz1, tz2, tz3]);refine tk 7 rfl ?_;(try simp only [Act.put, tz1, tz2, tz3]);refine tk 8 rfl ?_;(try simp only [Act.put, tz1, tz2, tz3]);refine tk 9 rfl ?_;(try simp only [Act.put, tz1, tz2, tz3]);refine tk 10 rfl ?_;(try simp only [Act.put, tz1, tz2, tz3]);refine tk 11 rfl ?_;(try simp only [Act.put, tz1, tz2, tz3]);refine tk 12 rfl ?_;(try simp only [Act.put, tz1, tz2, tz3]);refine tk 13 rfl ?_;(try simp only [Act.put, tz1, tz2, tz3]);refine tk 14 rfl ?_;(try simp only [Act.put, tz1, tz2, tz3]);refine tk 15 rfl ?_;(try simp only [Act.put, tz1, tz2, tz3]);refine tk 16 rfl ?_;(try simp only [Act.put, tz1, tz2, tz3]);refine tk 17 rfl ?_;(try simp only [Act.put, tz1, tz2, tz3]);refine tk 18 rfl ?_;(try simp only [Act.put, tz1, tz2, tz3]);refine rd1 19 rfl (fun K hK => ?_);clear hHeld;go_simp;go_at_call 127;refine (NX _).out.mono ?_;rintro e w5 ⟨rfl, hu5⟩;refine hK.out _ _ ⟨hu5.cell d0, hu5.cell d1, hu5.cell d2, hu5.cell d3, hu5.cell k1⟩ (fun hHeld => ?_);clear hK K;(try simp only [Act.put, tz1, tz2, tz3]);refine tk 20 rfl ?_;(try simp only [Act.put, tz1, tz2, tz3]);refine tk 21 rfl ?_;(try simp only [Act.put, tz1, tz2, tz3]);refine tk 22 rfl ?_;(try simp only [Act.put, tz1, tz2, tz3]);refine wpAnyH_done (by kernel_rfl) ?_ _;clear hHeld;go_wp2_with fail;go_ret;exact ⟨rfl, (HK.out.drew').trans (RK.up hu5), fun h => by simp at h⟩
      · rw [if_neg (by omega)];have yq : ((y : Int) == (q : Int)) = false := by rw [beq_eq_false_iff_ne]; omega
        clear hi0 hx0 hyq;go_wp2_with fail;try rw [hY]
        refine wp_region_held_drew (S := fun w' => (w'.cell? ⟨w.heap.size, 0, none⟩ = some (.int .u64 (a.id : Int)) ∧ w'.cell? ⟨w.heap.size, 1, none⟩ = some (.int .u64 (a.off : Int)) ∧ w'.cell? ⟨w.heap.size, 2, none⟩ = some (.int .u32 (a.len : Int)) ∧ w'.cell? ⟨w.heap.size, 3, none⟩ = some (.int .u32 (a.run : Int)) ∧ w'.cell? ⟨B, i * 4 + 1, none⟩ = some (.int .u64 (y : Int)))) (by kernel_rfl) ⟨d0, d1, d2, d3, k1⟩ (fun hHeld => ?_);refine tk 0 rfl ?_;(try simp only [Act.put, tz1, tz2, tz3]);refine tk 1 rfl ?_;(try simp only [Act.put, tz1, tz2, tz3]);refine tk 2 rfl ?_;(try simp only [Act.put, tz1, tz2, tz3]);refine tk 3 rfl ?_;(try simp only [Act.put, tz1, tz2, tz3]);refine tk 4 rfl ?_;(try simp only [Act.put, tz1, tz2, tz3]);refine tk 5 rfl ?_;(try simp only [Act.put, tz1, tz2, tz3]);refine tk 6 rfl ?_;(try simp only [Act.put, tz1, tz2, tz3]);refine tk 7 rfl ?_;(try simp only [Act.put, tz1, tz2, tz3]);refine tk 8 rfl ?_;(try simp only [Act.put, tz1, tz2, tz3]);refine tk 9 rfl ?_;(try simp only [Act.put, tz1, tz2, tz3]);refine tk 10 rfl ?_;(try simp only [Act.put, tz1, tz2, tz3]);refine tk 11 rfl ?_;(try simp only [Act.put, tz1, tz2, tz3]);refine tk 12 rfl ?_;(try simp only [Act.put, tz1, tz2, tz3]);refine tk 13 rfl ?_;(try simp only [Act.put, tz1, tz2, tz3]);refine tk 14 rfl ?_;(try simp only [Act.put, tz1, tz2, tz3]);refine tk 15 rfl ?_;(try simp only [Act.put, tz1, tz2, tz3]);refine tk 16 rfl ?_;(try simp only [Act.put, tz1, tz2, tz3]);refine tk 17 rfl ?_;(try simp only [Act.put, tz1, tz2, tz3]);refine tk 18 rfl ?_;(try simp only [Act.put, tz1, tz2, tz3]);refine rd1 19 rfl (fun K hK => ?_);clear hHeld;go_simp;go_at_call 127;refine (NX _).out.mono ?_;rintro e w5 ⟨rfl, hu5⟩;refine hK.out _ _ ⟨hu5.cell d0, hu5.cell d1, hu5.cell d2, hu5.cell d3, hu5.cell k1⟩ (fun hHeld => ?_);clear hK K;(try simp only [Act.put, tz1, tz2, tz3]);refine tk 20 rfl ?_;(try simp only [Act.put, tz1, tz2, tz3]);refine tk 21 rfl ?_;(try simp only [Act.put, tz1, tz2, tz3]);refine tk 22 rfl ?_;(try simp only [Act.put, tz1, tz2, tz3]);refine wpAnyH_done (by kernel_rfl) ?_ _;clear hHeld;go_wp2_with fail;go_ret;exact ⟨rfl, (HK.out.drew').trans (RK.up hu5), fun _ => hu5.obj SS.out⟩
end Go.Proofs.YtbfieomjobbhoaaGreatDoor
/- Walk: dirs.Decode. -/
namespace Go.Proofs.YtbfieomjobbhoaaGreatDoor
open Go.RowKit Go.Gz Go.Shelf

set_option maxRecDepth 100000
theorem infoEn' : (Tryz.prog.info? 84).map (fun i => (i.zero, i.size, i.bytes)) = some (some (.agg #[.int .u64 0, .int .u64 0, .int .u32 0, .int .u32 0]), 4, 24) := by kernel_rfl
theorem made_ent (n : Nat) : madeCells (Value.agg #[.int .u64 0, .int .u64 0, .int .u32 0, .int .u32 0]).cells (n * 4) = (entV (List.replicate n zE)).toArray := by
  apply Array.ext';apply List.ext_getElem?;intro j;have hl : (entV (List.replicate n zE)).length = n * 4 := by rw [entV_len, List.length_replicate]
  have hz : (Value.agg #[.int .u64 0, .int .u64 0, .int .u32 0, .int .u32 0]).cells = #[.int .u64 0, .int .u64 0, .int .u32 0, .int .u32 0] := rfl;rw [hz];rcases Nat.lt_or_ge j (n * 4) with h | h
  · obtain ⟨k, f, hf, rfl⟩ : ∃ k f, f < 4 ∧ j = k * 4 + f := ⟨j / 4, j % 4, Nat.mod_lt _ (by omega), by omega⟩;have hk : k < (List.replicate n zE).length := by rw [List.length_replicate]; omega
    obtain ⟨g0, g1, g2, g3⟩ := entV_get (List.replicate n zE) k hk;simp only [List.getElem_replicate] at g0 g1 g2 g3;have hm : (k * 4 + f) % 4 = f := by omega
    have e : (madeCells #[.int .u64 0, .int .u64 0, .int .u32 0, .int .u32 0] (n * 4)).toList[k * 4 + f]? = some (#[Value.int .u64 0, .int .u64 0, .int .u32 0, .int .u32 0][f]!) := by
      unfold madeCells;simp only [Array.toList_map, List.getElem?_map, Array.toList_range];rw [List.getElem?_range h];show some (#[Value.int .u64 0, .int .u64 0, .int .u32 0, .int .u32 0][(k * 4 + f) % 4]!) = _
      rw [hm]
    rw [e];rcases (by omega : f = 0 ∨ f = 1 ∨ f = 2 ∨ f = 3) with rfl | rfl | rfl | rfl
    · exact g0.symm
    · exact g1.symm
    · exact g2.symm
    · exact g3.symm
  · rw [List.getElem?_eq_none (by rw [Array.length_toList, size_madeCells]; exact h), List.getElem?_eq_none (by simp only []; rw [hl]; exact h)]
theorem make_ent (n : Nat) (hn : n ≤ 4096) (w : World) : (Instr.makeSlice 24 (.int .u64 (n : Int)) (.int .u64 (n : Int))).run Tryz.prog w = .ok (.slice (some ⟨w.heap.size, 0, none⟩) n n) (w.alloc (.cells (entV (List.replicate n zE)).toArray 84)) := by
  obtain ⟨i, h1, h2, h3, h4⟩ := info_parts infoEn';have := run_makeSlice (P := Tryz.prog) (w := w) 24 84 i _ Tryz.underlying24 h1 h2 .u64 .u64 (n : Int) (n : Int) (by omega) (by omega) (by rw [h3]; omega) (by rw [h4]; omega) (by omega);rw [this, h3, Int.toNat_natCast, made_ent]
/-- where the walk stands: the scan's block T, the block H of the entry ahead, the row's B -/
structure DD (w X : World) (T H B : Nat) (s : Bs) (a : Nat) (e : Ent) (L : Ents) : Prop where
  up : Up w X
  hT : w.heap.size ≤ T
  hH : w.heap.size ≤ H
  hB : w.heap.size ≤ B
  th : T ≠ H
  tB : T ≠ B
  hb : H ≠ B
  tb : ScB X T s a 0
  ah : X.heap[H]? = some (.cells #[.int .u64 (e.id : Int), .int .u64 (e.off : Int), .int .u32 (e.len : Int), .int .u32 (e.run : Int)] 84 (0, 0))
  all : EB X B L
theorem DD.more {w X Y : World} {T H B : Nat} {s : Bs} {a : Nat} {e : Ent} {L : Ents} (h : DD w X T H B s a e L) (hu : Up X Y) : DD w Y T H B s a e L :=
  ⟨h.up.trans hu, h.hT, h.hH, h.hB, h.th, h.tB, h.hb, hu.obj h.tb, hu.obj h.ah, hu.obj h.all⟩
theorem DD.row {w X Y : World} {T H B : Nat} {s : Bs} {a : Nat} {e : Ent} {L L2 : Ents} (h : DD w X T H B s a e L) (hk : RK B X Y) (hb : EB Y B L2) : DD w Y T H B s a e L2 :=
  have hTl := (Array.getElem?_eq_some_iff.1 h.tb).1;have hHl := (Array.getElem?_eq_some_iff.1 h.ah).1
  ⟨Up.of (h.up.below.grown hk h.up.le (fun j e => by cases e; exact h.hB)), h.hT, h.hH, h.hB, h.th, h.tB, h.hb, (hk.block _ hTl (by intro e; injection e with e; exact h.tB e)).trans h.tb, (hk.block _ hHl (by intro e; injection e with e; exact h.hb e)).trans h.ah, hb⟩
theorem sc4 {w : World} {b : Nat} {x0 x1 x2 x3 : Value} {t : TypeId} (h : w.heap[b]? = some (.cells #[x0, x1, x2, x3] t (0, 0))) (v0 v1 v2 v3 : Value) : (w.setCells b 0 [v0, v1, v2, v3]).heap[b]? = some (.cells #[v0, v1, v2, v3] t (0, 0)) := by
  have f0 := heap_setCell_same w b 0 _ _ v0 h;have f1 := heap_setCell_same _ b 1 _ _ v1 f0;have f2 := heap_setCell_same _ b 2 _ _ v2 f1;exact heap_setCell_same _ b 3 _ _ v3 f2
theorem sc3 {w : World} {b : Nat} {x0 x1 x2 : Value} {t : TypeId} (h : w.heap[b]? = some (.cells #[x0, x1, x2] t (0, 0))) (v0 v1 v2 : Value) : (w.setCells b 0 [v0, v1, v2]).heap[b]? = some (.cells #[v0, v1, v2] t (0, 0)) := by
  have f0 := heap_setCell_same w b 0 _ _ v0 h;have f1 := heap_setCell_same _ b 1 _ _ v1 f0;exact heap_setCell_same _ b 2 _ _ v2 f1
theorem sc_other {b : Nat} : ∀ (vs : List Value) (w : World) (o k : Nat), k ≠ b → (w.setCells b o vs).heap[k]? = w.heap[k]?
  | [], _, _, _, _ => rfl
  | v :: r, w, o, k, h => (sc_other r _ (o + 1) k h).trans (heap_setCell_other w ⟨b, o, none⟩ k v h)
theorem DD.step {w X : World} {T H B : Nat} {s : Bs} {a : Nat} {e : Ent} {L : Ents} (h : DD w X T H B s a e L) (e' : Ent) (a' : Nat) :
    DD w ((X.setCells H 0 [.int .u64 (e'.id : Int), .int .u64 (e'.off : Int), .int .u32 (e'.len : Int), .int .u32 (e'.run : Int)]).setCells T 0 [.string ⟨s.toArray⟩, .int .i64 (a' : Int), .int .i64 0]) T H B s a' e' L :=
  ⟨up_setCells _ (up_setCells _ h.up h.hH) h.hT, h.hT, h.hH, h.hB, h.th, h.tB, h.hb, sc3 ((sc_other _ X 0 T h.th).trans h.tb) _ _ _, (sc_other _ _ 0 H (fun e => h.th e.symm)).trans (sc4 h.ah _ _ _ _), ((sc_other _ _ 0 B (fun e => h.tB e.symm)).trans (sc_other _ X 0 B (fun e => h.hb e.symm))).trans h.all⟩
theorem setE_ok {c i : Nat} {a e : Ent} {x : Nat} (he : okE e) : okE (setE c i a e x).2 := by
  unfold okE at he ⊢;unfold setE;unfold nextE at *;split
  · exact ⟨Nat.mod_lt _ (by decide), he.2⟩
  · split
    · split
      · exact he
      · exact ⟨he.1, he.2.1, he.2.2.1, by simp only; omega⟩
    · split
      · split
        · exact he
        · exact ⟨he.1, he.2.1, by simp only; omega, he.2.2.2⟩
      · split
        · exact he
        · refine ⟨he.1, ?_, he.2.2⟩;simp only;split <;> exact Nat.mod_lt _ (by decide)
theorem dset_any (c : Nat) (hc : c < 4) (i : Nat) (a : Ent) (B : Nat) (L : Ents) (hi : i < L.length) (x : Nat) (hx : x < 18446744073709551616) (w : World) (hb : EB w B L) :
    Calls Tryz.prog 62 #[.int .i64 (c : Int), .int .i64 (i : Int), .agg #[.int .u64 (a.id : Int), .int .u64 (a.off : Int), .int .u32 (a.len : Int), .int .u32 (a.run : Int)], .pointer (some ⟨B, i * 4, none⟩), .int .u64 (x : Int)] w (SetE w B L i (setE c i a L[i] x)) := by
  rcases (by omega : c = 0 ∨ c = 1 ∨ c = 2 ∨ c = 3) with rfl | rfl | rfl | rfl
  · exact dset0 i a B L hi x w hb
  · exact dset1 i a B L hi x w hb
  · exact dset2 i a B L hi x w hb
  · exact dset3 i a B L hi x hx w hb
end Go.Proofs.YtbfieomjobbhoaaGreatDoor
/- Walk: gazetteerref08.wrong. -/
namespace Go.Proofs.YtbfieomjobbhoaaGreatDoor
open Go.RowKit Go.Gz
set_option maxRecDepth 100000
/-- a row of the document's entries that fills its block -/
def EBr (w : World) (B : Nat) (L : Ents) : Prop := w.heap[B]? = some (.cells (entV L).toArray 87 (0, 0))
theorem EBr.cell {w : World} {B : Nat} {L : Ents} (h : EBr w B L) {i : Nat} (hi : i < L.length) : w.cell? ⟨B, i * 4, none⟩ = some (.int .u64 (L[i].id : Int)) ∧ w.cell? ⟨B, i * 4 + 1, none⟩ = some (.int .u64 (L[i].off : Int)) ∧ w.cell? ⟨B, i * 4 + 2, none⟩ = some (.int .u32 (L[i].len : Int)) ∧ w.cell? ⟨B, i * 4 + 3, none⟩ = some (.int .u32 (L[i].run : Int)) ∧ ∀ k, w.frozen? ⟨B, k, none⟩ = false := by
  obtain ⟨g0, g1, g2, g3⟩ := entV_get L i hi;exact ⟨blkc h _ _ (by simpa using g0), blkc h _ _ (by simpa using g1), blkc h _ _ (by simpa using g2), blkc h _ _ (by simpa using g3), fun k => blkf h k⟩
theorem EBr.set {w : World} {B : Nat} {L : Ents} (h : EBr w B L) {i : Nat} (hi : i < L.length) (e' : Ent) (f : Nat) (hf : f < 4) (v : Value) (hv : entC e' = (entC L[i]).set f v) : EBr (w.setCell ⟨B, i * 4 + f, none⟩ v) B (L.set i e') := by
  have := heap_setCell_same w B (i * 4 + f) _ _ v h;unfold EBr;rw [this, ← entV_set L i hi e' f hf v hv];simp
theorem prev_0 (L : Ents) : prevD L 0 = zE := rfl
theorem prev_s (L : Ents) {j : Nat} (hj : j < L.length) : prevD L (j + 1) = L[j] := by
  unfold prevD;rw [if_neg (by omega), Nat.add_sub_cancel, List.getElem?_eq_getElem hj];rfl
def WgE (w : World) (v : Int) (e : Ending) (w' : World) : Prop := e = .returned (.int .i64 v) ∧ Up w w'
set_option maxHeartbeats 4000000 in
theorem r8wrong00 (B n k : Nat) (x : Nat) (_hx : x < 18446744073709551616) (w : World) (hk : k = 0) :
    Calls Tryz.prog 67 #[.slice (some ⟨B, 0, none⟩) n n, .int .i64 0, .int .i64 (k : Int), .int .u64 (x : Int)] w (WgE w 0) := by
  subst hk;clear _hx;go_enter Tryz.func67, Tryz.ntmps67;go_wp2_with fail;refine wp_region_held_drew (S := fun w' => Up w w') (by kernel_rfl) ?_ (fun hHeld => ?_)
  · exact (Up.refl w).drew
  refine tk 0 rfl ?_;(try simp only [Act.put, tz1, tz2, tz3]);refine tk 1 rfl ?_;(try simp only [Act.put, tz1, tz2, tz3]);refine tk 2 rfl ?_;(try simp only [Act.put, tz1, tz2, tz3]);refine tk 3 rfl ?_;(try simp only [Act.put, tz1, tz2, tz3]);refine tk 4 rfl ?_;(try simp only [Act.put, tz1, tz2, tz3]);refine tk 5 rfl ?_;(try simp only [Act.put, tz1, tz2, tz3]);refine tk 6 rfl ?_;(try simp only [Act.put, tz1, tz2, tz3]);refine tk 7 rfl ?_;(try simp only [Act.put, tz1, tz2, tz3]);refine tk 8 rfl ?_;(try simp only [Act.put, tz1, tz2, tz3]);refine tk 9 rfl ?_;(try simp only [Act.put, tz1, tz2, tz3]);refine tk 10 rfl ?_;(try simp only [Act.put, tz1, tz2, tz3]);refine tk 11 rfl ?_;(try simp only [Act.put, tz1, tz2, tz3]);refine tk 12 rfl ?_;(try simp only [Act.put, tz1, tz2, tz3]);refine tk 13 rfl ?_;(try simp only [Act.put, tz1, tz2, tz3]);refine tk 14 rfl ?_;(try simp only [Act.put, tz1, tz2, tz3]);refine tk 15 rfl ?_;(try simp only [Act.put, tz1, tz2, tz3]);refine tk 16 rfl ?_;(try simp only [Act.put, tz1, tz2, tz3]);refine tk 17 rfl ?_;(try simp only [Act.put, tz1, tz2, tz3]);refine tk 18 rfl ?_;(try simp only [Act.put, tz1, tz2, tz3]);refine tk 19 rfl ?_;(try simp only [Act.put, tz1, tz2, tz3]);refine tk 20 rfl ?_;(try simp only [Act.put, tz1, tz2, tz3]);refine tk 21 rfl ?_;(try simp only [Act.put, tz1, tz2, tz3]);refine tk 22 rfl ?_;(try simp only [Act.put, tz1, tz2, tz3]);refine tk 23 rfl ?_;(try simp only [Act.put, tz1, tz2, tz3]);refine tk 24 rfl ?_;(try simp only [Act.put, tz1, tz2, tz3]);refine tk 25 rfl ?_;(try simp only [Act.put, tz1, tz2, tz3]);refine tk 26 rfl ?_;(try simp only [Act.put, tz1, tz2, tz3]);refine tk 27 rfl ?_;(try simp only [Act.put, tz1, tz2, tz3]);refine tk 28 rfl ?_;(try simp only [Act.put, tz1, tz2, tz3]);refine wpAnyH_done (by kernel_rfl) ?_ _;go_wp2_with fail;go_ret;exact ⟨rfl, (Up.refl w).drew⟩
set_option maxHeartbeats 4000000 in
theorem r8wrong0a (B n k : Nat) (p0 q : Nat) (x : Nat) (_hx : x < 18446744073709551616) (w : World) (j : Nat) (hj : k = j + 1) (hn : k < n) (hnn : n ≤ 4096) (c0 : w.cell? ⟨B, j * 4, none⟩ = some (.int .u64 (p0 : Int))) (hq : (p0 + x) % 18446744073709551616 = q) (h : q < x) :
    Calls Tryz.prog 67 #[.slice (some ⟨B, 0, none⟩) n n, .int .i64 0, .int .i64 (k : Int), .int .u64 (x : Int)] w (WgE w 11) := by
  have hk0 : (0 : Int) < (k : Int) := by omega
  have dk : decide ((0 : Int) < (k : Int)) = true := by rw [decide_eq_true_eq]; omega
  have dk2 : decide (0 < k) = true := by rw [decide_eq_true_eq]; omega
  have e3 : IntKind.i64.wrap ((k : Int) - 1) = (j : Int) := by rw [IntWalk.i64_in _ (by omega)]; omega
  have hjI : (j : Int) < (n : Int) := by omega
  have hj0 : (0 : Int) ≤ (j : Int) := by omega
  have eq : IntKind.u64.wrap ((p0 : Int) + (x : Int)) = (q : Int) := by rw [IntKind.wrap_u64]; omega
  have hI : (q : Int) < (x : Int) := by omega
  clear hj hq h dk hn hnn _hx;go_enter Tryz.func67, Tryz.ntmps67;go_wp2_with fail;go_ret;exact ⟨rfl, Up.refl w⟩
set_option maxHeartbeats 4000000 in
theorem r8wrong0b (B n k : Nat) (p0 q : Nat) (x : Nat) (_hx : x < 18446744073709551616) (w : World) (j : Nat) (hj : k = j + 1) (hn : k < n) (hnn : n ≤ 4096) (c0 : w.cell? ⟨B, j * 4, none⟩ = some (.int .u64 (p0 : Int))) (hq : (p0 + x) % 18446744073709551616 = q) (h : ¬ q < x) :
    Calls Tryz.prog 67 #[.slice (some ⟨B, 0, none⟩) n n, .int .i64 0, .int .i64 (k : Int), .int .u64 (x : Int)] w (WgE w 0) := by
  have hk0 : (0 : Int) < (k : Int) := by omega
  have dk : decide ((0 : Int) < (k : Int)) = true := by rw [decide_eq_true_eq]; omega
  have dk2 : decide (0 < k) = true := by rw [decide_eq_true_eq]; omega
  have e3 : IntKind.i64.wrap ((k : Int) - 1) = (j : Int) := by rw [IntWalk.i64_in _ (by omega)]; omega
  have hjI : (j : Int) < (n : Int) := by omega
  have hj0 : (0 : Int) ≤ (j : Int) := by omega
  have eq : IntKind.u64.wrap ((p0 : Int) + (x : Int)) = (q : Int) := by rw [IntKind.wrap_u64]; omega
  have hI : ¬ (q : Int) < (x : Int) := by omega
  clear hj hq h dk hn hnn _hx;go_enter Tryz.func67, Tryz.ntmps67;go_wp2_with fail;refine wp_region_held_drew (S := fun w' => Up w w') (by kernel_rfl) ?_ (fun hHeld => ?_)
  · exact (Up.refl w).drew
  refine tk 0 rfl ?_;(try simp only [Act.put, tz1, tz2, tz3]);refine tk 1 rfl ?_;(try simp only [Act.put, tz1, tz2, tz3]);refine tk 2 rfl ?_;(try simp only [Act.put, tz1, tz2, tz3]);refine tk 3 rfl ?_;(try simp only [Act.put, tz1, tz2, tz3]);refine tk 4 rfl ?_;(try simp only [Act.put, tz1, tz2, tz3]);refine tk 5 rfl ?_;(try simp only [Act.put, tz1, tz2, tz3]);refine tk 6 rfl ?_;(try simp only [Act.put, tz1, tz2, tz3]);refine tk 7 rfl ?_;(try simp only [Act.put, tz1, tz2, tz3]);refine tk 8 rfl ?_;(try simp only [Act.put, tz1, tz2, tz3]);refine tk 9 rfl ?_;(try simp only [Act.put, tz1, tz2, tz3]);refine tk 10 rfl ?_;(try simp only [Act.put, tz1, tz2, tz3]);refine tk 11 rfl ?_;(try simp only [Act.put, tz1, tz2, tz3]);refine tk 12 rfl ?_;(try simp only [Act.put, tz1, tz2, tz3]);refine tk 13 rfl ?_;(try simp only [Act.put, tz1, tz2, tz3]);refine tk 14 rfl ?_;(try simp only [Act.put, tz1, tz2, tz3]);refine tk 15 rfl ?_;(try simp only [Act.put, tz1, tz2, tz3]);refine tk 16 rfl ?_;(try simp only [Act.put, tz1, tz2, tz3]);refine tk 17 rfl ?_;(try simp only [Act.put, tz1, tz2, tz3]);refine tk 18 rfl ?_;(try simp only [Act.put, tz1, tz2, tz3]);refine tk 19 rfl ?_;(try simp only [Act.put, tz1, tz2, tz3]);refine tk 20 rfl ?_;(try simp only [Act.put, tz1, tz2, tz3]);refine tk 21 rfl ?_;(try simp only [Act.put, tz1, tz2, tz3]);refine tk 22 rfl ?_;(try simp only [Act.put, tz1, tz2, tz3]);refine tk 23 rfl ?_;(try simp only [Act.put, tz1, tz2, tz3]);refine tk 24 rfl ?_;(try simp only [Act.put, tz1, tz2, tz3]);refine tk 25 rfl ?_;(try simp only [Act.put, tz1, tz2, tz3]);refine tk 26 rfl ?_;(try simp only [Act.put, tz1, tz2, tz3]);refine tk 27 rfl ?_;(try simp only [Act.put, tz1, tz2, tz3]);refine tk 28 rfl ?_;(try simp only [Act.put, tz1, tz2, tz3]);refine wpAnyH_done (by kernel_rfl) ?_ _;go_wp2_with fail;go_ret;exact ⟨rfl, (Up.refl w).drew⟩
set_option maxHeartbeats 4000000 in
theorem r8wrong1a (B n k : Nat) (x : Nat) (_hx : x < 18446744073709551616) (w : World) (h : 4294967295 < x) :
    Calls Tryz.prog 67 #[.slice (some ⟨B, 0, none⟩) n n, .int .i64 1, .int .i64 (k : Int), .int .u64 (x : Int)] w (WgE w 11) := by
  have hI : (4294967295 : Int) < (x : Int) := by omega
  clear h _hx;go_enter Tryz.func67, Tryz.ntmps67;go_wp2_with fail;go_ret;exact ⟨rfl, Up.refl w⟩
set_option maxHeartbeats 4000000 in
theorem r8wrong1b (B n k : Nat) (x : Nat) (_hx : x < 18446744073709551616) (w : World) (h : ¬ 4294967295 < x) :
    Calls Tryz.prog 67 #[.slice (some ⟨B, 0, none⟩) n n, .int .i64 1, .int .i64 (k : Int), .int .u64 (x : Int)] w (WgE w 0) := by
  have hI : ¬ (4294967295 : Int) < (x : Int) := by omega
  clear h _hx;go_enter Tryz.func67, Tryz.ntmps67;go_wp2_with fail;refine wp_region_held_drew (S := fun w' => Up w w') (by kernel_rfl) ?_ (fun hHeld => ?_)
  · exact (Up.refl w).drew
  refine tk 0 rfl ?_;(try simp only [Act.put, tz1, tz2, tz3]);refine tk 1 rfl ?_;(try simp only [Act.put, tz1, tz2, tz3]);refine tk 2 rfl ?_;(try simp only [Act.put, tz1, tz2, tz3]);refine tk 3 rfl ?_;(try simp only [Act.put, tz1, tz2, tz3]);refine tk 4 rfl ?_;(try simp only [Act.put, tz1, tz2, tz3]);refine tk 5 rfl ?_;(try simp only [Act.put, tz1, tz2, tz3]);refine tk 6 rfl ?_;(try simp only [Act.put, tz1, tz2, tz3]);refine tk 7 rfl ?_;(try simp only [Act.put, tz1, tz2, tz3]);refine tk 8 rfl ?_;(try simp only [Act.put, tz1, tz2, tz3]);refine tk 9 rfl ?_;(try simp only [Act.put, tz1, tz2, tz3]);refine tk 10 rfl ?_;(try simp only [Act.put, tz1, tz2, tz3]);refine tk 11 rfl ?_;(try simp only [Act.put, tz1, tz2, tz3]);refine tk 12 rfl ?_;(try simp only [Act.put, tz1, tz2, tz3]);refine tk 13 rfl ?_;(try simp only [Act.put, tz1, tz2, tz3]);refine tk 14 rfl ?_;(try simp only [Act.put, tz1, tz2, tz3]);refine tk 15 rfl ?_;(try simp only [Act.put, tz1, tz2, tz3]);refine tk 16 rfl ?_;(try simp only [Act.put, tz1, tz2, tz3]);refine tk 17 rfl ?_;(try simp only [Act.put, tz1, tz2, tz3]);refine tk 18 rfl ?_;(try simp only [Act.put, tz1, tz2, tz3]);refine tk 19 rfl ?_;(try simp only [Act.put, tz1, tz2, tz3]);refine tk 20 rfl ?_;(try simp only [Act.put, tz1, tz2, tz3]);refine tk 21 rfl ?_;(try simp only [Act.put, tz1, tz2, tz3]);refine tk 22 rfl ?_;(try simp only [Act.put, tz1, tz2, tz3]);refine tk 23 rfl ?_;(try simp only [Act.put, tz1, tz2, tz3]);refine tk 24 rfl ?_;(try simp only [Act.put, tz1, tz2, tz3]);refine tk 25 rfl ?_;(try simp only [Act.put, tz1, tz2, tz3]);refine tk 26 rfl ?_;(try simp only [Act.put, tz1, tz2, tz3]);refine tk 27 rfl ?_;(try simp only [Act.put, tz1, tz2, tz3]);refine tk 28 rfl ?_;(try simp only [Act.put, tz1, tz2, tz3]);refine wpAnyH_done (by kernel_rfl) ?_ _;go_wp2_with fail;go_ret;exact ⟨rfl, (Up.refl w).drew⟩
set_option maxHeartbeats 4000000 in
theorem r8wrong2a (B n k : Nat) (x : Nat) (_hx : x < 18446744073709551616) (w : World) (h : 4294967295 < x) :
    Calls Tryz.prog 67 #[.slice (some ⟨B, 0, none⟩) n n, .int .i64 2, .int .i64 (k : Int), .int .u64 (x : Int)] w (WgE w 11) := by
  have hI : (4294967295 : Int) < (x : Int) := by omega
  clear h _hx;go_enter Tryz.func67, Tryz.ntmps67;go_wp2_with fail;go_ret;exact ⟨rfl, Up.refl w⟩
set_option maxHeartbeats 4000000 in
theorem r8wrong2b (B n k : Nat) (x : Nat) (_hx : x < 18446744073709551616) (w : World) (h : ¬ 4294967295 < x) :
    Calls Tryz.prog 67 #[.slice (some ⟨B, 0, none⟩) n n, .int .i64 2, .int .i64 (k : Int), .int .u64 (x : Int)] w (WgE w 0) := by
  have hI : ¬ (4294967295 : Int) < (x : Int) := by omega
  clear h _hx;go_enter Tryz.func67, Tryz.ntmps67;go_wp2_with fail;refine wp_region_held_drew (S := fun w' => Up w w') (by kernel_rfl) ?_ (fun hHeld => ?_)
  · exact (Up.refl w).drew
  refine tk 0 rfl ?_;(try simp only [Act.put, tz1, tz2, tz3]);refine tk 1 rfl ?_;(try simp only [Act.put, tz1, tz2, tz3]);refine tk 2 rfl ?_;(try simp only [Act.put, tz1, tz2, tz3]);refine tk 3 rfl ?_;(try simp only [Act.put, tz1, tz2, tz3]);refine tk 4 rfl ?_;(try simp only [Act.put, tz1, tz2, tz3]);refine tk 5 rfl ?_;(try simp only [Act.put, tz1, tz2, tz3]);refine tk 6 rfl ?_;(try simp only [Act.put, tz1, tz2, tz3]);refine tk 7 rfl ?_;(try simp only [Act.put, tz1, tz2, tz3]);refine tk 8 rfl ?_;(try simp only [Act.put, tz1, tz2, tz3]);refine tk 9 rfl ?_;(try simp only [Act.put, tz1, tz2, tz3]);refine tk 10 rfl ?_;(try simp only [Act.put, tz1, tz2, tz3]);refine tk 11 rfl ?_;(try simp only [Act.put, tz1, tz2, tz3]);refine tk 12 rfl ?_;(try simp only [Act.put, tz1, tz2, tz3]);refine tk 13 rfl ?_;(try simp only [Act.put, tz1, tz2, tz3]);refine tk 14 rfl ?_;(try simp only [Act.put, tz1, tz2, tz3]);refine tk 15 rfl ?_;(try simp only [Act.put, tz1, tz2, tz3]);refine tk 16 rfl ?_;(try simp only [Act.put, tz1, tz2, tz3]);refine tk 17 rfl ?_;(try simp only [Act.put, tz1, tz2, tz3]);refine tk 18 rfl ?_;(try simp only [Act.put, tz1, tz2, tz3]);refine tk 19 rfl ?_;(try simp only [Act.put, tz1, tz2, tz3]);refine tk 20 rfl ?_;(try simp only [Act.put, tz1, tz2, tz3]);refine tk 21 rfl ?_;(try simp only [Act.put, tz1, tz2, tz3]);refine tk 22 rfl ?_;(try simp only [Act.put, tz1, tz2, tz3]);refine tk 23 rfl ?_;(try simp only [Act.put, tz1, tz2, tz3]);refine tk 24 rfl ?_;(try simp only [Act.put, tz1, tz2, tz3]);refine tk 25 rfl ?_;(try simp only [Act.put, tz1, tz2, tz3]);refine tk 26 rfl ?_;(try simp only [Act.put, tz1, tz2, tz3]);refine tk 27 rfl ?_;(try simp only [Act.put, tz1, tz2, tz3]);refine tk 28 rfl ?_;(try simp only [Act.put, tz1, tz2, tz3]);refine wpAnyH_done (by kernel_rfl) ?_ _;go_wp2_with fail;go_ret;exact ⟨rfl, (Up.refl w).drew⟩
set_option maxHeartbeats 4000000 in
theorem r8wrong3a (B n k : Nat) (x : Nat) (_hx : x < 18446744073709551616) (w : World) (hk : k = 0) (h : x = 0) :
    Calls Tryz.prog 67 #[.slice (some ⟨B, 0, none⟩) n n, .int .i64 3, .int .i64 (k : Int), .int .u64 (x : Int)] w (WgE w 4) := by
  subst hk;subst h;clear _hx;go_enter Tryz.func67, Tryz.ntmps67;go_wp2_with fail;go_ret;exact ⟨rfl, Up.refl w⟩
set_option maxHeartbeats 4000000 in
theorem r8wrong3b (B n k : Nat) (x : Nat) (_hx : x < 18446744073709551616) (w : World) (hk : k = 0) (h : x ≠ 0) :
    Calls Tryz.prog 67 #[.slice (some ⟨B, 0, none⟩) n n, .int .i64 3, .int .i64 (k : Int), .int .u64 (x : Int)] w (WgE w 0) := by
  subst hk;have hI : ((x : Int) == 0) = false := by rw [beq_eq_false_iff_ne]; omega
  clear h _hx;go_enter Tryz.func67, Tryz.ntmps67;go_wp2_with fail;refine wp_region_held_drew (S := fun w' => Up w w') (by kernel_rfl) ?_ (fun hHeld => ?_)
  · exact (Up.refl w).drew
  refine tk 0 rfl ?_;(try simp only [Act.put, tz1, tz2, tz3]);refine tk 1 rfl ?_;(try simp only [Act.put, tz1, tz2, tz3]);refine tk 2 rfl ?_;(try simp only [Act.put, tz1, tz2, tz3]);refine tk 3 rfl ?_;(try simp only [Act.put, tz1, tz2, tz3]);refine tk 4 rfl ?_;(try simp only [Act.put, tz1, tz2, tz3]);refine tk 5 rfl ?_;(try simp only [Act.put, tz1, tz2, tz3]);refine tk 6 rfl ?_;(try simp only [Act.put, tz1, tz2, tz3]);refine tk 7 rfl ?_;(try simp only [Act.put, tz1, tz2, tz3]);refine tk 8 rfl ?_;(try simp only [Act.put, tz1, tz2, tz3]);refine tk 9 rfl ?_;(try simp only [Act.put, tz1, tz2, tz3]);refine tk 10 rfl ?_;(try simp only [Act.put, tz1, tz2, tz3]);refine tk 11 rfl ?_;(try simp only [Act.put, tz1, tz2, tz3]);refine tk 12 rfl ?_;(try simp only [Act.put, tz1, tz2, tz3]);refine tk 13 rfl ?_;(try simp only [Act.put, tz1, tz2, tz3]);refine tk 14 rfl ?_;(try simp only [Act.put, tz1, tz2, tz3]);refine tk 15 rfl ?_;(try simp only [Act.put, tz1, tz2, tz3]);refine tk 16 rfl ?_;(try simp only [Act.put, tz1, tz2, tz3]);refine tk 17 rfl ?_;(try simp only [Act.put, tz1, tz2, tz3]);refine tk 18 rfl ?_;(try simp only [Act.put, tz1, tz2, tz3]);refine tk 19 rfl ?_;(try simp only [Act.put, tz1, tz2, tz3]);refine tk 20 rfl ?_;(try simp only [Act.put, tz1, tz2, tz3]);refine tk 21 rfl ?_;(try simp only [Act.put, tz1, tz2, tz3]);refine tk 22 rfl ?_;(try simp only [Act.put, tz1, tz2, tz3]);refine tk 23 rfl ?_;(try simp only [Act.put, tz1, tz2, tz3]);refine tk 24 rfl ?_;(try simp only [Act.put, tz1, tz2, tz3]);refine tk 25 rfl ?_;(try simp only [Act.put, tz1, tz2, tz3]);refine tk 26 rfl ?_;(try simp only [Act.put, tz1, tz2, tz3]);refine tk 27 rfl ?_;(try simp only [Act.put, tz1, tz2, tz3]);refine tk 28 rfl ?_;(try simp only [Act.put, tz1, tz2, tz3]);refine wpAnyH_done (by kernel_rfl) ?_ _;go_wp2_with fail;go_ret;exact ⟨rfl, (Up.refl w).drew⟩
set_option maxHeartbeats 4000000 in
theorem r8wrong3c (B n k : Nat) (x : Nat) (_hx : x < 18446744073709551616) (w : World) (j : Nat) (hj : k = j + 1) (hn : k < n) (hnn : n ≤ 4096) (h : x = 0) :
    Calls Tryz.prog 67 #[.slice (some ⟨B, 0, none⟩) n n, .int .i64 3, .int .i64 (k : Int), .int .u64 (x : Int)] w (WgE w 0) := by
  have hk0 : (0 : Int) < (k : Int) := by omega
  have dk : decide ((0 : Int) < (k : Int)) = true := by rw [decide_eq_true_eq]; omega
  have dk2 : decide (0 < k) = true := by rw [decide_eq_true_eq]; omega
  have e3 : IntKind.i64.wrap ((k : Int) - 1) = (j : Int) := by rw [IntWalk.i64_in _ (by omega)]; omega
  have hjI : (j : Int) < (n : Int) := by omega
  have hj0 : (0 : Int) ≤ (j : Int) := by omega
  have hkz : ((k : Int) == 0) = false := by rw [beq_eq_false_iff_ne]; omega
  subst h;clear hj hn hnn _hx;go_enter Tryz.func67, Tryz.ntmps67;go_wp2_with fail;refine wp_region_held_drew (S := fun w' => Up w w') (by kernel_rfl) ?_ (fun hHeld => ?_)
  · exact (Up.refl w).drew
  refine tk 0 rfl ?_;(try simp only [Act.put, tz1, tz2, tz3]);refine tk 1 rfl ?_;(try simp only [Act.put, tz1, tz2, tz3]);refine tk 2 rfl ?_;(try simp only [Act.put, tz1, tz2, tz3]);refine tk 3 rfl ?_;(try simp only [Act.put, tz1, tz2, tz3]);refine tk 4 rfl ?_;(try simp only [Act.put, tz1, tz2, tz3]);refine tk 5 rfl ?_;(try simp only [Act.put, tz1, tz2, tz3]);refine tk 6 rfl ?_;(try simp only [Act.put, tz1, tz2, tz3]);refine tk 7 rfl ?_;(try simp only [Act.put, tz1, tz2, tz3]);refine tk 8 rfl ?_;(try simp only [Act.put, tz1, tz2, tz3]);refine tk 9 rfl ?_;(try simp only [Act.put, tz1, tz2, tz3]);refine tk 10 rfl ?_;(try simp only [Act.put, tz1, tz2, tz3]);refine tk 11 rfl ?_;(try simp only [Act.put, tz1, tz2, tz3]);refine tk 12 rfl ?_;(try simp only [Act.put, tz1, tz2, tz3]);refine tk 13 rfl ?_;(try simp only [Act.put, tz1, tz2, tz3]);refine tk 14 rfl ?_;(try simp only [Act.put, tz1, tz2, tz3]);refine tk 15 rfl ?_;(try simp only [Act.put, tz1, tz2, tz3]);refine tk 16 rfl ?_;(try simp only [Act.put, tz1, tz2, tz3]);refine tk 17 rfl ?_;(try simp only [Act.put, tz1, tz2, tz3]);refine tk 18 rfl ?_;(try simp only [Act.put, tz1, tz2, tz3]);refine tk 19 rfl ?_;(try simp only [Act.put, tz1, tz2, tz3]);refine tk 20 rfl ?_;(try simp only [Act.put, tz1, tz2, tz3]);refine tk 21 rfl ?_;(try simp only [Act.put, tz1, tz2, tz3]);refine tk 22 rfl ?_;(try simp only [Act.put, tz1, tz2, tz3]);refine tk 23 rfl ?_;(try simp only [Act.put, tz1, tz2, tz3]);refine tk 24 rfl ?_;(try simp only [Act.put, tz1, tz2, tz3]);refine tk 25 rfl ?_;(try simp only [Act.put, tz1, tz2, tz3]);refine tk 26 rfl ?_;(try simp only [Act.put, tz1, tz2, tz3]);refine tk 27 rfl ?_;(try simp only [Act.put, tz1, tz2, tz3]);refine tk 28 rfl ?_;(try simp only [Act.put, tz1, tz2, tz3]);refine wpAnyH_done (by kernel_rfl) ?_ _;go_wp2_with fail;go_ret;exact ⟨rfl, (Up.refl w).drew⟩
set_option maxHeartbeats 4000000 in
theorem r8wrong3d (B n k : Nat) (p1 p2 q : Nat) (x : Nat) (_hx : x < 18446744073709551616) (w : World) (j : Nat) (hj : k = j + 1) (hn : k < n) (hnn : n ≤ 4096) (c1 : w.cell? ⟨B, j * 4 + 1, none⟩ = some (.int .u64 (p1 : Int))) (c2 : w.cell? ⟨B, j * 4 + 2, none⟩ = some (.int .u32 (p2 : Int))) (hp2 : p2 < 4294967296) (hq : (p1 + p2) % 18446744073709551616 = q) (h : 0 < x) (hq2 : x - 1 = q) :
    Calls Tryz.prog 67 #[.slice (some ⟨B, 0, none⟩) n n, .int .i64 3, .int .i64 (k : Int), .int .u64 (x : Int)] w (WgE w 4) := by
  have hk0 : (0 : Int) < (k : Int) := by omega
  have dk : decide ((0 : Int) < (k : Int)) = true := by rw [decide_eq_true_eq]; omega
  have dk2 : decide (0 < k) = true := by rw [decide_eq_true_eq]; omega
  have e3 : IntKind.i64.wrap ((k : Int) - 1) = (j : Int) := by rw [IntWalk.i64_in _ (by omega)]; omega
  have hjI : (j : Int) < (n : Int) := by omega
  have hj0 : (0 : Int) ≤ (j : Int) := by omega
  have hkz : ((k : Int) == 0) = false := by rw [beq_eq_false_iff_ne]; omega
  have dx : decide (0 < x) = true := by rw [decide_eq_true_eq]; omega
  have dx2 : decide ((0 : Int) < (x : Int)) = true := by rw [decide_eq_true_eq]; omega
  have ex : IntKind.u64.wrap ((x : Int) - 1) = (x : Int) - 1 := IntWalk.u64_in _ (by omega);have e5 : IntKind.u64.wrap (p2 : Int) = (p2 : Int) := IntWalk.u64_in _ (by omega);have e6 : IntKind.u64.wrap ((p1 : Int) + (p2 : Int)) = (q : Int) := by rw [IntKind.wrap_u64]; omega
  have he : (((x : Int) - 1) == (q : Int)) = true := by rw [beq_iff_eq]; omega
  clear hj hn hnn _hx hp2 hq h hq2;go_enter Tryz.func67, Tryz.ntmps67;go_wp2_with fail;refine wp_region_held_drew (S := fun w' => w'.cell? ⟨B, j * 4 + 1, none⟩ = some (.int .u64 (p1 : Int)) ∧ w'.cell? ⟨B, j * 4 + 2, none⟩ = some (.int .u32 (p2 : Int))) (by kernel_rfl) ?_ (fun hHeld => ?_)
  · exact ⟨c1, c2⟩
  refine tk 0 rfl ?_;(try simp only [Act.put, tz1, tz2, tz3]);refine tk 1 rfl ?_;(try simp only [Act.put, tz1, tz2, tz3]);refine tk 2 rfl ?_;(try simp only [Act.put, tz1, tz2, tz3]);refine tk 3 rfl ?_;(try simp only [Act.put, tz1, tz2, tz3]);refine tk 4 rfl ?_;(try simp only [Act.put, tz1, tz2, tz3]);refine tk 5 rfl ?_;(try simp only [Act.put, tz1, tz2, tz3]);refine tk 6 rfl ?_;(try simp only [Act.put, tz1, tz2, tz3]);refine tk 7 rfl ?_;(try simp only [Act.put, tz1, tz2, tz3]);refine tk 8 rfl ?_;(try simp only [Act.put, tz1, tz2, tz3]);refine tk 9 rfl ?_;(try simp only [Act.put, tz1, tz2, tz3]);refine tk 10 rfl ?_;(try simp only [Act.put, tz1, tz2, tz3]);refine tk 11 rfl ?_;(try simp only [Act.put, tz1, tz2, tz3]);refine tk 12 rfl ?_;(try simp only [Act.put, tz1, tz2, tz3]);refine tk 13 rfl ?_;(try simp only [Act.put, tz1, tz2, tz3]);refine tk 14 rfl ?_;(try simp only [Act.put, tz1, tz2, tz3]);refine tk 15 rfl ?_;(try simp only [Act.put, tz1, tz2, tz3]);refine tk 16 rfl ?_;(try simp only [Act.put, tz1, tz2, tz3]);refine tk 17 rfl ?_;(try simp only [Act.put, tz1, tz2, tz3]);refine tk 18 rfl ?_;(try simp only [Act.put, tz1, tz2, tz3]);refine tk 19 rfl ?_;(try simp only [Act.put, tz1, tz2, tz3]);refine tk 20 rfl ?_;(try simp only [Act.put, tz1, tz2, tz3]);refine tk 21 rfl ?_;(try simp only [Act.put, tz1, tz2, tz3]);refine tk 22 rfl ?_;(try simp only [Act.put, tz1, tz2, tz3]);refine tk 23 rfl ?_;(try simp only [Act.put, tz1, tz2, tz3]);refine tk 24 rfl ?_;(try simp only [Act.put, tz1, tz2, tz3]);refine tk 25 rfl ?_;(try simp only [Act.put, tz1, tz2, tz3]);refine tk 26 rfl ?_;(try simp only [Act.put, tz1, tz2, tz3]);refine tk 27 rfl ?_;(try simp only [Act.put, tz1, tz2, tz3]);refine tk 28 rfl ?_;(try simp only [Act.put, tz1, tz2, tz3]);refine wpAnyH_done (by kernel_rfl) ?_ _;go_wp2_with fail;go_ret;exact ⟨rfl, (Up.refl w).drew⟩
set_option maxHeartbeats 4000000 in
theorem r8wrong3e (B n k : Nat) (p1 p2 q : Nat) (x : Nat) (_hx : x < 18446744073709551616) (w : World) (j : Nat) (hj : k = j + 1) (hn : k < n) (hnn : n ≤ 4096) (c1 : w.cell? ⟨B, j * 4 + 1, none⟩ = some (.int .u64 (p1 : Int))) (c2 : w.cell? ⟨B, j * 4 + 2, none⟩ = some (.int .u32 (p2 : Int))) (hp2 : p2 < 4294967296) (hq : (p1 + p2) % 18446744073709551616 = q) (h : 0 < x) (hq2 : ¬ x - 1 = q) :
    Calls Tryz.prog 67 #[.slice (some ⟨B, 0, none⟩) n n, .int .i64 3, .int .i64 (k : Int), .int .u64 (x : Int)] w (WgE w 0) := by
  have hk0 : (0 : Int) < (k : Int) := by omega
  have dk : decide ((0 : Int) < (k : Int)) = true := by rw [decide_eq_true_eq]; omega
  have dk2 : decide (0 < k) = true := by rw [decide_eq_true_eq]; omega
  have e3 : IntKind.i64.wrap ((k : Int) - 1) = (j : Int) := by rw [IntWalk.i64_in _ (by omega)]; omega
  have hjI : (j : Int) < (n : Int) := by omega
  have hj0 : (0 : Int) ≤ (j : Int) := by omega
  have hkz : ((k : Int) == 0) = false := by rw [beq_eq_false_iff_ne]; omega
  have dx : decide (0 < x) = true := by rw [decide_eq_true_eq]; omega
  have dx2 : decide ((0 : Int) < (x : Int)) = true := by rw [decide_eq_true_eq]; omega
  have ex : IntKind.u64.wrap ((x : Int) - 1) = (x : Int) - 1 := IntWalk.u64_in _ (by omega);have e5 : IntKind.u64.wrap (p2 : Int) = (p2 : Int) := IntWalk.u64_in _ (by omega);have e6 : IntKind.u64.wrap ((p1 : Int) + (p2 : Int)) = (q : Int) := by rw [IntKind.wrap_u64]; omega
  have he : (((x : Int) - 1) == (q : Int)) = false := by rw [beq_eq_false_iff_ne]; omega
  clear hj hn hnn _hx hp2 hq h hq2;go_enter Tryz.func67, Tryz.ntmps67;go_wp2_with fail;refine wp_region_held_drew (S := fun w' => w'.cell? ⟨B, j * 4 + 1, none⟩ = some (.int .u64 (p1 : Int)) ∧ w'.cell? ⟨B, j * 4 + 2, none⟩ = some (.int .u32 (p2 : Int))) (by kernel_rfl) ?_ (fun hHeld => ?_)
  · exact ⟨c1, c2⟩
  refine tk 0 rfl ?_;(try simp only [Act.put, tz1, tz2, tz3]);refine tk 1 rfl ?_;(try simp only [Act.put, tz1, tz2, tz3]);refine tk 2 rfl ?_;(try simp only [Act.put, tz1, tz2, tz3]);refine tk 3 rfl ?_;(try simp only [Act.put, tz1, tz2, tz3]);refine tk 4 rfl ?_;(try simp only [Act.put, tz1, tz2, tz3]);refine tk 5 rfl ?_;(try simp only [Act.put, tz1, tz2, tz3]);refine tk 6 rfl ?_;(try simp only [Act.put, tz1, tz2, tz3]);refine tk 7 rfl ?_;(try simp only [Act.put, tz1, tz2, tz3]);refine tk 8 rfl ?_;(try simp only [Act.put, tz1, tz2, tz3]);refine tk 9 rfl ?_;(try simp only [Act.put, tz1, tz2, tz3]);refine tk 10 rfl ?_;(try simp only [Act.put, tz1, tz2, tz3]);refine tk 11 rfl ?_;(try simp only [Act.put, tz1, tz2, tz3]);refine tk 12 rfl ?_;(try simp only [Act.put, tz1, tz2, tz3]);refine tk 13 rfl ?_;(try simp only [Act.put, tz1, tz2, tz3]);refine tk 14 rfl ?_;(try simp only [Act.put, tz1, tz2, tz3]);refine tk 15 rfl ?_;(try simp only [Act.put, tz1, tz2, tz3]);refine tk 16 rfl ?_;(try simp only [Act.put, tz1, tz2, tz3]);refine tk 17 rfl ?_;(try simp only [Act.put, tz1, tz2, tz3]);refine tk 18 rfl ?_;(try simp only [Act.put, tz1, tz2, tz3]);refine tk 19 rfl ?_;(try simp only [Act.put, tz1, tz2, tz3]);refine tk 20 rfl ?_;(try simp only [Act.put, tz1, tz2, tz3]);refine tk 21 rfl ?_;(try simp only [Act.put, tz1, tz2, tz3]);refine tk 22 rfl ?_;(try simp only [Act.put, tz1, tz2, tz3]);refine tk 23 rfl ?_;(try simp only [Act.put, tz1, tz2, tz3]);refine tk 24 rfl ?_;(try simp only [Act.put, tz1, tz2, tz3]);refine tk 25 rfl ?_;(try simp only [Act.put, tz1, tz2, tz3]);refine tk 26 rfl ?_;(try simp only [Act.put, tz1, tz2, tz3]);refine tk 27 rfl ?_;(try simp only [Act.put, tz1, tz2, tz3]);refine tk 28 rfl ?_;(try simp only [Act.put, tz1, tz2, tz3]);refine wpAnyH_done (by kernel_rfl) ?_ _;go_wp2_with fail;go_ret;exact ⟨rfl, (Up.refl w).drew⟩
theorem r8wrong_any (B : Nat) (L : Ents) (hL : L.length ≤ 4096) (hok : ∀ e ∈ L, okE e) (c k : Nat) (hc : c ≤ 3) (hk : k < L.length) (x : Nat) (hx : x < 18446744073709551616) (w : World) (hb : EBr w B L) :
    Calls Tryz.prog 67 #[.slice (some ⟨B, 0, none⟩) L.length L.length, .int .i64 (c : Int), .int .i64 (k : Int), .int .u64 (x : Int)] w (WgE w (setE c k (prevD L k) L[k] x).1) := by
  have hk' : k = 0 ∨ ∃ j, k = j + 1 := by cases k with | zero => exact .inl rfl | succ j => exact .inr ⟨j, rfl⟩
  have hc' : c = 0 ∨ c = 1 ∨ c = 2 ∨ c = 3 := by omega
  rcases hc' with rfl | rfl | rfl | rfl
  · rcases hk' with h0 | ⟨j, hj⟩
    · have e : (setE 0 k (prevD L k) L[k] x).1 = 0 := by
        subst h0;rw [prev_0];show (if (0 + x) % 18446744073709551616 < x then (11 : Int) else 0) = 0
        rw [if_neg (by omega)]
      rw [e];exact r8wrong00 B L.length k x hx w h0
    · have hjl : j < L.length := by omega
      obtain ⟨c0, c1, c2, c3, _⟩ := hb.cell hjl;have ha : prevD L k = L[j] := by subst hj; exact prev_s L hjl
      rw [ha];by_cases h : (L[j].id + x) % 18446744073709551616 < x
      · have e : (setE 0 k L[j] L[k] x).1 = 11 := if_pos h;rw [e];exact r8wrong0a B L.length k L[j].id _ x hx w j hj hk hL c0 rfl h
      · have e : (setE 0 k L[j] L[k] x).1 = 0 := if_neg h;rw [e];exact r8wrong0b B L.length k L[j].id _ x hx w j hj hk hL c0 rfl h
  · by_cases h : 4294967295 < x
    · have e : (setE 1 k (prevD L k) L[k] x).1 = 11 := by
        unfold setE;rw [if_neg (by decide), if_pos rfl, if_pos (by omega)]
      rw [e];exact r8wrong1a B L.length k x hx w h
    · have e : (setE 1 k (prevD L k) L[k] x).1 = 0 := by
        unfold setE;rw [if_neg (by decide), if_pos rfl, if_neg (by omega)]
      rw [e];exact r8wrong1b B L.length k x hx w h
  · by_cases h : 4294967295 < x
    · have e : (setE 2 k (prevD L k) L[k] x).1 = 11 := by
        unfold setE;rw [if_neg (by decide), if_neg (by decide), if_pos rfl, if_pos (by omega)]
      rw [e];exact r8wrong2a B L.length k x hx w h
    · have e : (setE 2 k (prevD L k) L[k] x).1 = 0 := by
        unfold setE;rw [if_neg (by decide), if_neg (by decide), if_pos rfl, if_neg (by omega)]
      rw [e];exact r8wrong2b B L.length k x hx w h
  · have e0 : (setE 3 k (prevD L k) L[k] x).1 = if k = 0 ∧ x = 0 ∨ 0 < k ∧ 0 < x ∧ (x + 18446744073709551615) % 18446744073709551616 = nextE (prevD L k) then 4 else 0 := by
      unfold setE;rw [if_neg (by decide), if_neg (by decide), if_neg (by decide)];split <;> rfl
    rcases hk' with h0 | ⟨j, hj⟩
    · by_cases h : x = 0
      · rw [e0, if_pos (.inl ⟨h0, h⟩)];exact r8wrong3a B L.length k x hx w h0 h
      · rw [e0, if_neg (by omega)];exact r8wrong3b B L.length k x hx w h0 h
    · by_cases h : x = 0
      · rw [e0, if_neg (by omega)];exact r8wrong3c B L.length k x hx w j hj hk hL h
      · have hjl : j < L.length := by omega
        obtain ⟨c0, c1, c2, c3, _⟩ := hb.cell hjl;have ha : prevD L k = L[j] := by subst hj; exact prev_s L hjl
        have ho := (hok L[j] (List.getElem_mem hjl)).2.2.1;have hx1 : (x + 18446744073709551615) % 18446744073709551616 = x - 1 := by omega
        rw [e0, ha, hx1];by_cases hq : x - 1 = nextE L[j]
        · rw [if_pos (.inr ⟨by omega, by omega, hq⟩)];exact r8wrong3d B L.length k L[j].off L[j].len _ x hx w j hj hk hL c1 c2 ho rfl (by omega) hq
        · rw [if_neg (by omega)];exact r8wrong3e B L.length k L[j].off L[j].len _ x hx w j hj hk hL c1 c2 ho rfl (by omega) hq
end Go.Proofs.YtbfieomjobbhoaaGreatDoor
