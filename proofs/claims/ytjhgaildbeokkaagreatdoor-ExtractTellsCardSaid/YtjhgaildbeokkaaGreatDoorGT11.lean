/- The frame of the laws over rectangles: slices of rectangles opened; a plain number opened. -/
import Derived.Test.YtjhgaildbeokkaaGreatDoorGT05
import Derived.Test.YtjhgaildbeokkaaGreatDoorGT10
namespace Go.Proofs.YtjhgaildbeokkaaGreatDoor
open Go.ChangeShapes Go.WideShapes Go.ChangeAt Go.RowKit Go.Lib Go.Gz Go.Deep
set_option maxRecDepth 100000
theorem rd_rectsF {w : World} {a : Addr} {c : Nat} {l : Rcs} (hl : l.length ≤ c) (hc : c ≤ maxLen) (h : ∀ i (hi : i < l.length), w.cell? (a.add (i * 5)) = some (.int .i64 l[i].z) ∧ w.cell? (a.add (i * 5 + 1)) = some (.int .i64 l[i].x0) ∧ w.cell? (a.add (i * 5 + 2)) = some (.int .i64 l[i].y0) ∧ w.cell? (a.add (i * 5 + 3)) = some (.int .i64 l[i].x1) ∧ w.cell? (a.add (i * 5 + 4)) = some (.int .i64 l[i].y1)) :
    Rd w 5 (some a) l.length c (rcV l) := by
  refine ⟨rcV_len l, hl, hc, fun h => by (cases h), fun hn => ?_⟩;have h0 := (h 0 hn).1;rw [show a.add (0 * 5) = a by simp [Addr.add]] at h0;refine ⟨a.block, a.off, by rw [← plain_of h0], fun j u hj => ?_⟩;have hj2 := (List.getElem?_eq_some_iff.1 hj).1;rw [rcV_len] at hj2;obtain ⟨q, hq, hql⟩ : ∃ q, j / 5 = q ∧ q < l.length := ⟨_, rfl, by omega⟩;have e := h q hql;obtain ⟨g0, g1, g2, g3, g4⟩ := rcV_get l q hql;rw [plain_of h0] at e;simp only [add_plain] at e;obtain ⟨e0, e1, e2, e3, e4⟩ := e;have hm : j % 5 < 5 := Nat.mod_lt _ (by omega);have hj3 : j = q * 5 ∨ j = q * 5 + 1 ∨ j = q * 5 + 2 ∨ j = q * 5 + 3 ∨ j = q * 5 + 4 := by omega
  rcases hj3 with r | r | r | r | r
  · rw [r] at hj ⊢; rw [g0] at hj; cases hj; exact e0
  · rw [r] at hj ⊢; rw [g1] at hj; cases hj; exact e1
  · rw [r] at hj ⊢; rw [g2] at hj; cases hj; exact e2
  · rw [r] at hj ⊢; rw [g3] at hj; cases hj; exact e3
  · rw [r] at hj ⊢; rw [g4] at hj; cases hj; exact e4
section
variable {H : Type} {enc : TypeId × Value → H} {W : World}
theorem open_rects {r : Reach} {b0 : Nat} {v : Value} {d : DataW H} {p : List MemPlace} (hv : Value.okWide Tryz.prog W r b0 76 v) (h : DataW.Trod enc Tryz.prog W 0 (fun _ => true) true 76 v d p) :
    ∃ (A : Option Addr) (c : Nat) (l : Rcs), v = .slice A l.length c ∧ Rd W 5 A l.length c (rcV l) := by
  obtain ⟨A, n, c, rfl⟩ := okWide_slice Tryz.underlying76 hv;obtain ⟨fuel, hf⟩ := h;rcases open_slice Tryz.underlying76 hf with ⟨h0, _⟩ | ⟨a, len, cap, m, k, D, Pl, hcs, hb, hl, hm, hmm, hx, hi⟩
  · have h0' : Value.slice A n c = .slice none 0 0 := by simpa [Value.cells] using h0
    injection h0' with e1 e2 e3;subst e1 e2 e3;exact ⟨none, 0, [], rfl, Rd.nil_ _ _⟩
  · have h0' : Value.slice A n c = .slice (some a) len cap := by simpa [Value.cells] using hcs
    injection h0' with e1 e2 e3;subst e1 e2 e3;have hC : Tryz.prog.cellsOf 89 = 5 := by kernel_rfl
    have hlm : n ≤ m := by rw [hmm]; split <;> omega
    have each : ∀ i, i < n → ∃ x : Rc, W.cell? (a.add (i * 5)) = some (.int .i64 x.z) ∧ W.cell? (a.add (i * 5 + 1)) = some (.int .i64 x.x0) ∧ W.cell? (a.add (i * 5 + 2)) = some (.int .i64 x.y0) ∧ W.cell? (a.add (i * 5 + 3)) = some (.int .i64 x.x1) ∧ W.cell? (a.add (i * 5 + 4)) = some (.int .i64 x.y1) := by
      intro i hin;obtain ⟨cs', hc, ht'⟩ := hi i (by omega);rw [hC] at hc;obtain ⟨ys, n', hn', hy, hlen, hyl, hg⟩ := DataW.trod_struct Tryz.underlying89 ht';obtain ⟨_, hcl, hat⟩ := World.cells?_some hc;match cs', hcl with
      | [u0, u1, u2, u3, u4], _ =>
        have c0 := hat 0 (by omega);have c1 := hat 1 (by omega);have c2 := hat 2 (by omega);have c3 := hat 3 (by omega);have c4 := hat 4 (by omega);have k0 : Tryz.prog.cellsOf 3 = 1 := by kernel_rfl
        have g0 : DataW.trod enc Tryz.prog W 0 (fun _ => true) true n' 3 (List.take (Tryz.prog.cellsOf 3) (List.drop 0 [u0, u1, u2, u3, u4])) = ys[0]? := hg 0 _ rfl;have g1 : DataW.trod enc Tryz.prog W 0 (fun _ => true) true n' 3 (List.take (Tryz.prog.cellsOf 3) (List.drop 1 [u0, u1, u2, u3, u4])) = ys[1]? := hg 1 _ rfl;have g2 : DataW.trod enc Tryz.prog W 0 (fun _ => true) true n' 3 (List.take (Tryz.prog.cellsOf 3) (List.drop 2 [u0, u1, u2, u3, u4])) = ys[2]? := hg 2 _ rfl;have g3 : DataW.trod enc Tryz.prog W 0 (fun _ => true) true n' 3 (List.take (Tryz.prog.cellsOf 3) (List.drop 3 [u0, u1, u2, u3, u4])) = ys[3]? := hg 3 _ rfl;have g4 : DataW.trod enc Tryz.prog W 0 (fun _ => true) true n' 3 (List.take (Tryz.prog.cellsOf 3) (List.drop 4 [u0, u1, u2, u3, u4])) = ys[4]? := hg 4 _ rfl;rw [k0] at g0 g1 g2 g3 g4;have hy2 : ys.length = 5 := hyl;obtain ⟨n0, e0, _, _⟩ := DataW.trod_int Tryz.underlying3 (g0.trans (List.getElem?_eq_getElem (by omega : 0 < ys.length)));obtain ⟨n1, e1, _, _⟩ := DataW.trod_int Tryz.underlying3 (g1.trans (List.getElem?_eq_getElem (by omega : 1 < ys.length)));obtain ⟨n2, e2, _, _⟩ := DataW.trod_int Tryz.underlying3 (g2.trans (List.getElem?_eq_getElem (by omega : 2 < ys.length)));obtain ⟨n3, e3, _, _⟩ := DataW.trod_int Tryz.underlying3 (g3.trans (List.getElem?_eq_getElem (by omega : 3 < ys.length)));obtain ⟨n4, e4, _, _⟩ := DataW.trod_int Tryz.underlying3 (g4.trans (List.getElem?_eq_getElem (by omega : 4 < ys.length)));simp at e0 e1 e2 e3 e4;subst e0 e1 e2 e3 e4;have z0 : (a.add (i * 5)).add 0 = a.add (i * 5) := if_pos rfl;rw [z0] at c0;exact ⟨⟨n0, n1, n2, n3, n4⟩, c0, by rw [← Go.Deep.add_add]; exact c1, by rw [← Go.Deep.add_add]; exact c2, by rw [← Go.Deep.add_add]; exact c3, by rw [← Go.Deep.add_add]; exact c4⟩
    obtain ⟨l, hll, hp⟩ := list_of n each;subst hll;exact ⟨some a, c, l, rfl, rd_rectsF hl hm hp⟩
theorem open_i64 {r : Reach} {b0 : Nat} {v : Value} {d : DataW H} {p : List MemPlace} (hv : Value.okWide Tryz.prog W r b0 3 v) (h : DataW.Trod enc Tryz.prog W 0 (fun _ => true) true 3 v d p) :
    ∃ n : Int, v = .int .i64 n ∧ (-9223372036854775808 ≤ n ∧ n ≤ 9223372036854775807) := by
  obtain ⟨n0, rfl, rfl, rfl, wf0⟩ := open_int Tryz.underlying3 hv h;refine ⟨n0, rfl, ?_⟩;simp [Lit.wf, IntKind.min, IntKind.max, IntKind.bits, IntKind.signed] at wf0; omega
end
end Go.Proofs.YtjhgaildbeokkaaGreatDoor
/- The frame of a law over rectangles and two numbers: an array of two numbers opened. -/
namespace Go.Proofs.YtjhgaildbeokkaaGreatDoor
open Go.ChangeShapes Go.WideShapes Go.ChangeAt Go.RowKit Go.Lib Go.Gz Go.Deep
set_option maxRecDepth 100000
section
variable {H : Type} {enc : TypeId × Value → H} {W : World}
theorem open_two {r : Reach} {b0 : Nat} {v : Value} {d : DataW H} {p : List MemPlace} (hv : Value.okWide Tryz.prog W r b0 82 v) (h : DataW.Trod enc Tryz.prog W 0 (fun _ => true) true 82 v d p) :
    ∃ n m : Int, v = .agg #[.int .i64 n, .int .i64 m] := by
  have hc : Tryz.prog.cellsOf 82 = 2 := by kernel_rfl
  have hi : Tryz.prog.cellsOf 3 = 1 := by kernel_rfl
  simp only [Value.okWide, Tryz.underlying82] at hv;obtain ⟨cs, rfl, hsz, _⟩ := hv;rw [hc] at hsz;obtain ⟨fuel, hf⟩ := h;obtain ⟨xs, m, _, _, _, hxl, hall⟩ := DataW.trod_array Tryz.underlying82 hf;have h0 := hall 0 (by omega);have h1 := hall 1 (by omega);rw [hi, List.getElem?_eq_getElem (by omega)] at h0 h1;obtain ⟨n, e0, _, _⟩ := DataW.trod_int Tryz.underlying3 h0;obtain ⟨q, e1, _, _⟩ := DataW.trod_int Tryz.underlying3 h1;refine ⟨n, q, ?_⟩;congr 1
  apply Array.ext';have hl : cs.toList.length = 2 := by simpa using hsz
  match hcs : cs.toList, hl with
  | [a, b], _ =>
    simp [Value.cells, hcs] at e0 e1;rw [e0, e1]
end
end Go.Proofs.YtjhgaildbeokkaaGreatDoor
