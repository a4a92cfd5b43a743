/- The frame of the laws over charts: slices of items and of texts opened; what is read stays. -/
import Derived.Test.YtcfmidmokciofaaGreatDoorKG03
import Derived.Test.YtcfmidmokciofaaGreatDoorKG04
import Derived.Deep.Slices
import Derived.Deep.Strs
import Derived.Deep.Fields
import Derived.ChangeSame
import Derived.ChangeStays
import Derived.ChangeBears
namespace Go.Proofs.YtcfmidmokciofaaGreatDoor
open Go.ChangeShapes Go.WideShapes Go.ChangeAt Go.RowKit Go.Lib Go.Gz Go.Deep

set_option maxRecDepth 100000
theorem kids : Kids Tryz.prog (· < Tryz.prog.types.size) := kids_rows (by kernel_rfl) (by kernel_rfl)
theorem rows_pos : ((List.range Tryz.prog.types.size).all fun t => match Tryz.prog.underlying t with | some (.slice e) => decide (0 < Tryz.prog.cellsOf e) | _ => true) = true := by kernel_rfl
theorem kid_pos {t e : TypeId} (ht : t < Tryz.prog.types.size) (h : Tryz.prog.underlying t = some (.slice e)) : 0 < Tryz.prog.cellsOf e := by
  have := List.all_eq_true.1 rows_pos t (List.mem_range.2 ht);rw [h] at this;simpa using this
section
variable {H : Type} {enc : TypeId × Value → H} {W W' : World}
theorem stays {t : TypeId} {v : Value} {d : DataW H} {ps : List MemPlace} (hup : Up W W') (ht : t < Tryz.prog.types.size) (h : DataW.Trod enc Tryz.prog W 0 (fun _ => true) true t v d ps) (sp : Nat → Bool) (hs : ∀ p ∈ ps, sp p.block = true) (hlt : ∀ p ∈ ps, p.block < W.heap.size) :
    DataW.Trod enc Tryz.prog W' 0 sp true t v d ps := by
  obtain ⟨n, hn⟩ := h;exact ⟨n, DataW.trod_stays kids (fun ht h => kid_pos ht h) (fun h => by cases h) ht hn (fun p hp => hup.below.same (hlt p hp)) hs⟩
theorem stays_all (hup : Up W W') (sp : Nat → Bool) : ∀ {ts : List TypeId} {vs : List Value} {ds : List (DataW H)} {ps : List MemPlace}, (∀ t ∈ ts, t < Tryz.prog.types.size) → DataW.TrodAll enc Tryz.prog W 0 (fun _ => true) true ts vs ds ps → (∀ p ∈ ps, sp p.block = true) → (∀ p ∈ ps, p.block < W.heap.size) →
    DataW.TrodAll enc Tryz.prog W' 0 sp true ts vs ds ps := by
  intro ts;induction ts with
  | nil =>
    intro vs ds ps _ h _ _;cases vs with
    | nil => cases ds with
      | nil => exact h
      | cons _ _ => exact h
    | cons _ _ => exact h
  | cons t ts ih =>
    intro vs ds ps ht h hs hlt;cases vs with
    | nil => exact h
    | cons v vs =>
      cases ds with
      | nil => exact h
      | cons d ds =>
        obtain ⟨p, q, h1, h2, rfl⟩ := h;exact ⟨p, q, stays hup (ht t (by simp)) h1 sp (fun x hx => hs x (by simp [hx])) (fun x hx => hlt x (by simp [hx])), ih (fun t ht' => ht t (by simp [ht'])) h2 (fun x hx => hs x (by simp [hx])) (fun x hx => hlt x (by simp [hx])), rfl⟩
end
theorem params_lt {ts : List TypeId} (h : (ts.all fun t => decide (t < Tryz.prog.types.size)) = true) : ∀ t ∈ ts, t < Tryz.prog.types.size := fun t ht => by
  have := List.all_eq_true.1 h t ht;simpa using this
theorem list_of {α : Type} {P : Nat → α → Prop} : ∀ n : Nat, (∀ i, i < n → ∃ x, P i x) → ∃ l : List α, l.length = n ∧ ∀ i (h : i < l.length), P i l[i] := by
  intro n;induction n with
  | zero => intro _; exact ⟨[], rfl, fun i h => by simp at h⟩
  | succ n ih =>
    intro h;obtain ⟨l, hl, hp⟩ := ih (fun i hi => h i (by omega));obtain ⟨x, hx⟩ := h n (by omega);refine ⟨l ++ [x], by simp [hl], fun i hi => ?_⟩;rw [List.getElem_append];split
    · exact hp i _
    · have : i = n := by simp at hi; omega
      subst this;simpa using hx
theorem plain_of {w : World} {a : Addr} {u : Value} (h : w.cell? a = some u) : a = ⟨a.block, a.off, none⟩ := by
  obtain ⟨b, o, s⟩ := a;cases s with
  | none => rfl
  | some s =>
    exfalso;unfold World.cell? at h;simp only [Option.isSome_some, if_true] at h;rcases hq : w.heap[b]? with _ | ob
    · rw [hq] at h; cases h
    · rw [hq] at h; cases ob <;> cases h
theorem rd_items {w : World} {a : Addr} {c : Nat} {l : Items} (hl : l.length ≤ c) (hc : c ≤ maxLen) (h : ∀ i (hi : i < l.length), w.cell? (a.add (i * 2)) = some (.int .u64 (l[i].1 : Int)) ∧ w.cell? (a.add (i * 2 + 1)) = some (.string ⟨l[i].2.toArray⟩)) :
    Rd w 2 (some a) l.length c (itV l) := by
  refine ⟨itV_len l, hl, hc, fun h => by (cases h), fun hn => ?_⟩;have h0 := (h 0 hn).1;rw [show a.add (0 * 2) = a by simp [Addr.add]] at h0;refine ⟨a.block, a.off, by rw [← plain_of h0], fun j u hj => ?_⟩;have hj2 := (List.getElem?_eq_some_iff.1 hj).1;rw [itV_len] at hj2;have e := h (j / 2) (by omega);obtain ⟨g1, g2⟩ := itV_get l (j / 2) (by omega);rw [plain_of h0, add_plain, add_plain] at e;rcases Nat.mod_two_eq_zero_or_one j with hm | hm
  · have : j / 2 * 2 = j := by omega
    rw [this] at e g1;rw [g1] at hj; cases hj;exact e.1
  · have : j / 2 * 2 + 1 = j := by omega
    rw [this] at e g2;rw [g2] at hj; cases hj;exact e.2
section
variable {H : Type} {enc : TypeId × Value → H} {W : World}
theorem open_items {r : Reach} {b0 : Nat} {v : Value} {d : DataW H} {p : List MemPlace} (hv : Value.okWide Tryz.prog W r b0 22 v) (h : DataW.Trod enc Tryz.prog W 0 (fun _ => true) true 22 v d p) :
    ∃ (A : Option Addr) (c : Nat) (l : Items), v = .slice A l.length c ∧ Rd W 2 A l.length c (itV l) ∧ ∀ x ∈ l, x.2.length ≤ 9223372036854775807 := by
  obtain ⟨A, n, c, rfl⟩ := okWide_slice Tryz.underlying22 hv;obtain ⟨fuel, hf⟩ := h;rcases open_slice Tryz.underlying22 hf with ⟨h0, _⟩ | ⟨a, len, cap, m, k, D, Pl, hcs, hb, hl, hm, hmm, hx, hi⟩
  · have h0' : Value.slice A n c = .slice none 0 0 := by simpa [Value.cells] using h0
    injection h0' with e1 e2 e3;subst e1 e2 e3;exact ⟨none, 0, [], rfl, Rd.nil_ _ _, by simp⟩
  · have h0' : Value.slice A n c = .slice (some a) len cap := by simpa [Value.cells] using hcs
    injection h0' with e1 e2 e3;subst e1 e2 e3;have hC : Tryz.prog.cellsOf 56 = 2 := by kernel_rfl
    have hlm : n ≤ m := by rw [hmm]; split <;> omega
    have each : ∀ i, i < n → ∃ x : Gz.Item, W.cell? (a.add (i * 2)) = some (.int .u64 (x.1 : Int)) ∧ W.cell? (a.add (i * 2 + 1)) = some (.string ⟨x.2.toArray⟩) ∧ x.2.length ≤ 9223372036854775807 := by
      intro i hin;obtain ⟨cs', hc, ht'⟩ := hi i (by omega);rw [hC] at hc;obtain ⟨ys, n', hn', hy, hlen, hyl, hg⟩ := DataW.trod_struct Tryz.underlying56 ht';obtain ⟨_, hcl, hat⟩ := World.cells?_some hc;match cs', hcl with
      | [u0, u1], _ =>
        have c0 := hat 0 (by omega);have c1 := hat 1 (by omega);have k0 : Tryz.prog.cellsOf 54 = 1 := by kernel_rfl
        have k1 : Tryz.prog.cellsOf 9 = 1 := by kernel_rfl
        have g0 : DataW.trod enc Tryz.prog W 0 (fun _ => true) true n' 54 (List.take (Tryz.prog.cellsOf 54) (List.drop 0 [u0, u1])) = ys[0]? := hg 0 _ rfl;have g1 : DataW.trod enc Tryz.prog W 0 (fun _ => true) true n' 9 (List.take (Tryz.prog.cellsOf 9) (List.drop 1 [u0, u1])) = ys[1]? := hg 1 _ rfl;rw [k0] at g0;rw [k1] at g1;have hy2 : ys.length = 2 := hyl;have g0' := g0.trans (List.getElem?_eq_getElem (by omega : 0 < ys.length));have g1' := g1.trans (List.getElem?_eq_getElem (by omega : 1 < ys.length));obtain ⟨n0, e0, _, wf0⟩ := DataW.trod_int Tryz.underlying54 g0';obtain ⟨s1, e1, _, hs1⟩ := DataW.trod_string Tryz.underlying9 g1';simp at e0 e1;subst e0 e1;have hn0 : 0 ≤ n0 := by
          simp [Lit.wf, IntKind.min, IntKind.max, IntKind.bits, IntKind.signed] at wf0; omega
        refine ⟨(n0.toNat, s1.data.toList), ?_, ?_, ?_⟩
        · have z0 : (a.add (i * 2)).add 0 = a.add (i * 2) := if_pos rfl;rw [z0] at c0;rw [c0]; show some (Value.int .u64 n0) = some (.int .u64 ((n0.toNat : Nat) : Int)); rw [Int.toNat_of_nonneg hn0]
        · rw [← Go.Deep.add_add, c1, mk_bytes]; rfl
        · have : s1.data.toList.length = s1.size := Array.length_toList;rw [this]; unfold maxLen at hs1; exact hs1
    obtain ⟨l, hll, hp⟩ := list_of n each;subst hll;refine ⟨some a, c, l, rfl, rd_items hl hm (fun i hi => ⟨(hp i hi).1, (hp i hi).2.1⟩), fun x hx => ?_⟩;obtain ⟨i, hi, rfl⟩ := List.getElem_of_mem hx;exact (hp i hi).2.2
theorem open_item {r : Reach} {b0 : Nat} {v : Value} {d : DataW H} {p : List MemPlace} (hv : Value.okWide Tryz.prog W r b0 56 v) (h : DataW.Trod enc Tryz.prog W 0 (fun _ => true) true 56 v d p) :
    ∃ (n : Nat) (s : Bs), v = .agg #[.int .u64 (n : Int), .string ⟨s.toArray⟩] ∧ s.length ≤ 9223372036854775807 := by
  obtain ⟨c0, c1, y0, y1, k, rfl, rfl, rfl, t0, t1⟩ := Go.Joins.open_agg2 Tryz.underlying56 (by kernel_rfl) (by kernel_rfl) hv h;obtain ⟨n0, e0, rfl, wf0⟩ := DataW.trod_int Tryz.underlying54 t0;obtain ⟨s1, e1, rfl, hs1⟩ := DataW.trod_string Tryz.underlying9 t1;simp at e0 e1;subst e0 e1;have hn0 : 0 ≤ n0 := by
    simp [Lit.wf, IntKind.min, IntKind.max, IntKind.bits, IntKind.signed] at wf0; omega
  refine ⟨n0.toNat, s1.data.toList, ?_, ?_⟩
  · rw [Int.toNat_of_nonneg hn0, mk_bytes]
  · have : s1.data.toList.length = s1.size := Array.length_toList;rw [this]; unfold maxLen at hs1; exact hs1
theorem open_u8 {r : Reach} {b0 : Nat} {v : Value} {d : DataW H} {p : List MemPlace} (hv : Value.okWide Tryz.prog W r b0 5 v) (h : DataW.Trod enc Tryz.prog W 0 (fun _ => true) true 5 v d p) :
    ∃ n : Nat, v = .int .u8 (n : Int) ∧ n < 256 := by
  obtain ⟨n0, rfl, rfl, rfl, wf0⟩ := open_int Tryz.underlying5 hv h;have hn : 0 ≤ n0 ∧ n0 < 256 := by
    simp [Lit.wf, IntKind.min, IntKind.max, IntKind.bits, IntKind.signed] at wf0; omega
  obtain ⟨n, rfl⟩ := Int.eq_ofNat_of_zero_le hn.1;exact ⟨n, rfl, by omega⟩
theorem open_u64 {r : Reach} {b0 : Nat} {v : Value} {d : DataW H} {p : List MemPlace} (hv : Value.okWide Tryz.prog W r b0 54 v) (h : DataW.Trod enc Tryz.prog W 0 (fun _ => true) true 54 v d p) :
    ∃ n : Nat, v = .int .u64 (n : Int) ∧ n < 18446744073709551616 := by
  obtain ⟨n0, rfl, rfl, rfl, wf0⟩ := open_int Tryz.underlying54 hv h;have hn : 0 ≤ n0 ∧ n0 < 18446744073709551616 := by
    simp [Lit.wf, IntKind.min, IntKind.max, IntKind.bits, IntKind.signed] at wf0; omega
  obtain ⟨n, rfl⟩ := Int.eq_ofNat_of_zero_le hn.1;exact ⟨n, rfl, by omega⟩
theorem open_text {r : Reach} {b0 : Nat} {v : Value} {d : DataW H} {p : List MemPlace} (hv : Value.okWide Tryz.prog W r b0 9 v) (h : DataW.Trod enc Tryz.prog W 0 (fun _ => true) true 9 v d p) :
    ∃ s : Bs, v = .string ⟨s.toArray⟩ := by
  obtain ⟨s, rfl, _, _, _⟩ := Go.ChangeMaps.open_string Tryz.underlying9 hv h;exact ⟨s.data.toList, by rw [mk_bytes]⟩
end
end Go.Proofs.YtcfmidmokciofaaGreatDoor
/- The frame of a plan's argument. -/
namespace Go.Proofs.YtcfmidmokciofaaGreatDoor
open Go.ChangeShapes Go.WideShapes Go.ChangeAt Go.RowKit Go.Lib Go.Gz Go.Deep
set_option maxRecDepth 100000
section
variable {H : Type} {enc : TypeId × Value → H} {W : World}
theorem open_plan {r : Reach} {b0 : Nat} {v : Value} {d : DataW H} {p : List MemPlace} (hv : Value.okWide Tryz.prog W r b0 48 v) (h : DataW.Trod enc Tryz.prog W 0 (fun _ => true) true 48 v d p) :
    ∃ (b : Int) (k : Nat) (s : Bs), v = .agg #[.int .i64 b, .int .u8 (k : Int), .string ⟨s.toArray⟩] := by
  obtain ⟨c0, c1, c2, y0, y1, y2, n, rfl, rfl, rfl, t0, t1, t2⟩ := Go.Joins.open_agg3 Tryz.underlying48 (by kernel_rfl) (by kernel_rfl) hv h;obtain ⟨n0, e0, rfl, wf0⟩ := DataW.trod_int Tryz.underlying3 t0;obtain ⟨n1, e1, rfl, wf1⟩ := DataW.trod_int Tryz.underlying5 t1;obtain ⟨s2, e2, rfl, hs2⟩ := DataW.trod_string Tryz.underlying9 t2;simp at e0 e1 e2;subst e0 e1 e2;have hn1 : 0 ≤ n1 := by
    simp [Lit.wf, IntKind.min, IntKind.max, IntKind.bits, IntKind.signed] at wf1; omega
  refine ⟨n0, n1.toNat, s2.data.toList, ?_⟩;rw [Int.toNat_of_nonneg hn1, mk_bytes]
end
end Go.Proofs.YtcfmidmokciofaaGreatDoor
