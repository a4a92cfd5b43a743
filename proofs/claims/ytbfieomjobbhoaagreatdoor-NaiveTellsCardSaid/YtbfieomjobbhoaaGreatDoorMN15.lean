/- Walk: entry.Contents. -/
import Derived.Test.YtbfieomjobbhoaaGreatDoorMN10
import Derived.Test.YtbfieomjobbhoaaGreatDoorMN08
import Derived.Test.YtbfieomjobbhoaaGreatDoorMN12
import Derived.Test.YtbfieomjobbhoaaGreatDoorMN11
import Derived.DeepKeys4
import Derived.WideKeyEntry
namespace Go.Proofs.YtbfieomjobbhoaaGreatDoor
open Go.RowKit Go.Gz Go.Shelf

set_option maxRecDepth 100000
def keyV (p : Nat × Nat) : Value := .agg #[.int .u64 (p.1 : Int), .int .u32 (p.2 : Int)]
theorem lawC : WideMaps.KeyLaw Tryz.prog 301 := by
  have h : decide (301 < Tryz.prog.types.size) = true := by kernel_rfl
  exact deep_law_laid (m := 3) (by kernel_rfl) (by omega) (of_decide_eq_true h) (by kernel_rfl) (by kernel_rfl)
theorem keyC (p : Nat × Nat) (h1 : p.1 < 18446744073709551616) (h2 : p.2 < 4294967296) : ∃ l, keyOf Tryz.prog 301 (keyV p) = some l := by
  have ht := Tryz.underlying301;have hk : Tryz.prog.keyType 301 = true := by kernel_rfl
  have hf : Value.formed Tryz.prog 301 (keyV p) = true := by kernel_rfl
  have hw1 : (Lit.int .u64 (p.1 : Int)).wf = true := by simp [Lit.wf, IntKind.min, IntKind.max, IntKind.bits, IntKind.signed]; omega
  have hw2 : (Lit.int .u32 (p.2 : Int)).wf = true := by simp [Lit.wf, IntKind.min, IntKind.max, IntKind.bits, IntKind.signed]; omega
  have hc1 : Tryz.prog.cellsOf 301 = 2 := by kernel_rfl
  have hc2 : Tryz.prog.cellsOf 22 = 1 := by kernel_rfl
  have hc3 : Tryz.prog.cellsOf 82 = 1 := by kernel_rfl
  have hd : decide (0 < Tryz.prog.types.size) = true := by kernel_rfl
  obtain ⟨k, hk2⟩ : ∃ k, Tryz.prog.types.size = k + 1 := ⟨Tryz.prog.types.size - 1, by have := of_decide_eq_true hd; omega⟩;have u1 := Tryz.underlying22;have u2 := Tryz.underlying82;unfold keyOf;rw [ht];simp only [hk, Bool.true_and, hf, if_true, hk2];simp [keyV, Value.cells, Program.keyLits, ht, hc1, hc2, hc3, u1, u2, hw1, hw2]
/-- contents seen, as the map holds them -/
def ConE (es : Array MapEntry) (S : List (Nat × Nat)) : Prop := es.toList.map (fun e => e.key) = S.map keyV ∧ ∀ (i : Nat) (e : MapEntry), es.toList[i]? = some e → e.born = i ∧ ∃ n : Int, e.val = Value.int .i64 n
def ConOK (w : World) (M : Nat) (S : List (Nat × Nat)) : Prop := ∃ es : Array MapEntry, w.heap[M]? = some (.map es S.length) ∧ ConE es S
theorem keyV_inj {p q : Nat × Nat} (h : keyV p = keyV q) : p = q := by
  unfold keyV at h;simp at h;exact Prod.ext (by omega) (by omega)
theorem con_size {es : Array MapEntry} {S : List (Nat × Nat)} (h : ConE es S) : es.size = S.length := by
  have := congrArg List.length h.1;simpa using this
theorem con_born {es : Array MapEntry} {S : List (Nat × Nat)} (h : ConE es S) : (es.toList.map (fun e => e.born)).Nodup := by
  have e : es.toList.map (fun e => e.born) = List.range es.toList.length := by
    apply List.ext_getElem?;intro i;rw [List.getElem?_map];rcases Nat.lt_or_ge i es.toList.length with hi | hi
    · rw [List.getElem?_eq_getElem hi, List.getElem?_range hi, Option.map_some, (h.2 i _ (List.getElem?_eq_getElem hi)).1]
    · rw [List.getElem?_eq_none hi, List.getElem?_eq_none (by simpa using hi)]; rfl
  rw [e];exact List.nodup_range
theorem con_keys {es : Array MapEntry} {S : List (Nat × Nat)} (h : ConE es S) (hb : ∀ q ∈ S, q.1 < 18446744073709551616 ∧ q.2 < 4294967296) : ∀ e ∈ es.toList, ∃ l, keyOf Tryz.prog 301 e.key = some l := by
  intro e he;have : e.key ∈ S.map keyV := by rw [← h.1]; exact List.mem_map_of_mem he
  obtain ⟨q, hq, hk⟩ := List.mem_map.1 this;rw [← hk];exact keyC q (hb q hq).1 (hb q hq).2
theorem con_mem {es : Array MapEntry} {S : List (Nat × Nat)} (h : ConE es S) {e : MapEntry} (he : e ∈ es.toList) {p : Nat × Nat} (hk : e.key = keyV p) : p ∈ S := by
  have : e.key ∈ S.map keyV := by rw [← h.1]; exact List.mem_map_of_mem he
  obtain ⟨q, hq, hk2⟩ := List.mem_map.1 this;rw [hk] at hk2;rw [← keyV_inj hk2]; exact hq
theorem con_not {es : Array MapEntry} {S : List (Nat × Nat)} (h : ConE es S) {p : Nat × Nat} (hn : ∀ e ∈ es.toList, e.key ≠ keyV p) : p ∉ S := by
  intro hp;have : keyV p ∈ es.toList.map (fun e => e.key) := by rw [h.1]; exact List.mem_map_of_mem hp
  obtain ⟨e, he, hk⟩ := List.mem_map.1 this;exact hn e he hk
theorem con_mod {es : Array MapEntry} {S : List (Nat × Nat)} (h : ConE es S) (j : Nat) (v : Int) : ConE (es.modify j (fun e => { e with val := Value.int .i64 v })) S := by
  refine ⟨?_, fun i e he => ?_⟩
  · rw [← h.1, Array.toList_modify];apply List.ext_getElem?;intro i;rw [List.getElem?_map, List.getElem?_map, List.getElem?_modify];split
    · cases es.toList[i]? <;> rfl
    · cases es.toList[i]? <;> rfl
  · rw [Array.toList_modify, List.getElem?_modify] at he;split at he
    · cases hx : es.toList[i]? with
      | none => rw [hx] at he; cases he
      | some x =>
        rw [hx] at he;injection he with he;subst he;exact ⟨(h.2 i x hx).1, v, rfl⟩
    · rw [Option.map_eq_map, Option.map_id'] at he; exact h.2 i e he
theorem con_push {es : Array MapEntry} {S : List (Nat × Nat)} (h : ConE es S) (p : Nat × Nat) (v : Int) : ConE (es.push ⟨keyV p, .int .i64 v, S.length⟩) (S ++ [p]) := by
  refine ⟨by rw [Array.toList_push, List.map_append, List.map_append, h.1]; rfl, fun i e he => ?_⟩;have hs := con_size h;rw [Array.toList_push] at he;rcases Nat.lt_or_ge i es.toList.length with hi | hi
  · rw [List.getElem?_append_left hi] at he;exact h.2 i e he
  · rw [List.getElem?_append_right hi] at he;have hi0 : i - es.toList.length = 0 := by
      have := (List.getElem?_eq_some_iff.1 he).1;simpa using this
    rw [hi0] at he;simp at he;subst he;simp at hi hi0;exact ⟨by simp; omega, v, rfl⟩
theorem con_store {es : Array MapEntry} {S : List (Nat × Nat)} {clock M : Nat} (h : ConE es S) (j : Nat) (hj : j < S.length) (v : Int) (w : World) (hw : w.heap[M]? = some (.map es clock)) :
    (Instr.entryStore 299 (.map (some M)) (.int .i64 (j : Int)) (.int .i64 v)).run Tryz.prog w = .ok () (Go.ChangeMaps.setBlock w M (.map (es.modify j (fun e => { e with val := Value.int .i64 v })) clock)) := by
  have hs := con_size h;have hj2 : j < es.toList.length := by simpa [hs] using hj
  have hidx := Go.WideElems.findIdx_born (con_born h) (List.getElem?_eq_getElem hj2);rw [(h.2 j _ (List.getElem?_eq_getElem hj2)).1] at hidx;have hidx2 : es.findIdx? (fun e => ((e.born : Nat) : Int) == ((j : Nat) : Int)) = some j := by rw [Go.WideElems.findIdx_arr]; exact hidx
  simp [Instr.entryStore, MapKept.run_getObj_map hw, asInt, asIntOf, hidx2, MapKept.run_setObj_map _ hw, Result.andThen, Go.ChangeMaps.setBlock]
theorem zeroI (w : World) : (zeroValue 3).run Tryz.prog w = .ok (.int .i64 0) w := by
  have h : (Tryz.prog.info? 3).map (fun i => (i.zero, i.size, i.bytes)) = some (some (.int .i64 0), 1, 8) := by kernel_rfl
  obtain ⟨i, h1, h2, _, _⟩ := info_parts h;simp [zeroValue, typeInfo, h1, h2]
abbrev lookC (M : Nat) (p : Nat × Nat) : Sem Value := Instr.lookup 299 (.map (some M)) (keyV p) false
theorem look_none {w : World} {M : Nat} {p : Nat × Nat} {es : Array MapEntry} {clock : Nat} (hb : w.heap[M]? = some (.map es clock)) {l : Lit} (hk : keyOf Tryz.prog 301 (keyV p) = some l) (h1 : (Instr.findKey 301 (keyV p) es.toList).run Tryz.prog w = .ok none w) : (lookC M p).run Tryz.prog w = .ok (.int .i64 0) w := by
  simp [lookC, Instr.lookup, run_underlying Tryz.underlying299, MapKept.run_getObj_map hb, lawC.check w _ hk, h1, Result.andThen]
theorem look_some {w : World} {M : Nat} {p : Nat × Nat} {es : Array MapEntry} {clock : Nat} (hb : w.heap[M]? = some (.map es clock)) {l : Lit} (hk : keyOf Tryz.prog 301 (keyV p) = some l) {j : Nat} {v : Value} (h1 : (Instr.findKey 301 (keyV p) es.toList).run Tryz.prog w = .ok (some (j, v)) w) : (lookC M p).run Tryz.prog w = .ok v w := by
  simp [lookC, Instr.lookup, run_underlying Tryz.underlying299, MapKept.run_getObj_map hb, lawC.check w _ hk, h1, Result.andThen]
theorem setB_heap {w : World} {M : Nat} {o o' : Obj} (h : w.heap[M]? = some o) : (Go.ChangeMaps.setBlock w M o').heap[M]? = some o' := by
  have hl := (Array.getElem?_eq_some_iff.1 h).1;simp [Go.ChangeMaps.setBlock, hl]
theorem setB_same {w : World} {M : Nat} {o : Obj} (h : w.heap[M]? = some o) : Go.ChangeMaps.setBlock w M o = w := by
  have e : w.heap.setIfInBounds M o = w.heap := by
    apply Array.ext
    · simp
    · intro i h1 h2;rw [Array.getElem_setIfInBounds (by simpa using h1)];split
      · rename_i hi;subst hi;rw [Array.getElem?_eq_getElem (by simpa using h1)] at h;injection h with h;exact h.symm
      · rfl
  unfold Go.ChangeMaps.setBlock;rw [e]
theorem setB_grown (w : World) (M : Nat) (o' : Obj) : w.grownBy (Go.ChangeMaps.setBlock w M o') (some M) :=
  ⟨rfl, rfl, rfl, by simp [Go.ChangeMaps.setBlock], fun j _ hne => by
    have : M ≠ j := fun e => hne (by rw [e]);simp [Go.ChangeMaps.setBlock, this]⟩
/-- one content more -/
theorem con_step {w : World} {M : Nat} {S : List (Nat × Nat)} (h : ConOK w M S) (hb : ∀ q ∈ S, q.1 < 18446744073709551616 ∧ q.2 < 4294967296) (p : Nat × Nat) (h1 : p.1 < 18446744073709551616) (h2 : p.2 < 4294967296) :
    ∃ (n : Int) (st : Nat) (w1 : World), (lookC M p).run Tryz.prog w = .ok (.int .i64 n) w ∧ (lookC M p).run Tryz.prog w1 = .ok (.int .i64 n) w1 ∧ (Instr.mapEntry 299 (.map (some M)) (keyV p)).run Tryz.prog w = .ok (.tuple #[.int .i64 n, .int .i64 (st : Int)]) w1 ∧ w.grownBy w1 (some M) ∧
      ∀ v : Int, ∃ w3, (Instr.entryStore 299 (.map (some M)) (.int .i64 (st : Int)) (.int .i64 v)).run Tryz.prog w1 = .ok () w3 ∧ w1.grownBy w3 (some M) ∧ ConOK w3 M (if p ∈ S then S else S ++ [p]) := by
  obtain ⟨es, hm, hc⟩ := h;obtain ⟨l, hk⟩ := keyC p h1 h2;have hks := con_keys hc hb;have hs := con_size hc;have ht := Tryz.underlying299;rcases lawC.find w hk es.toList hks with ⟨f1, f2⟩ | ⟨j, e, f1, f2, f3⟩
  · have hn := con_not hc f2;have hp := con_push hc p 0;have hw1 := setB_heap (o' := .map (es.push ⟨keyV p, .int .i64 0, S.length⟩) (S.length + 1)) hm;have hks1 : ∀ e ∈ (es.push ⟨keyV p, .int .i64 0, S.length⟩).toList, ∃ l, keyOf Tryz.prog 301 e.key = some l := by
      intro e he;rw [Array.toList_push] at he;rcases List.mem_append.1 he with he | he
      · exact hks e he
      · simp at he; subst he; exact ⟨l, hk⟩
    refine ⟨0, S.length, _, look_none hm hk f1, ?_, ?_, setB_grown w M (.map (es.push ⟨keyV p, .int .i64 0, S.length⟩) (S.length + 1)), fun v => ?_⟩
    · rcases lawC.find (Go.ChangeMaps.setBlock w M (.map (es.push ⟨keyV p, .int .i64 0, S.length⟩) (S.length + 1))) hk _ hks1 with ⟨g1, g2⟩ | ⟨j, e, g1, g2, g3⟩
      · exact look_none hw1 hk g1
      · have he := List.mem_of_getElem? g2;rw [Array.toList_push] at he;have hv : e.val = .int .i64 0 := by
          rcases List.mem_append.1 he with he | he
          · exact absurd g3 (f2 e he)
          · simp at he; subst he; rfl
        rw [hv] at g1;exact look_some hw1 hk g1
    · simp [Instr.mapEntry, run_underlying ht, MapKept.run_getObj_map hm, lawC.check w false hk, f1, MapKept.run_setObj_map _ hm, Result.andThen, Go.ChangeMaps.setBlock, goInt]
    · refine ⟨_, con_store hp S.length (by simp) v _ hw1, setB_grown _ _ _, ?_⟩;rw [if_neg hn];exact ⟨_, by rw [setB_heap hw1, List.length_append]; rfl, con_mod hp S.length v⟩
  · have hmem := con_mem hc (List.mem_of_getElem? f2) f3;obtain ⟨hbj, n, hv⟩ := hc.2 j e f2;have hjl : j < S.length := by
      have := (List.getElem?_eq_some_iff.1 f2).1;simpa [hs] using this
    rw [hv] at f1;have hj : es[j]? = some e := by simpa using f2
    have hsame : es.modify j (fun e => { e with key := keyV p }) = es := by
      apply Array.ext';rw [Array.toList_modify];apply List.ext_getElem?;intro i;rw [List.getElem?_modify];by_cases hij : j = i
      · subst hij;rw [f2];show some (if j = j then _ else _) = _
        rw [if_pos rfl, ← f3]
      · cases es.toList[i]? <;> simp [hij]
    have hw1 := setB_heap (o' := .map es S.length) hm;refine ⟨n, j, _, look_some hm hk f1, ?_, ?_, setB_grown w M (.map es S.length), fun v => ?_⟩
    · rw [setB_same hm]; exact look_some hm hk f1
    · simp [Instr.mapEntry, run_underlying ht, MapKept.run_getObj_map hm, lawC.check w false hk, f1, hj, f3, lawC.stays w hk, hsame, MapKept.run_setObj_map _ hm, Result.andThen, Go.ChangeMaps.setBlock, goInt, hbj]
    · refine ⟨_, con_store hc j hjl v _ hw1, setB_grown _ _ _, ?_⟩;rw [if_pos hmem];exact ⟨_, setB_heap hw1, con_mod hc j v⟩
end Go.Proofs.YtbfieomjobbhoaaGreatDoor
/- Walk: entry.Contents. -/
namespace Go.Proofs.YtbfieomjobbhoaaGreatDoor
open Go.RowKit Go.Gz Go.Shelf

set_option maxRecDepth 100000
theorem con_up {w w' : World} {M : Nat} {S : List (Nat × Nat)} (h : ConOK w M S) (hu : Up w w') : ConOK w' M S := by
  obtain ⟨es, h1, h2⟩ := h;exact ⟨es, hu.obj h1, h2⟩
theorem seen_ok {l : Ents} (hok : ∀ e ∈ l, okE e) : ∀ q ∈ seenE l, q.1 < 18446744073709551616 ∧ q.2 < 4294967296 := by
  induction l using snoc_ind with
  | h0 => intro q hq; simp [seenE] at hq
  | h1 l e ih =>
    have ih := ih (fun x hx => hok x (by simp [hx]));have he := hok e (by simp);rw [seenE_snoc];split
    · split
      · exact ih
      · intro q hq;rcases List.mem_append.1 hq with hq | hq
        · exact ih q hq
        · simp at hq; subst hq; exact ⟨he.2.1, he.2.2.1⟩
    · exact ih
set_option maxHeartbeats 8000000 in
theorem conts_any (l : Ents) (hok : ∀ e ∈ l, okE e) (hl : l.length ≤ 1000) (A : Option Addr) (c : Nat) (w : World) (hr : Rd w 4 A l.length c (entV l)) :
    Calls Tryz.prog 124 #[.slice A l.length c] w fun e w' => e = .returned (.int .i64 (contE l : Nat)) ∧ Up w w' := by
  have MY := fun e he w => Lib.hid (may_any e (hok e he) w);have HR := Lib.hid hr;have HOK := Lib.hid hok;clear hr hok;have hmm := @run_makeMap Tryz.prog;go_enter Tryz.func124, Tryz.ntmps124;go_wp2_with fail;clear hmm;have hM0 : (w.alloc (.map #[] 0)).heap[w.heap.size]? = some (.map #[] 0) := heap_alloc_new w _;go_loopg [9] l.length (fun gk i wr => ∃ k : Nat, k + gk = l.length ∧ i = .int .i64 k ∧ ConOK wr w.heap.size (seenE (l.take k)) ∧ Up w wr)
  case atStart => exact ⟨0, by omega, rfl, ⟨#[], hM0, by simp [seenE], by intro i e he; simp at he⟩, (Up.refl w).alloc _⟩
  case round =>
    obtain ⟨k, hk, rfl, hc, hu⟩ := hrel;have HU := Lib.hid hu;have HC := Lib.hid hc;by_cases hlt : k < l.length
    · obtain ⟨m, rfl⟩ : ∃ m, gk = m + 1 := ⟨gk - 1, by omega⟩;obtain ⟨b, o, rfl, d0, d1, d2, d3⟩ := (HR.out.up hu).ent hlt;have hmem := List.getElem_mem hlt;have hst : seenE (l.take (k + 1)) = if chkE l[k] = 0 ∧ 0 < l[k].run then (if (l[k].off, l[k].len) ∈ seenE (l.take k) then seenE (l.take k) else seenE (l.take k) ++ [(l[k].off, l[k].len)]) else seenE (l.take k) := by
        rw [List.take_succ_eq_append_getElem hlt, seenE_snoc]
      have hoke := HOK.out l[k] hmem;have MX := fun w => Lib.hid (MY l[k] hmem w).out;have hsb := seen_ok (l := l.take k) (fun e he => HOK.out e (List.mem_of_mem_take he));generalize l[k] = e at *;generalize seenE (l.take k) = S at *;generalize hS2 : seenE (l.take (k + 1)) = S2 at *;have HS2 := Lib.hid hS2;have HST := Lib.hid hst;have hltI : (k : Int) < (l.length : Int) := by omega
      generalize chkE e = ck at *;obtain ⟨id, off, len, run⟩ := e;obtain ⟨q1, q2, q3, q4⟩ := hoke;simp only [entA] at *;have ne := new4 wr 84 (.int .u64 id) (.int .u64 off) (.int .u32 len) (.int .u32 run);have NE := Lib.hid ne;obtain ⟨nu, z0, z1, z2, z3⟩ := ne;clear hc hu hS2 hst MY nu hmem;by_cases hck : ck = 0
      · rw [decide_eq_true hck] at MX;by_cases hrn : 0 < run
        · have h3 := HST.out;rw [if_pos ⟨hck, hrn⟩] at h3;have H3 := Lib.hid h3;have bR : decide ((0 : Int) < (run : Int)) = true := decide_eq_true (by omega);have bR2 : decide (0 < run) = true := decide_eq_true hrn;clear h3 hck hrn;go_wp2_with fail;refine (MX _).out.mono ?_;rintro e w5 ⟨rfl, hu5⟩;have hu6 := NE.out.1.trans hu5;replace z0 := hu5.cell z0;replace z1 := hu5.cell z1;replace z2 := hu5.cell z2;replace z3 := hu5.cell z3;have hu7 := hu6.trans (Up.refl w5).drew;obtain ⟨n, st, w1, l1, l2, l3, hg1, hes⟩ := con_step (con_up HC.out hu7) hsb (off, len) q2 q3;obtain ⟨w3, l4, hg3, hc3⟩ := hes (IntKind.i64.wrap (n + 1));rw [← H3.out] at hc3;rw [← HS2.out] at hc3;have HC3 := Lib.hid hc3;have hMl : w.heap.size < wr.heap.size := by obtain ⟨es, h, _⟩ := HC.out; exact (Array.getElem?_eq_some_iff.1 h).1
          have hub := HU.out.trans hu7;have HU3 := Lib.hid (Up.of ((hub.below.grown hg1 hub.le (fun j e => by cases e; omega)).grown hg3 (Nat.le_trans hub.le hg1.size) (fun j e => by cases e; omega)));have x1 := ((Up.refl w5).drew).cell z1;have x2 := ((Up.refl w5).drew).cell z2;have hk1 : ∀ (p : Addr) (v : Value), p.block = wr.heap.size → w5.drew.cell? p = some v → w1.cell? p = some v := fun p v hp hv => by
            have hpl := World.block_lt_of_cell? _ _ hv;unfold World.cell? at hv ⊢;rw [hg1.block p.block hpl (by intro e; injection e with e; omega)];exact hv
          have hk3 : ∀ (p : Addr) (v : Value), p.block = wr.heap.size → w1.cell? p = some v → w3.cell? p = some v := fun p v hp hv => by
            have hpl := World.block_lt_of_cell? _ _ hv;unfold World.cell? at hv ⊢;rw [hg3.block p.block hpl (by intro e; injection e with e; omega)];exact hv
          have y1 := hk1 _ _ rfl x1;have y2 := hk1 _ _ rfl x2;have z1' := hk3 _ _ rfl y1;have z2' := hk3 _ _ rfl y2;simp only [lookC, keyV] at l1 l2 l3;clear hc3 hg1 hg3 hes hk1 hk3 hub hu5 hu6 hu7 HC NE H3 HS2 HST hMl;go_wp2_with fail;(try change Code.wp _ _ _ _ _);refine wp_region_held_drew (S := fun w' => w'.cell? ⟨wr.heap.size, 1, none⟩ = some (.int .u64 (off : Int)) ∧ w'.cell? ⟨wr.heap.size, 2, none⟩ = some (.int .u32 (len : Int))) (by kernel_rfl) ?_ (fun hHeld => ?_)
          · exact ⟨x1, x2⟩
          refine tk 0 rfl ?_;(try simp only [Act.put, tz1, tz2, tz3]);refine tk 1 rfl ?_;(try simp only [Act.put, tz1, tz2, tz3]);refine tk 2 rfl ?_;(try simp only [Act.put, tz1, tz2, tz3]);refine tk 3 rfl ?_;(try simp only [Act.put, tz1, tz2, tz3]);refine tk 4 rfl ?_;(try simp only [Act.put, tz1, tz2, tz3]);refine tk 5 rfl ?_;(try simp only [Act.put, tz1, tz2, tz3]);refine rd2 6 8 rfl rfl (fun K hK => ?_) (fun K hK => ?_);focus
            go_simp;refine hK.out _ _ ?_ (fun _ => ?_)
            · exact ⟨x1, x2⟩
            clear hK K;(try simp only [Act.put, tz1, tz2, tz3]);refine tk 7 rfl ?_;(try simp only [Act.put, tz1, tz2, tz3]);refine rd1 8 rfl (fun K hK => ?_);go_simp;refine hK.out _ _ ?_ (fun _ => ?_)
            · exact ⟨y1, y2⟩
            clear hK K;(try simp only [Act.put, tz1, tz2, tz3]);refine tk 9 rfl ?_
          rotate_left;focus
            go_simp;refine hK.out _ _ ?_ (fun _ => ?_)
            · exact ⟨y1, y2⟩
            clear hK K;(try simp only [Act.put, tz1, tz2, tz3]);refine tk 9 rfl ?_;(try simp only [Act.put, tz1, tz2, tz3]);refine rd1 6 rfl (fun K hK => ?_);go_simp;refine hK.out _ _ ?_ (fun _ => ?_)
            · exact ⟨y1, y2⟩
            clear hK K;(try simp only [Act.put, tz1, tz2, tz3]);refine tk 7 rfl ?_
          rotate_left;all_goals
            (try simp only [Act.put, tz1, tz2, tz3]);refine rd1 10 rfl (fun K hK => ?_);go_simp;refine hK.out _ _ ?_ (fun _ => ?_)
            · exact ⟨z1', z2'⟩
            clear hK K;(try simp only [Act.put, tz1, tz2, tz3]);refine wpAnyH_done (by kernel_rfl) ?_ _;go_wp2_with fail;go_roundg m
            case measure => omega
            case rel => exact ⟨k + 1, by omega, by go_num, HC3.out, HU3.out⟩
        · have h3 := HST.out;rw [if_neg (by omega)] at h3;have H3 := Lib.hid h3;obtain rfl : run = 0 := by omega
          clear h3 hck hrn;go_wp2_with fail;refine (MX _).out.mono ?_;rintro e w5 ⟨rfl, hu5⟩;have hu6 := NE.out.1.trans hu5;have z3' := hu5.cell z3;go_wp2_with fail;go_roundg m
          case measure => omega
          case rel => exact ⟨k + 1, by omega, by go_num, by rw [HS2.out, H3.out]; exact con_up HC.out hu6, HU.out.trans hu6⟩
      · rw [decide_eq_false hck] at MX;have h3 := HST.out;rw [if_neg (fun h => hck h.1)] at h3;have H3 := Lib.hid h3;clear h3 hck;go_wp2_with fail;refine (MX _).out.mono ?_;rintro e w5 ⟨rfl, hu5⟩;have hu6 := NE.out.1.trans hu5;go_wp2_with fail;go_roundg m
        case measure => omega
        case rel => exact ⟨k + 1, by omega, by go_num, by rw [HS2.out, H3.out]; exact con_up HC.out hu6, HU.out.trans hu6⟩
    · obtain rfl : k = l.length := by omega
      obtain rfl : gk = 0 := by omega
      have hc2 := HC.out;rw [List.take_length] at hc2;obtain ⟨es, h1, h2⟩ := hc2;have hsz := con_size h2;show _
      have hlen : (Builtin.len_ #[299] 3 #[.map (some w.heap.size)]).run Tryz.prog wr = .ok (.int .i64 (contE l : Nat)) wr := by
        rw [show contE l = es.size from hsz.symm];simp [Builtin.len_, MapKept.run_getObj_map h1, run_underlying Tryz.underlying299, Result.andThen, goInt]
      clear hlt hc HC h1 h2 hsz;go_wp2_with fail;go_ret;exact ⟨rfl, HU.out⟩
end Go.Proofs.YtbfieomjobbhoaaGreatDoor
