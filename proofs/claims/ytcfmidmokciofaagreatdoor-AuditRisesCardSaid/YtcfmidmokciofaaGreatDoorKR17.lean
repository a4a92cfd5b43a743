/- Walks: maps.Keys, its iterator, slices.AppendSeq, slices.Collect: the keys of the audit's two maps, each once, in some order. -/
import Derived.Test.YtcfmidmokciofaaGreatDoorKR07
import Derived.Test.YtcfmidmokciofaaGreatDoorKR04
import Derived.Test.YtcfmidmokciofaaGreatDoorKR16
import Derived.Test.YtcfmidmokciofaaGreatDoorKR14
import Derived.Maps.OwnIn
import Derived.DeepKeys4
import Derived.WideKeyEntry
import Derived.Sort.MapsRangeIn
import Derived.Sort.KeysCollected
import Derived.Sort.WalkA
import Derived.Test.YtcfmidmokciofaaGreatDoorShelf
namespace Go.Proofs.YtcfmidmokciofaaGreatDoor
open Go.RowKit Go.Gz Go.Maps Go.Shelf
set_option maxRecDepth 100000
attribute [local go_sem] Oper.semAt_some
/-- the keys of the map in block b -/
def MapK (w : World) (b : Nat) (KS : List Value) : Prop := ∃ es clock, w.heap[b]? = some (.map es clock) ∧ KS = es.toList.map (fun e => e.key)
def okV (KS pre : List Value) (x : Value) : Prop := (pre.Nodup ∧ ∀ y ∈ pre, y ∈ KS) ∧ x ∈ KS ∧ x ∉ pre
def finV (KS ss : List Value) : Prop := ss.Nodup ∧ ∀ x, x ∈ ss ↔ x ∈ KS
/-- what has come so far -/
structure CollV (P : Program) (k : TypeId) (KS : List Value) (left : Lit → Bool) (ss : List Value) : Prop where
  nd : ss.Nodup
  sub : ∀ x ∈ ss, x ∈ KS ∧ ∃ kl, keyOf P k x = some kl ∧ left kl = false
  rest : ∀ x ∈ KS, x ∈ ss ∨ ∀ kl, keyOf P k x = some kl → left kl = true
theorem CollV.step {P : Program} {k : TypeId} (K : Keyed P k) {KS : List Value} {left : Lit → Bool} {ss : List Value} (h : CollV P k KS left ss) {x : Value} {kl : Lit} (hk : keyOf P k x = some kl) (hl : left kl = true) (hx : x ∈ KS) :
    x ∉ ss ∧ CollV P k KS (fun z => left z && !z.sameKey kl) (ss ++ [x]) := by
  have hn : x ∉ ss := fun e => by
    obtain ⟨_, kl', h1, h2⟩ := h.sub x e;rw [hk] at h1;injection h1 with h1;subst h1;rw [hl] at h2;cases h2
  refine ⟨hn, ?_, fun y hy => ?_, fun y hy => ?_⟩
  · rw [List.nodup_append];exact ⟨h.nd, List.pairwise_singleton _ _, fun a ha b hb e => by simp at hb; subst hb; subst e; exact hn ha⟩
  · rw [List.mem_append, List.mem_singleton] at hy;rcases hy with hy | rfl
    · obtain ⟨h1, kl', h2, h3⟩ := h.sub y hy;exact ⟨h1, kl', h2, by simp [h3]⟩
    · exact ⟨hx, kl, hk, by simp [WideAt.sameKey_self (K.key hk)]⟩
  · by_cases e : y = x
    · left; simp [e]
    · rcases h.rest y hy with h1 | h1
      · left; simp [h1]
      · right;intro kl' hk';have hne : ¬ kl'.sameKey kl = true := fun hs => e (K.inj ((WideAt.sameKey_iff (K.key hk)).1 hs ▸ hk') hk);simp [h1 kl' hk', hne]
section
variable {P : Program} {k : TypeId} {R : Value → Option (DataW Unit × List MemPlace)} {w : World} {b n r cnt : Nat} {D : DataW Unit} {KS : List Value} {left : Lit → Bool}
theorem mapK_keys (h : w.ownsMap P k R b n D) (K : Keyed P k) (hM : MapK w b KS) : ∀ x ∈ KS, ∃ kl, keyOf P k x = some kl ∧ has D kl = true := by
  obtain ⟨es, clock, hb, F, hs, rfl⟩ := h;obtain ⟨es', clock', hb', rfl⟩ := hM;rw [hb] at hb';injection hb' with hb';injection hb' with hb' _;subst hb';intro x hx;obtain ⟨e, he, rfl⟩ := List.mem_map.1 hx;obtain ⟨y, hy⟩ := F.reads e he;refine ⟨_, WideElems.rd_key hy, ?_⟩;exact List.any_eq_true.2 ⟨WideElems.rg P k R e, mem_sorted.2 (List.mem_map.2 ⟨e, he, rfl⟩), by rw [WideElems.rg_of hy]; exact WideAt.sameKey_self (K.key (WideElems.rd_key hy))⟩
theorem mapK_left (h : w.ranges P k R b r n D left cnt) (K : Keyed P k) (hM : MapK w b KS) {x : Value} {kl : Lit} (hk : keyOf P k x = some kl) (hl : left kl = true) : x ∈ KS := by
  obtain ⟨es, clock, since, seen, c0, hb, F, _, _, _, _, _, _, hex, _⟩ := h;obtain ⟨es', clock', hb', rfl⟩ := hM;rw [hb] at hb';injection hb' with hb';injection hb' with hb' _;subst hb';obtain ⟨e, he, hek⟩ := hex kl hl;obtain ⟨y, hy⟩ := F.reads e he;rw [WideElems.rg_of hy] at hek;have := WideElems.rd_key hy;rw [hek] at this;exact List.mem_map.2 ⟨e, he, K.inj this hk⟩
theorem mapK_iter (h : w.ranges P k R b r n D left cnt) : ∃ m since seen c0, w.heap[r]? = some (Obj.mapIter m since seen c0) := by
  obtain ⟨es, clock, since, seen, c0, hb, F, _, _, hit, _⟩ := h;exact ⟨_, _, _, _, hit⟩
theorem mapK_kept {w' : World} {row : Option Nat} (h : MapK w b KS) (g : w.grownBy w' row) (hne : some b ≠ row) : MapK w' b KS := by
  obtain ⟨es, clock, hb, e⟩ := h;exact ⟨es, clock, (g.block b (Array.getElem?_eq_some_iff.1 hb).1 hne).trans hb, e⟩
theorem mapK_walks {w' : World} (h : MapK w b KS) (g : KeepsWalks w w') : MapK w' b KS := by
  obtain ⟨es, clock, hb, e⟩ := h;exact ⟨es, clock, g.same b _ hb rfl, e⟩
end
theorem lawPl : Keyed Tryz.prog 169 := by
  have h : decide (169 < Tryz.prog.types.size) = true := by kernel_rfl
  exact Keyed.of_law (deep_law_laid (m := 3) (by kernel_rfl) (by omega) (of_decide_eq_true h) (by kernel_rfl) (by kernel_rfl))

theorem mk8_any (mb : Option Nat) (w : World) :
    Calls Tryz.prog 36 #[.map mb] w fun e w' => e = .returned (.func (.func 87) #[] #[.pointer (some ⟨w.heap.size, 0, none⟩)]) ∧ w' = w.alloc (.cells #[.map mb] 80) := by
  go_enter Tryz.func36, Tryz.ntmps36;go_wp2_with fail;go_ret;exact ⟨rfl, rfl⟩
set_option maxHeartbeats 4000000 in
/-- THE KEYS COME, EACH ONCE, IN SOME ORDER -/
theorem mk8_all (n : Nat) (hn : 1 ≤ n) (R : Value → Option (DataW Unit × List MemPlace)) (Bm b nn : Nat) (D : DataW Unit) (KS : List Value) (w : World) (hm : w.cell? ⟨Bm, 0, none⟩ = some (.map (some b))) (hown : w.ownsMap Tryz.prog 5 R b nn D) (hKS : MapK w b KS) (hsh : ∀ x ∈ KS, ∃ a : Int, x = .int .u8 a) :
    SeqSet Fence.wide n Tryz.prog 87 #[.pointer (some ⟨Bm, 0, none⟩)] (fun x : Value => #[x]) KeepsWalks (okV KS) (finV KS) w := by
  intro lp J W hu hJ hI hY h0;have hmW := hu.cell hm;have hownW := hown.kept (row := none) ⟨hu.os, hu.tape, hu.output, hu.size, fun q hq _ => hu.block hq⟩ (by simp);have hKW : MapK W b KS := by
    obtain ⟨es, clock, h1, h2⟩ := hKS;exact ⟨es, clock, hu.obj h1, h2⟩
  have HK := Lib.hid hKW;clear hKW hKS hm hown;refine callsIn_of_wp Tryz.func87 rfl trivial ?_ rfl;simp only [Tryz.ntmps87, List.size_toArray, List.length_cons, List.length_nil, Nat.reduceAdd, Nat.reduceSub, Array.replicate_succ, Array.replicate_zero, List.push_toArray, List.append_toArray, List.nil_append, List.cons_append]
  gi_wp2_with (first
    | (gi_at_range; refine wpListIn_range_own _ rfl _ 80 rfl 5 3 lawU8 Tryz.underlying80 _ b nn _ rfl hownW ?_; intro w0 hrg0 hg0 hs0)
    | gi_in)
  have hu0 : Up W w0 := ⟨hg0.os, hg0.tape, hg0.output, hg0.size, fun k hk => hg0.block k hk (by simp)⟩
  gi_loopw [3] (fun _ wr => ∃ (left : Lit → Bool) (cnt : Nat) (ss : List Value), wr.ranges Tryz.prog 5 R b W.heap.size nn D left cnt ∧ CollV Tryz.prog 5 KS left ss ∧ MapK wr b KS ∧ J ss wr)
    (fun _ wr => wr.rangeLeft b W.heap.size)
  case atStart => exact ⟨_, _, [], hrg0, ⟨List.nodup_nil, fun x hx => by simp at hx, fun x hx => .inr fun kl hk => by
      obtain ⟨kl', h1, h2⟩ := mapK_keys hownW lawU8 HK.out x hx;rw [hk] at h1; injection h1 with h1; subst h1; exact h2⟩, mapK_kept HK.out hg0 (by simp), hJ _ _ _ h0 hu0⟩
  case round =>
    obtain ⟨left, cnt, ss, hrg, hC, hM, hJs⟩ := hrel
    gi_wp2_with (first
      | (gi_at_next; refine wpListIn_next_ranges _ rfl _ rfl 5 lawU8 R (id : Value → Value) (id : Value → Value) (fun key kl hk => ⟨key, rfl⟩) (fun v _ _ => ⟨v, rfl⟩) b W.heap.size nn _ _ _ rfl hrg ?_ ?_)
      | gi_in)
    · intro hc0 hl0;gi_wp2;go_end0
      refine ⟨⟨_, rfl⟩, ss, ⟨hC.nd, fun x => ⟨fun hx => (hC.sub x hx).1, fun hx => ?_⟩⟩, hJs⟩;rcases hC.rest x hx with h | h
      · exact h
      · obtain ⟨kl, h1, _⟩ := mapK_keys hrg.owns lawU8 hM x hx;have := h kl h1;rw [hl0 kl] at this;cases this
    · intro x c kl yd yp w2 cnt2 hkey hlk hv hat hrg2 hlt hg2 hs2 hen;have hxK := mapK_left hrg lawU8 hM hkey hlk;obtain ⟨hxn, hC2⟩ := hC.step lawU8 hkey hlk hxK;obtain ⟨xa, rfl⟩ := hsh x hxK;obtain ⟨m0, si0, se0, c00, hit⟩ := mapK_iter hrg;have hJ2 : J ss w2 := hI ss wr w2 W.heap.size m0 si0 se0 c00 hJs (Nat.le_refl _) hit hg2;have hM2 := mapK_kept hM hg2 (by simp only [ne_eq, Option.some.injEq]; exact fun e => hrg.ne e.symm);skip
      obtain ⟨fn, tmps, assign, body, hy, hR⟩ := hY ss _ _ ⟨⟨hC.nd, fun y hy => (hC.sub y hy).1⟩, hxK, hxn⟩ hJ2;clear hs2;gi_wp2;refine hR.mono ?_;rintro e W3 ⟨rfl, hJ3, hk3⟩;gi_wp2;have hrg3 := hrg2.of_walks hk3;go_roundw
      case rel => exact ⟨_, cnt2, _, hrg3, hC2, mapK_walks hM2 hk3, hJ3⟩
      case measure => rw [hrg3.left_eq, hrg.left_eq]; exact hlt
theorem mkP_any (mb : Option Nat) (w : World) :
    Calls Tryz.prog 81 #[.map mb] w fun e w' => e = .returned (.func (.func 134) #[] #[.pointer (some ⟨w.heap.size, 0, none⟩)]) ∧ w' = w.alloc (.cells #[.map mb] 166) := by
  go_enter Tryz.func81, Tryz.ntmps81;go_wp2_with fail;go_ret;exact ⟨rfl, rfl⟩
set_option maxHeartbeats 4000000 in
/-- THE KEYS COME, EACH ONCE, IN SOME ORDER -/
theorem mkP_all (n : Nat) (hn : 1 ≤ n) (R : Value → Option (DataW Unit × List MemPlace)) (Bm b nn : Nat) (D : DataW Unit) (KS : List Value) (w : World) (hm : w.cell? ⟨Bm, 0, none⟩ = some (.map (some b))) (hown : w.ownsMap Tryz.prog 169 R b nn D) (hKS : MapK w b KS) (hsh : ∀ x ∈ KS, ∃ a c : Int, x = .agg #[.int .u64 a, .int .u32 c]) :
    SeqSet Fence.wide n Tryz.prog 134 #[.pointer (some ⟨Bm, 0, none⟩)] (fun x : Value => #[x]) KeepsWalks (okV KS) (finV KS) w := by
  intro lp J W hu hJ hI hY h0;have hmW := hu.cell hm;have hownW := hown.kept (row := none) ⟨hu.os, hu.tape, hu.output, hu.size, fun q hq _ => hu.block hq⟩ (by simp);have hKW : MapK W b KS := by
    obtain ⟨es, clock, h1, h2⟩ := hKS;exact ⟨es, clock, hu.obj h1, h2⟩
  have HK := Lib.hid hKW;clear hKW hKS hm hown;refine callsIn_of_wp Tryz.func134 rfl trivial ?_ rfl;simp only [Tryz.ntmps134, List.size_toArray, List.length_cons, List.length_nil, Nat.reduceAdd, Nat.reduceSub, Array.replicate_succ, Array.replicate_zero, List.push_toArray, List.append_toArray, List.nil_append, List.cons_append]
  gi_wp2_with (first
    | (gi_at_range; refine wpListIn_range_own _ rfl _ 166 rfl 169 3 lawPl Tryz.underlying166 _ b nn _ rfl hownW ?_; intro w0 hrg0 hg0 hs0)
    | gi_in)
  have hu0 : Up W w0 := ⟨hg0.os, hg0.tape, hg0.output, hg0.size, fun k hk => hg0.block k hk (by simp)⟩
  gi_loopw [3] (fun _ wr => ∃ (left : Lit → Bool) (cnt : Nat) (ss : List Value), wr.ranges Tryz.prog 169 R b W.heap.size nn D left cnt ∧ CollV Tryz.prog 169 KS left ss ∧ MapK wr b KS ∧ J ss wr)
    (fun _ wr => wr.rangeLeft b W.heap.size)
  case atStart => exact ⟨_, _, [], hrg0, ⟨List.nodup_nil, fun x hx => by simp at hx, fun x hx => .inr fun kl hk => by
      obtain ⟨kl', h1, h2⟩ := mapK_keys hownW lawPl HK.out x hx;rw [hk] at h1; injection h1 with h1; subst h1; exact h2⟩, mapK_kept HK.out hg0 (by simp), hJ _ _ _ h0 hu0⟩
  case round =>
    obtain ⟨left, cnt, ss, hrg, hC, hM, hJs⟩ := hrel
    gi_wp2_with (first
      | (gi_at_next; refine wpListIn_next_ranges _ rfl _ rfl 169 lawPl R (id : Value → Value) (id : Value → Value) (fun key kl hk => ⟨key, rfl⟩) (fun v _ _ => ⟨v, rfl⟩) b W.heap.size nn _ _ _ rfl hrg ?_ ?_)
      | gi_in)
    · intro hc0 hl0;gi_wp2;go_end0
      refine ⟨⟨_, rfl⟩, ss, ⟨hC.nd, fun x => ⟨fun hx => (hC.sub x hx).1, fun hx => ?_⟩⟩, hJs⟩;rcases hC.rest x hx with h | h
      · exact h
      · obtain ⟨kl, h1, _⟩ := mapK_keys hrg.owns lawPl hM x hx;have := h kl h1;rw [hl0 kl] at this;cases this
    · intro x c kl yd yp w2 cnt2 hkey hlk hv hat hrg2 hlt hg2 hs2 hen;have hxK := mapK_left hrg lawPl hM hkey hlk;obtain ⟨hxn, hC2⟩ := hC.step lawPl hkey hlk hxK;obtain ⟨xa, xc, rfl⟩ := hsh x hxK;obtain ⟨m0, si0, se0, c00, hit⟩ := mapK_iter hrg;have hJ2 : J ss w2 := hI ss wr w2 W.heap.size m0 si0 se0 c00 hJs (Nat.le_refl _) hit hg2;have hM2 := mapK_kept hM hg2 (by simp only [ne_eq, Option.some.injEq]; exact fun e => hrg.ne e.symm);replace hJ2 := hJ _ _ _ hJ2 ((Up.refl w2).alloc (.cells #[.int .u64 xa, .int .u32 xc] 169));replace hM2 := mapK_kept hM2 (World.grownBy_alloc w2 (.cells #[.int .u64 xa, .int .u32 xc] 169) none) (by simp);replace hrg2 := hrg2.alloc (.cells #[.int .u64 xa, .int .u32 xc] 169);obtain ⟨fn, tmps, assign, body, hy, hR⟩ := hY ss _ _ ⟨⟨hC.nd, fun y hy => (hC.sub y hy).1⟩, hxK, hxn⟩ hJ2;clear hs2;gi_wp2;refine hR.mono ?_;rintro e W3 ⟨rfl, hJ3, hk3⟩;gi_wp2;have hrg3 := hrg2.of_walks hk3;go_roundw
      case rel => exact ⟨_, cnt2, _, hrg3, hC2, mapK_walks hM2 hk3, hJ3⟩
      case measure => rw [hrg3.left_eq, hrg.left_eq]; exact hlt
end Go.Proofs.YtcfmidmokciofaaGreatDoor
/- Walks: slices.AppendSeq, slices.Collect: the keys of the audit's two maps, each once, in some order. -/
namespace Go.Proofs.YtcfmidmokciofaaGreatDoor
open Go.RowKit Go.Gz Go.Maps Go.Shelf
set_option maxRecDepth 100000
attribute [local go_sem] Oper.semAt_some
def cellsV : Value → List Value
  | .agg vs => vs.toList
  | v => [v]
/-- what stands in the round -/
def CoR (w : World) (tS e : TypeId) (sz : Nat) (ss : List Value) (W : World) : Prop := ∃ v, W.heap[w.heap.size]? = some (.cells #[v] tS (0, 0)) ∧ W.ownsRow (w.heap.size + 3) e sz v ss.length (ss.flatMap cellsV) ∧ Up w W
theorem coR_up {w : World} {tS e : TypeId} {sz : Nat} {ss : List Value} {W W' : World} (h : CoR w tS e sz ss W) (hu : Up W W') : CoR w tS e sz ss W' := by
  obtain ⟨v, g1, g2, g3⟩ := h;exact ⟨v, hu.obj g1, own_up g2 hu, g3.trans hu⟩
theorem coR_grown {w : World} {tS e : TypeId} {sz : Nat} {ss : List Value} {W W' : World} {r : Nat} (h : CoR w tS e sz ss W) (hg : W.grownBy W' (some r)) (h1 : w.heap.size + 1 ≤ r) (hr : ∀ v : Value, W.ownsRow (w.heap.size + 3) e sz v ss.length (ss.flatMap cellsV) → v.ownBlock ≠ some r) : CoR w tS e sz ss W' := by
  obtain ⟨v, g1, g2, g3⟩ := h;refine ⟨v, (hg.block _ (Array.getElem?_eq_some_iff.1 g1).1 (by intro e; injection e with e; omega)).trans g1, g2.kept hg ?_, Up.of (g3.below.grown hg g3.le (fun j e => by cases e; omega))⟩;cases hv : v.ownBlock with
  | none => exact .inl rfl
  | some g => exact .inr (fun e => hr v g2 (hv.trans e))
theorem own_walk {W : World} {b : Nat} {e : TypeId} {sz n : Nat} {v : Value} {xs : List Value} (h : W.ownsRow b e sz v n xs) {r : Nat} {o : Obj} (hr : W.heap[r]? = some o) (ho : o.isCells = false) : v.ownBlock ≠ some r := by
  intro hv;rcases h.2 with ⟨rfl, _⟩ | ⟨g, cap, cur, rfl, _, hh, _⟩
  · cases hv
  · injection hv with hv;have hv : g = r := hv;subst hv;rw [hh] at hr;injection hr with hr;subst hr;cases ho
theorem kw_up {W W' : World} (h : Up W W') : KeepsWalks W W' := ⟨h.le, fun _ _ hk _ => h.obj hk⟩
/-- 'append(s, x)' onto a slice of the call's own, in a round: maps and their iterators stay -/
theorem app_oneK {F : Fence} {nF : Nat} {P : Program} (w : World) {ops : Array Oper} {rest : List Oper} {o : Oper} {a : Act} {Q : Exit → Act → World → Prop} (hgd : o.guard = none) (s x : Operand) (t : TypeId)
    (ho : o.op = .call { callee := .builtin .append, args := #[s, x], argTypes := #[t, t] })
    (base : Nat) (e : TypeId) (i : TypeInfo) (z : Value) (size bytes : Nat) (ht : P.underlying t = some (.slice e)) (hi : P.info? e = some i) (hz : i.zero = some z)
    (hsize : i.size = size) (hby : i.bytes = bytes) (hzs : z.cells.size = size) (hsz : 0 < size)
    (v : Value) (n : Nat) (xs : List Value) (hown : w.ownsRow base e size v n xs) (hs : a.eval s = v)
    (cs : Array Value) (hx : a.eval x = .slice (some ⟨w.heap.size, 0, none⟩) 1 1) (hcs : cs.size = size) (h1 : ∀ u ∈ cs.toList, u.oneCell' = true)
    (hn : n + 1 ≤ 1000000) (hb1 : bytes ≤ 1000) (hbase : base ≤ w.heap.size)
    (h : ∀ g' cap' w', w'.ownsRow base e size (.slice (some ⟨g', 0, none⟩) (n + 1) cap') (n + 1) (xs ++ cs.toList) → base ≤ g' → Below base w w' → KeepsWalks w w' → wpListIn F nF P ops Q rest (a.put o.dst (.slice (some ⟨g', 0, none⟩) (n + 1) cap')) w') :
    wpListIn F nF P ops Q (o :: rest) a (w.alloc (.cells cs e)) := by
  have hle : (n + 1) * bytes ≤ 140737488355328 := by
    have := Nat.mul_le_mul hn hb1; omega
  refine wpListIn_append_own _ hgd s x t ho base e i z size bytes ht hi hz hsize hby hzs hsz v n xs hs (hown.alloc _) ⟨w.heap.size, 0, none⟩ 1 1 cs.toList hx (by simpa using hcs) ?_ h1 (by unfold maxLen; omega) hle (by simp; omega) ?_
  · intro j u hu;have hadd : (⟨w.heap.size, 0, none⟩ : Addr).add j = ⟨w.heap.size, j, none⟩ := by unfold Addr.add; split <;> simp_all
    rw [hadd, cell_of_row _ w.heap.size j cs e (0, 0) (heap_alloc_new w _)];simpa using hu
  · intro v' w' h2 h3 _;have hg : w.grownBy w' v.ownBlock := ⟨h3.os, h3.tape, h3.output, Nat.le_trans (by simp) h3.size, fun k hk hne => (h3.block k (by simp; omega) hne).trans (Below.heap_alloc w _ k hk)⟩;obtain ⟨g', cap', rfl⟩ := ownsRow_succ h2;have hg' : base ≤ g' := (h2.lt g' rfl).1;refine h g' cap' w' h2 hg' ((Below.refl base w).grown hg hbase (fun k hk => (hown.lt k hk).1)) ⟨hg.size, fun k ob hk hw => (hg.block k (Array.getElem?_eq_some_iff.1 hk).1 (fun e => ?_)).trans hk⟩;refine absurd e.symm (own_walk hown hk ?_);cases ob <;> first | rfl | cases hw
/-- the keys that were collected -/
def ColE (w : World) (e : TypeId) (sz : Nat) (KS : List Value) (en : Ending) (w' : World) : Prop := ∃ A c ss, en = .returned (.slice A ss.length c) ∧ finV KS ss ∧ w'.ownsRow w.heap.size e sz (.slice A ss.length c) ss.length (ss.flatMap cellsV) ∧ Up w w'

theorem info8 : (Tryz.prog.info? 5).map (fun i => (i.zero, i.size, i.bytes)) = some (some (.int .u8 0), 1, 1) := by kernel_rfl
set_option maxHeartbeats 16000000 in
theorem apq8_any (R : Value → Option (DataW Unit × List MemPlace)) (Bm b nn : Nat) (D : DataW Unit) (KS : List Value) (hlen : KS.length ≤ 900000) (w : World) (hm : w.cell? ⟨Bm, 0, none⟩ = some (.map (some b))) (hown : w.ownsMap Tryz.prog 5 R b nn D) (hKS : MapK w b KS) (hsh : ∀ x ∈ KS, ∃ a : Int, x = .int .u8 a) :
    Calls Tryz.prog 138 #[.slice none 0 0, .func (.func 87) #[] #[.pointer (some ⟨Bm, 0, none⟩)]] w (ColE w 5 1 KS) := by
  obtain ⟨i0, hi, hz0, hz1, hz2⟩ := info_parts info8;refine (callsIn_wide (n := 3)).1 ?_;refine callsIn_of_wp_marks Tryz.func138 rfl trivial ?_ rfl;simp only [Tryz.ntmps138, List.size_toArray, List.length_cons, List.length_nil, Nat.reduceAdd, Nat.reduceSub, Array.replicate_succ, Array.replicate_zero, List.push_toArray, List.append_toArray, List.nil_append, List.cons_append];gi_wp2;have hu1 := (Up.refl w).alloc (.cells #[.slice none 0 0] 44);have hq := heap_alloc_new w (.cells #[.slice none 0 0] 44);have hI0 : CoR w 44 5 1 [] (w.alloc (.cells #[.slice none 0 0] 44)) := ⟨_, hq, World.ownsRow_nil _ _ _ _, hu1⟩;have hKS1 : MapK (w.alloc (.cells #[.slice none 0 0] 44)) b KS := mapK_kept hKS (World.grownBy_alloc w _ none) (by simp);have HW0 := Lib.hid (show (w.alloc (.cells #[.slice none 0 0] 44)).heap.size = w.heap.size + 1 by simp)
  refine wpIn_rangeFunc_set rfl (by omega) (gf := 87) (lb := #[.pointer (some ⟨Bm, 0, none⟩)]) rfl trivial (enters_of Tryz.func87 (by kernel_rfl) rfl)
    (mk8_all 2 (by omega) R Bm b nn D KS _ (hu1.cell hm) (hown.alloc _) hKS1 hsh) KeepsWalks.trans (fun W k o o' _ _ ho hw _ => KeepsWalks.putObj o' ho hw) (fun _ => rfl)
    (fun ss W => CoR w 44 5 1 ss W)
    (fun s W k o' h1 h2 hc hI => ?i1) (fun s W W' hI hu => coR_up hI hu) (fun s W W' r m since seen c0 hI h1 hr hg => ?i3)
    hI0 (fun x a2 _ => a2 = { tmps := (.slice none 0 0 :: .func (.func 87) #[] #[.pointer (some ⟨Bm, 0, none⟩)] :: .pointer (some ⟨w.heap.size, 0, none⟩) :: undef :: .slice none 0 0 :: x :: .func (.func 87) #[] #[.pointer (some ⟨Bm, 0, none⟩)] :: x :: undef :: undef :: undef :: undef :: undef :: []).toArray, defers := [] })
    (fun x a2 W k o' h1 h2 hc h => h) kw_up ?assign ?body ?done
  case i1 =>
    rw [HW0.out] at h1 h2;obtain ⟨o, ho, hoc⟩ := hc;exact coR_grown hI (grownBy_putObj' W k o') h1 (fun v hv => own_walk hv ho hoc)
  case i3 =>
    rw [HW0.out] at h1;exact coR_grown hI hg (by omega) (fun v hv => own_walk hv hr rfl)
  case assign =>
    intro lp pre x W K hx hK;have hK2 := hK _ _ (Up.refl W) rfl;gi_wp2;exact hK2
  case body =>
    rintro lp pre x a2 W hx hI haf hsz;rw [HW0.out] at hsz ⊢;subst haf;obtain ⟨xa, rfl⟩ := hsh x hx.2.1;have hpl : pre.length ≤ 900000 := Nat.le_trans (List.Nodup.length_le_of_subset hx.1.1 hx.1.2) hlen;obtain ⟨v, g1, g2, g3⟩ := hI;obtain ⟨c1, f1⟩ := blk_one g1;obtain ⟨A3, c3, rfl, _⟩ := Rd.of_own g2;have G1 := Lib.hid g1;have G2 := Lib.hid g2;have G3 := Lib.hid g3;clear g1 g2 g3 hq hI0 hKS1 HW0;gi_wp2_with (gi_at_builtin; refine app_oneK W rfl _ _ 44 rfl (w.heap.size + 3) 5 i0 _ 1 1 Tryz.underlying44 hi hz0 hz1 hz2 rfl (by decide) _ _ _ G2.out rfl #[.int .u8 xa] rfl rfl (by simp [Value.oneCell']) (by omega) (by omega) (by omega) ?_; intro g' cap' w6 ho6 hg0 hb6 hk6; have g46 := (hb6.block w.heap.size (by omega)).trans G1.out; obtain ⟨c46, f46⟩ := blk_one g46)
    refine ⟨fun j h1 h2 => (Below.heap_setCell w6 ⟨w.heap.size, 0, none⟩ _ j (by simp; omega)).trans (hb6.block j (by omega)), hk6.trans (KeepsWalks.setCell w6 _ _), _, heap_setCell_same w6 w.heap.size 0 _ _ _ g46, ?_, Up.set (G3.out.base (base := w.heap.size + 3) (by omega) hb6) (Nat.le_refl _) _⟩;rw [List.length_append, List.flatMap_append];exact ho6.kept (grown_set w6 w.heap.size _) (.inr (by intro e; injection e with e; have e : g' = w.heap.size := e; omega))
  case done =>
    rintro ss W hfin hI hD;rw [HW0.out] at hD ⊢;obtain ⟨v, g1, g2, g3⟩ := hI;obtain ⟨A3, c3, rfl, _⟩ := Rd.of_own g2;obtain ⟨c1, f1⟩ := blk_one g1;have G2 := Lib.hid g2;have G3 := Lib.hid g3;have HF := Lib.hid hfin;clear g1 g2 g3 hq hI0 hKS1 HW0 hfin;gi_wp2;refine ⟨by simp, .inl ⟨_, _, rfl, run_takeDeferred hD, ?_⟩⟩;refine ⟨.slice A3 ss.length c3, by simp [results, Tryz.results138, go_sem], A3, c3, ss, rfl, HF.out, ?_, ?_⟩
    · refine (own_low' G2.out (by omega)).kept (grownBy_putObj' _ _ _) ?_;cases hv : (Value.slice A3 ss.length c3).ownBlock with
      | none => exact .inl rfl
      | some q => exact .inr (fun e => own_walk G2.out hD rfl (hv.trans e))
    · exact Up.of (G3.out.below.grown (grownBy_putObj' _ _ _) G3.out.le (fun j e => by cases e; omega))
theorem col8_any (R : Value → Option (DataW Unit × List MemPlace)) (Bm b nn : Nat) (D : DataW Unit) (KS : List Value) (hlen : KS.length ≤ 900000) (w : World) (hm : w.cell? ⟨Bm, 0, none⟩ = some (.map (some b))) (hown : w.ownsMap Tryz.prog 5 R b nn D) (hKS : MapK w b KS) (hsh : ∀ x ∈ KS, ∃ a : Int, x = .int .u8 a) :
    Calls Tryz.prog 85 #[.func (.func 87) #[] #[.pointer (some ⟨Bm, 0, none⟩)]] w (ColE w 5 1 KS) := by
  have AQ := Lib.hid (apq8_any R Bm b nn D KS hlen w hm hown hKS hsh);clear hm hown hKS hsh;go_enter Tryz.func85, Tryz.ntmps85;go_wp2_with fail;with_reducible refine AQ.out.mono ?_
  rintro e w1 ⟨A, c, ss, rfl, h1, h2, h3⟩;have H1 := Lib.hid h1;have H2 := Lib.hid h2;clear h1 h2;go_wp2_with fail;go_ret;exact ⟨A, c, ss, rfl, H1.out, H2.out, h3⟩

theorem infoP : (Tryz.prog.info? 169).map (fun i => (i.zero, i.size, i.bytes)) = some (some (.agg #[.int .u64 0, .int .u32 0]), 2, 16) := by kernel_rfl
set_option maxHeartbeats 16000000 in
theorem apqP_any (R : Value → Option (DataW Unit × List MemPlace)) (Bm b nn : Nat) (D : DataW Unit) (KS : List Value) (hlen : KS.length ≤ 900000) (w : World) (hm : w.cell? ⟨Bm, 0, none⟩ = some (.map (some b))) (hown : w.ownsMap Tryz.prog 169 R b nn D) (hKS : MapK w b KS) (hsh : ∀ x ∈ KS, ∃ a c : Int, x = .agg #[.int .u64 a, .int .u32 c]) :
    Calls Tryz.prog 182 #[.slice none 0 0, .func (.func 134) #[] #[.pointer (some ⟨Bm, 0, none⟩)]] w (ColE w 169 2 KS) := by
  obtain ⟨i0, hi, hz0, hz1, hz2⟩ := info_parts infoP;refine (callsIn_wide (n := 3)).1 ?_;refine callsIn_of_wp_marks Tryz.func182 rfl trivial ?_ rfl;simp only [Tryz.ntmps182, List.size_toArray, List.length_cons, List.length_nil, Nat.reduceAdd, Nat.reduceSub, Array.replicate_succ, Array.replicate_zero, List.push_toArray, List.append_toArray, List.nil_append, List.cons_append];gi_wp2;have hu1 := (Up.refl w).alloc (.cells #[.slice none 0 0] 171);have hq := heap_alloc_new w (.cells #[.slice none 0 0] 171);have hI0 : CoR w 171 169 2 [] (w.alloc (.cells #[.slice none 0 0] 171)) := ⟨_, hq, World.ownsRow_nil _ _ _ _, hu1⟩;have hKS1 : MapK (w.alloc (.cells #[.slice none 0 0] 171)) b KS := mapK_kept hKS (World.grownBy_alloc w _ none) (by simp);have HW0 := Lib.hid (show (w.alloc (.cells #[.slice none 0 0] 171)).heap.size = w.heap.size + 1 by simp)
  refine wpIn_rangeFunc_set rfl (by omega) (gf := 134) (lb := #[.pointer (some ⟨Bm, 0, none⟩)]) rfl trivial (enters_of Tryz.func134 (by kernel_rfl) rfl)
    (mkP_all 2 (by omega) R Bm b nn D KS _ (hu1.cell hm) (hown.alloc _) hKS1 hsh) KeepsWalks.trans (fun W k o o' _ _ ho hw _ => KeepsWalks.putObj o' ho hw) (fun _ => rfl)
    (fun ss W => CoR w 171 169 2 ss W)
    (fun s W k o' h1 h2 hc hI => ?i1) (fun s W W' hI hu => coR_up hI hu) (fun s W W' r m since seen c0 hI h1 hr hg => ?i3)
    hI0 (fun x a2 W => ∃ (N : Nat) (xa xc : Int), x = .agg #[.int .u64 xa, .int .u32 xc] ∧ a2 = { tmps := (.slice none 0 0 :: .func (.func 134) #[] #[.pointer (some ⟨Bm, 0, none⟩)] :: .pointer (some ⟨w.heap.size, 0, none⟩) :: undef :: .slice none 0 0 :: .pointer (some ⟨N, 0, none⟩) :: .func (.func 134) #[] #[.pointer (some ⟨Bm, 0, none⟩)] :: x :: undef :: undef :: undef :: undef :: undef :: []).toArray, defers := [] } ∧ W.heap[N]? = some (.cells #[.int .u64 xa, .int .u32 xc] 169 (0, 0)))
    (fun x a2 W k o' h1 h2 hc h => by obtain ⟨N, xa, xc, e1, e2, e3⟩ := h; exact ⟨N, xa, xc, e1, e2, (World.putObj_heap_other (fun e => by subst e; obtain ⟨o, ho, hoc⟩ := hc; rw [ho] at e3; injection e3 with e3; subst e3; cases hoc)).trans e3⟩) kw_up ?assign ?body ?done
  case i1 =>
    rw [HW0.out] at h1 h2;obtain ⟨o, ho, hoc⟩ := hc;exact coR_grown hI (grownBy_putObj' W k o') h1 (fun v hv => own_walk hv ho hoc)
  case i3 =>
    rw [HW0.out] at h1;exact coR_grown hI hg (by omega) (fun v hv => own_walk hv hr rfl)
  case assign =>
    intro lp pre x W K hx hK;obtain ⟨xa, xc, rfl⟩ := hsh x hx.2.1;have hK2 := hK _ _ ((Up.refl W).alloc (.cells #[.int .u64 xa, .int .u32 xc] 169)) ⟨W.heap.size, xa, xc, rfl, rfl, heap_alloc_new _ _⟩;gi_wp2;exact hK2
  case body =>
    rintro lp pre x a2 W hx hI haf hsz;rw [HW0.out] at hsz ⊢;obtain ⟨N, xa, xc, rfl, rfl, hN⟩ := haf;have q0 := blkc hN 0 _ rfl;have q1 := blkc hN 1 _ rfl;have hpl : pre.length ≤ 900000 := Nat.le_trans (List.Nodup.length_le_of_subset hx.1.1 hx.1.2) hlen;obtain ⟨v, g1, g2, g3⟩ := hI;obtain ⟨c1, f1⟩ := blk_one g1;obtain ⟨A3, c3, rfl, _⟩ := Rd.of_own g2;have G1 := Lib.hid g1;have G2 := Lib.hid g2;have G3 := Lib.hid g3;clear g1 g2 g3 hq hI0 hKS1 HW0;gi_wp2_with (gi_at_builtin; refine app_oneK W rfl _ _ 171 rfl (w.heap.size + 3) 169 i0 _ 2 16 Tryz.underlying171 hi hz0 hz1 hz2 rfl (by decide) _ _ _ G2.out rfl #[.int .u64 xa, .int .u32 xc] rfl rfl (by simp [Value.oneCell']) (by omega) (by omega) (by omega) ?_; intro g' cap' w6 ho6 hg0 hb6 hk6; have g46 := (hb6.block w.heap.size (by omega)).trans G1.out; obtain ⟨c46, f46⟩ := blk_one g46)
    refine ⟨fun j h1 h2 => (Below.heap_setCell w6 ⟨w.heap.size, 0, none⟩ _ j (by simp; omega)).trans (hb6.block j (by omega)), hk6.trans (KeepsWalks.setCell w6 _ _), _, heap_setCell_same w6 w.heap.size 0 _ _ _ g46, ?_, Up.set (G3.out.base (base := w.heap.size + 3) (by omega) hb6) (Nat.le_refl _) _⟩;rw [List.length_append, List.flatMap_append];exact ho6.kept (grown_set w6 w.heap.size _) (.inr (by intro e; injection e with e; have e : g' = w.heap.size := e; omega))
  case done =>
    rintro ss W hfin hI hD;rw [HW0.out] at hD ⊢;obtain ⟨v, g1, g2, g3⟩ := hI;obtain ⟨A3, c3, rfl, _⟩ := Rd.of_own g2;obtain ⟨c1, f1⟩ := blk_one g1;have G2 := Lib.hid g2;have G3 := Lib.hid g3;have HF := Lib.hid hfin;clear g1 g2 g3 hq hI0 hKS1 HW0 hfin;gi_wp2;refine ⟨by simp, .inl ⟨_, _, rfl, run_takeDeferred hD, ?_⟩⟩;refine ⟨.slice A3 ss.length c3, by simp [results, Tryz.results182, go_sem], A3, c3, ss, rfl, HF.out, ?_, ?_⟩
    · refine (own_low' G2.out (by omega)).kept (grownBy_putObj' _ _ _) ?_;cases hv : (Value.slice A3 ss.length c3).ownBlock with
      | none => exact .inl rfl
      | some q => exact .inr (fun e => own_walk G2.out hD rfl (hv.trans e))
    · exact Up.of (G3.out.below.grown (grownBy_putObj' _ _ _) G3.out.le (fun j e => by cases e; omega))
theorem colP_any (R : Value → Option (DataW Unit × List MemPlace)) (Bm b nn : Nat) (D : DataW Unit) (KS : List Value) (hlen : KS.length ≤ 900000) (w : World) (hm : w.cell? ⟨Bm, 0, none⟩ = some (.map (some b))) (hown : w.ownsMap Tryz.prog 169 R b nn D) (hKS : MapK w b KS) (hsh : ∀ x ∈ KS, ∃ a c : Int, x = .agg #[.int .u64 a, .int .u32 c]) :
    Calls Tryz.prog 132 #[.func (.func 134) #[] #[.pointer (some ⟨Bm, 0, none⟩)]] w (ColE w 169 2 KS) := by
  have AQ := Lib.hid (apqP_any R Bm b nn D KS hlen w hm hown hKS hsh);clear hm hown hKS hsh;go_enter Tryz.func132, Tryz.ntmps132;go_wp2_with fail;with_reducible refine AQ.out.mono ?_
  rintro e w1 ⟨A, c, ss, rfl, h1, h2, h3⟩;have H1 := Lib.hid h1;have H2 := Lib.hid h2;clear h1 h2;go_wp2_with fail;go_ret;exact ⟨A, c, ss, rfl, H1.out, H2.out, h3⟩

end Go.Proofs.YtcfmidmokciofaaGreatDoor
/- The keys of the map of what is broken: the rules that are broken, each once. -/
namespace Go.Proofs.YtcfmidmokciofaaGreatDoor
open Go.RowKit Go.Gz Go.Maps Go.Shelf
set_option maxRecDepth 100000
def u8V (r : Nat) : Value := .int .u8 (r : Int)
theorem u8V_inj {a b : Nat} (h : u8V a = u8V b) : a = b := by
  unfold u8V at h;injection h with _ h;omega
theorem u8V_all : ∀ (l : List Value), (∀ x ∈ l, ∃ r : Nat, x = u8V r) → ∃ KS : List Nat, l = KS.map u8V
  | [], _ => ⟨[], rfl⟩
  | x :: l, h => by
    obtain ⟨r, hr⟩ := h x (by simp);obtain ⟨KS, hk⟩ := u8V_all l (fun y hy => h y (by simp [hy]));exact ⟨r :: KS, by rw [List.map_cons, hr, hk]⟩
theorem key_u8 {v : Value} {l : Lit} (h : keyOf Tryz.prog 5 v = some l) : ∃ r : Nat, r < 256 ∧ v = u8V r ∧ l = .int .u8 (r : Int) := by
  rw [keyOf_int Tryz.underlying5] at h;unfold mapKey at h;rw [Tryz.underlying5] at h;split at h
  · exact absurd ‹some (TypeDesc.int IntKind.u8) = some TypeDesc.bool› (by simp)
  · rename_i q q' n hq;injection hq with hq;injection hq with hq;subst hq;split at h
    · rename_i hw;obtain ⟨rfl, hw⟩ := hw;injection h with h;subst h;have hw2 : 0 ≤ n ∧ n ≤ 255 := by simpa [Lit.wf, IntKind.min, IntKind.max, IntKind.bits, IntKind.signed] using hw
      refine ⟨n.toNat, by omega, ?_, ?_⟩
      · unfold u8V;rw [Int.toNat_of_nonneg hw2.1]
      · rw [Int.toNat_of_nonneg hw2.1]
    · cases h
  · exact absurd ‹some (TypeDesc.int IntKind.u8) = some TypeDesc.string› (by simp)
  · cases h
theorem brk_keys {w : World} {m c : Nat} {F : Brk} (h : BrkM w m c F) : ∃ (D : DataW Unit) (KS : List Nat), w.ownsMap Tryz.prog 5 (plainElem Tryz.prog 3) m c D ∧ MapK w m (KS.map u8V) ∧ KS.Nodup ∧ ∀ r, r ∈ KS ↔ r < 256 ∧ 0 < F r := by
  obtain ⟨D, ho, hd, _⟩ := h;have ho2 := ho;obtain ⟨es, clock, hb, Fi, hs, rfl⟩ := ho2;have hM : MapK w m (es.toList.map (fun e => e.key)) := ⟨es, clock, hb, rfl⟩;have hks := mapK_keys ho lawU8 hM;obtain ⟨KS, hK⟩ := u8V_all (es.toList.map (fun e => e.key)) (fun x hx => by
    obtain ⟨kl, h1, _⟩ := hks x hx;obtain ⟨r, _, h2, _⟩ := key_u8 h1;exact ⟨r, h2⟩)
  refine ⟨_, KS, ho, hK ▸ hM, ?_, fun r => ⟨fun hr => ?_, fun hr => ?_⟩⟩
  · have hn : (es.toList.map (fun e => e.key)).Nodup := Fi.stamped.2.2;rw [hK] at hn;exact List.Pairwise.of_map u8V (fun a b hab e => hab (by rw [e])) hn
  · have hx : u8V r ∈ es.toList.map (fun e => e.key) := by rw [hK]; exact List.mem_map.2 ⟨r, hr, rfl⟩
    obtain ⟨kl, h1, h2⟩ := hks _ hx;obtain ⟨r', h3, h4, h5⟩ := key_u8 h1;obtain rfl := u8V_inj h4;refine ⟨h3, ?_⟩;have := hd.2.2 r h3;rw [← h5, h2] at this;exact of_decide_eq_true this.symm
  · have hh := hd.2.2 r hr.1;rw [decide_eq_true hr.2] at hh;obtain ⟨p, hp, hsk⟩ := List.any_eq_true.1 hh;obtain ⟨e, he, rfl⟩ := List.mem_map.1 (mem_sorted.1 hp);obtain ⟨y, hy⟩ := Fi.reads e he;rw [WideElems.rg_of hy] at hsk;have hky := WideElems.rd_key hy;obtain ⟨r', h3, h4, h5⟩ := key_u8 hky;have hrr := (WideAt.sameKey_iff (by first | exact trivial | simp [WideAt.IsKeyLit])).1 hsk;rw [h5] at hrr;have : r' = r := by
      injection hrr with _ hrr;omega
    subst this;have hx : u8V r' ∈ es.toList.map (fun e => e.key) := List.mem_map.2 ⟨e, he, h4⟩;rw [hK] at hx;obtain ⟨q, hq, e2⟩ := List.mem_map.1 hx;rw [← u8V_inj e2]; exact hq
/-- where one rule at most is broken -/
theorem brk_one {w : World} {m c : Nat} {F : Brk} (h : BrkM w m c F) (L : List Nat) (hl : L.length ≤ 1) (hL : ∀ r, r ∈ L ↔ r < 256 ∧ 0 < F r) : ∃ D : DataW Unit, w.ownsMap Tryz.prog 5 (plainElem Tryz.prog 3) m c D ∧ MapK w m (L.map u8V) := by
  obtain ⟨D, KS, h1, h2, h3, h4⟩ := brk_keys h;have hLn : L.Nodup := by
    match L, hl with
    | [], _ => exact List.nodup_nil
    | [a], _ => simp
    | _ :: _ :: _, hl => simp at hl
  have hp : KS.Perm L := (List.perm_ext_iff_of_nodup h3 hLn).2 (fun r => by rw [h4, hL]);have e : KS = L := by
    match L, hl, hp with
    | [], _, hp => exact hp.eq_nil
    | [a], _, hp => exact List.perm_singleton.1 hp
    | _ :: _ :: _, hl, _ => simp at hl
  subst e;exact ⟨D, h1, h2⟩
theorem u8_nodup {L : List Nat} (hl : L.length ≤ 1) : (L.map u8V).Nodup := by
  match L, hl with
  | [], _ => exact List.nodup_nil
  | [a], _ => simp
  | _ :: _ :: _, hl => simp at hl
end Go.Proofs.YtcfmidmokciofaaGreatDoor
/- Walk: slices.insertionSortOrdered of bytes (after the kit's walk of the same at integers). -/
namespace Go.Proofs.YtcfmidmokciofaaGreatDoor
open Go.RowKit Go.Sort
set_option maxRecDepth 100000
theorem u8_isNaN (x : Int) (w : World) : Calls Tryz.prog 234 #[.int .u8 x] w fun e w' => e = .returned (.bool false) ∧ w' = w := by
  go_enter Tryz.func234, Tryz.ntmps234;go_wp2
  go_ret;exact ⟨by simp, rfl⟩
set_option maxHeartbeats 1000000 in
theorem u8_Less (x y : Int) (w : World) : Calls Tryz.prog 191 #[.int .u8 x, .int .u8 y] w fun e w' => e = .returned (.bool (Sort.ltInt x y)) ∧ w' = w := by
  go_enter Tryz.func191, Tryz.ntmps191;go_wp2_with (go_at_call 234; refine (u8_isNaN _ _).mono ?_; rintro e w' ⟨rfl, rfl⟩)
  go_ret;exact ⟨rfl, rfl⟩
set_option maxHeartbeats 8000000 in
theorem ains_any (blk off cap a b : Nat) (d : Array Int) (w : World) (hH : Holds (Value.int .u8) w blk off d) (hab : a ≤ b) (hb : b ≤ d.size) (hsz : d.size < 4611686018427387904) :
    Calls Tryz.prog 185 #[.slice (some ⟨blk, off, none⟩) d.size cap, .int .i64 a, .int .i64 b] w fun e w' =>
      e = .returned (.tuple #[]) ∧ ∃ n, w' = putRow (Value.int .u8) (Sort.ahead w n) blk off (Sort.insertionSort ltInt d a b) := by
  go_enter Tryz.func185, Tryz.ntmps185;go_wp2
  go_loopw [6] (fun vi wr => ∃ (i n : Nat) (dk : Array Int), vi = .int .i64 i ∧ a < i ∧ i ≤ b + 1 ∧ dk.size = d.size ∧ wr = putRow (Value.int .u8) (Sort.ahead w n) blk off dk ∧
      insOuter ltInt a b i dk = insOuter ltInt a b (a + 1) d) (fun vi _ => b + 1 - (intOf vi).toNat)
  case atStart => exact ⟨a + 1, 0, d, by go_num, by omega, by omega, rfl, (putRow_self _ _ _ _ _ hH).symm, rfl⟩
  case round =>
    obtain ⟨i, n, dk, rfl, hai, hib, hsk, hwr, hO⟩ := hrel;have HO : RowKit.Hid (insOuter ltInt a b i dk = insOuter ltInt a b (a + 1) d) := hO;clear hO;go_wp2
    · go_loopw [7] (fun vj wr2 => ∃ (j m : Nat) (dj : Array Int), vj = .int .i64 j ∧ a ≤ j ∧ j ≤ i ∧ dj.size = d.size ∧ wr2 = putRow (Value.int .u8) (Sort.ahead w m) blk off dj ∧
          insInner ltInt a j dj = insInner ltInt a i dk) (fun vj _ => (intOf vj).toNat)
      case atStart => exact ⟨i, n, dk, rfl, by omega, Nat.le_refl _, hsk, rfl, rfl⟩
      case round =>
        obtain ⟨j, m, dj, rfl, haj, hji, hsj, hw2, hI⟩ := hrel;have hlt : i < b := by assumption
        obtain ⟨G, hG⟩ : ∃ G : Nat → Int, ∀ t, G t = dj[t]! := ⟨fun t => dj[t]!, fun _ => rfl⟩;have hcw : ∀ t, t < d.size → wr.cell? ⟨blk, off + t, none⟩ = some (.int .u8 (G t)) := fun t ht => by
          rw [hw2, hG]; exact cell?_putRow _ _ _ _ d dj (holds_ahead _ _ _ _ _ _ hH) hsj t (by omega)
        have hfw : ∀ t, t < d.size → wr.frozen? ⟨blk, off + t, none⟩ = false := fun t ht => by
          rw [hw2, frozen?_putRow]; exact ((holds_ahead _ _ m _ _ _ hH) t ht).2
        have HW : RowKit.Hid (wr = putRow (Value.int .u8) (Sort.ahead w m) blk off dj) := hw2;have HG : RowKit.Hid (∀ t, G t = dj[t]!) := hG;have HI : RowKit.Hid (insInner ltInt a j dj = insInner ltInt a i dk) := hI;clear hw2 hG hI hH;have out : (j ≤ a ∨ ltInt dj[j]! dj[j - 1]! = false) → ∀ q, ∃ i' n' dk', Value.int .i64 ((i : Int) + 1) = .int .i64 (i' : Nat) ∧ a < i' ∧ i' ≤ b + 1 ∧ dk'.size = d.size ∧
            wr.drewN q = putRow (Value.int .u8) (Sort.ahead w n') blk off dk' ∧ insOuter ltInt a b i' dk' = insOuter ltInt a b (a + 1) d := fun hs q =>
          ⟨i + 1, m + q, dj, by go_num, by omega, by omega, hsj, by rw [HW.out]; exact putRow_drewN _ _ _ _ _ _ _,
            by rw [← HO.out, insOuter_go _ _ _ _ _ hlt, ← HI.out, insInner_stop _ _ _ _ hs]⟩
        have OUT : RowKit.Hid _ := out;clear out;go_wp2
        by_cases hja : a < j
        · go_quiet (first | (go_at_call 191; refine Calls.quiet_of_same (u8_Less _ _ _)))
          go_wp2
          · have hl : ltInt (G j) (G (j - 1)) = true := by assumption
            go_region
            all_goals go_wp2
            go_roundw
            case rel =>
              refine ⟨j - 1, m + (nq + 1), swp dj j (j - 1), by congr 1; omega, by omega, by omega, by rw [size_swp]; exact hsj, ?_, ?_⟩
              · rw [HW.out, HG.out, HG.out];exact swap_worldA _ w m (nq + 1) blk off dj j (j - 1) (by omega) (by omega)
              · rw [← HI.out, insInner_go ltInt a j dj hja (by rw [← HG.out, ← HG.out]; exact hl)]
            case measure => simp [intOf]; omega
          · have hl : ltInt (G j) (G (j - 1)) = false := by assumption
            go_roundw
            case rel => exact OUT.out (Or.inr (by rw [← HG.out, ← HG.out]; exact hl)) nq
            case measure => simp [intOf]; omega
        · go_quiet (first | (go_at_call 191; refine Calls.quiet_of_same (u8_Less _ _ _)))
          go_wp2
          go_roundw
          case rel => exact OUT.out (Or.inl (by omega)) nq
          case measure => simp [intOf]; omega
    · have hge : ¬ i < b := by assumption
      go_end0
      exact ⟨rfl, n, by unfold Sort.insertionSort; rw [← HO.out, insOuter_stop _ _ _ _ _ hge]⟩
end Go.Proofs.YtcfmidmokciofaaGreatDoor
/- Walk: slices.Sorted of a map's keys where there is one key at most. -/
namespace Go.Proofs.YtcfmidmokciofaaGreatDoor
open Go.RowKit Go.Gz Go.Shelf Go.Maps
set_option maxRecDepth 100000
theorem asins_any (v : Value) (n : Nat) (hn : n ≤ 1) (w : World) :
    Calls Tryz.prog 185 #[v, .int .i64 0, .int .i64 (n : Int)] w fun e w' => e = .returned (.tuple #[]) ∧ w = w' := by
  have hI : (n : Int) ≤ 1 := by omega
  go_enter Tryz.func185, Tryz.ntmps185;go_wp2_with fail;refine wp_loop_rounds 1 ?_;rw [rounds_succ];go_wp2_with fail;go_end0
  exact ⟨rfl, rfl⟩
theorem aspdq_any (v : Value) (n : Nat) (hn : n ≤ 1) (lim : Int) (w : World) :
    Calls Tryz.prog 139 #[v, .int .i64 0, .int .i64 (n : Int), .int .i64 lim] w fun e w' => e = .returned (.tuple #[]) ∧ w = w' := by
  have hI : (n : Int) ≤ 12 := by omega
  have IN := fun w => Lib.hid (asins_any v n hn w);go_enter Tryz.func139, Tryz.ntmps139;go_wp2_with fail;refine wp_loop_rounds 1 ?_;rw [rounds_succ];go_wp2_with (go_at_call 185; with_reducible refine (IN _).out.mono ?_; rintro e w' ⟨rfl, rfl⟩)
  refine bodyPost_ret (results_none rfl _ _ _) rfl ?_;exact ⟨rfl, rfl⟩
theorem assort_any (A : Option Addr) (n c : Nat) (hn : n ≤ 1) (w : World) :
    Calls Tryz.prog 86 #[.slice A n c] w fun e w' => e = .returned (.tuple #[]) ∧ w = w' := by
  have hn' : n = 0 ∨ n = 1 := by omega
  rcases hn' with rfl | rfl
  · have B := fun w => Lib.hid (Tryz.bits_Len 0 w (by decide) (by decide));have PD : ∀ lim w, Hid (Calls Tryz.prog 139 #[.slice A 0 c, .int .i64 0, .int .i64 0, .int .i64 lim] w fun e w' => e = .returned (.tuple #[]) ∧ w = w') := fun lim w => Lib.hid (aspdq_any (.slice A 0 c) 0 hn lim w);go_enter Tryz.func86, Tryz.ntmps86;go_wp2_with fail;refine (B _).out.mono ?_;rintro e w' ⟨rfl, rfl⟩;go_wp2_with fail;with_reducible refine (PD _ _).out.mono ?_
    rintro e w' ⟨rfl, rfl⟩;go_wp2_with fail;go_end0
    exact ⟨rfl, rfl⟩
  · have B := fun w => Lib.hid (Tryz.bits_Len 1 w (by decide) (by decide));have PD : ∀ lim w, Hid (Calls Tryz.prog 139 #[.slice A 1 c, .int .i64 0, .int .i64 1, .int .i64 lim] w fun e w' => e = .returned (.tuple #[]) ∧ w = w') := fun lim w => Lib.hid (aspdq_any (.slice A 1 c) 1 hn lim w);go_enter Tryz.func86, Tryz.ntmps86;go_wp2_with fail;refine (B _).out.mono ?_;rintro e w' ⟨rfl, rfl⟩;go_wp2_with fail;with_reducible refine (PD _ _).out.mono ?_
    rintro e w' ⟨rfl, rfl⟩;go_wp2_with fail;go_end0
    exact ⟨rfl, rfl⟩
theorem fin_one {KS ss : List Value} (h : finV KS ss) (hn : KS.Nodup) (hl : KS.length ≤ 1) : ss = KS := by
  obtain ⟨h1, h2⟩ := h;have hp : ss.Perm KS := (List.perm_ext_iff_of_nodup h1 hn).2 h2;match KS, hl with
  | [], _ => exact hp.eq_nil
  | [a], _ => exact List.perm_singleton.1 hp
  | _ :: _ :: _, hl => simp at hl
theorem cells_u8 : ∀ {KS : List Value}, (∀ x ∈ KS, ∃ a : Int, x = .int .u8 a) → KS.flatMap cellsV = KS
  | [], _ => rfl
  | x :: r, h => by
    obtain ⟨a, rfl⟩ := h x (by simp);rw [List.flatMap_cons, cells_u8 (fun y hy => h y (by simp [hy]))];rfl
/-- the keys, if there is one at most -/
def Sorted1E (w : World) (KS : List Value) (e : Ending) (w' : World) : Prop := ∃ A c, e = .returned (.slice A KS.length c) ∧ Rd w' 1 A KS.length c KS ∧ Up w w'
theorem asorted1_any (R : Value → Option (DataW Unit × List MemPlace)) (Bm b nn : Nat) (D : DataW Unit) (KS : List Value) (hk : KS.Nodup) (hl : KS.length ≤ 1) (w : World) (hm : w.cell? ⟨Bm, 0, none⟩ = some (.map (some b))) (hown : w.ownsMap Tryz.prog 5 R b nn D) (hKS : MapK w b KS) (hsh : ∀ x ∈ KS, ∃ a : Int, x = .int .u8 a) :
    Calls Tryz.prog 35 #[.func (.func 87) #[] #[.pointer (some ⟨Bm, 0, none⟩)]] w (Sorted1E w KS) := by
  have CO := Lib.hid (col8_any R Bm b nn D KS (by omega) w hm hown hKS hsh);have hcl := cells_u8 hsh;have HC := Lib.hid hcl;clear hm hown hKS hsh hcl;go_enter Tryz.func35, Tryz.ntmps35;go_wp2_with fail;with_reducible refine CO.out.mono ?_
  rintro e w1 ⟨A, c, ss, rfl, h1, h2, h3⟩;obtain rfl := fin_one h1 hk hl;rw [HC.out] at h2;have H2 := Lib.hid h2;clear h1 h2 CO HC;go_wp2_with fail;with_reducible refine (assort_any A _ c hl _).mono ?_
  rintro e w2 ⟨rfl, rfl⟩;go_wp2_with fail;go_ret;obtain ⟨A2, c2, e2, r2⟩ := Rd.of_own H2.out;injection e2 with e2 _ e3;subst e2; subst e3;exact ⟨A, c, rfl, r2, h3⟩
end Go.Proofs.YtcfmidmokciofaaGreatDoor
