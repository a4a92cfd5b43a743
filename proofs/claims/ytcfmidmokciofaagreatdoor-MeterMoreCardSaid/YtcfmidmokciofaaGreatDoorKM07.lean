/- The map of a cache: keys of two numbers, nodes of five cells. -/
import Derived.Test.YtcfmidmokciofaaGreatDoorKM02
import Derived.Test.YtcfmidmokciofaaGreatDoorKM06
import Derived.DeepKeys4
import Derived.WideKeyEntry
namespace Go.Proofs.YtcfmidmokciofaaGreatDoor
open Go.RowKit Go.Gz
set_option maxRecDepth 100000
def kV (k : NK) : Value := .agg #[.int .u64 (k.1 : Int), .int .u64 (k.2 : Int)]
def nV (x : Nd) : Value := .agg #[.int .i64 x.v, .int .u64 (x.o.1 : Int), .int .u64 (x.o.2 : Int), .int .u64 (x.n.1 : Int), .int .u64 (x.n.2 : Int)]
def OkK (k : NK) : Prop := k.1 < 18446744073709551616 ∧ k.2 < 18446744073709551616
theorem lawK : WideMaps.KeyLaw Tryz.prog 77 := by
  have h : decide (77 < Tryz.prog.types.size) = true := by kernel_rfl
  exact deep_law_laid (m := 3) (by kernel_rfl) (by omega) (of_decide_eq_true h) (by kernel_rfl) (by kernel_rfl)
theorem keyK (p : NK) (h : OkK p) : ∃ l, keyOf Tryz.prog 77 (kV p) = some l := by
  obtain ⟨h1, h2⟩ := h
  have ht := Tryz.underlying77
  have hk : Tryz.prog.keyType 77 = true := by kernel_rfl
  have hf : Value.formed Tryz.prog 77 (kV p) = true := by kernel_rfl
  have hw1 : (Lit.int .u64 (p.1 : Int)).wf = true := by simp [Lit.wf, IntKind.min, IntKind.max, IntKind.bits, IntKind.signed]; omega
  have hw2 : (Lit.int .u64 (p.2 : Int)).wf = true := by simp [Lit.wf, IntKind.min, IntKind.max, IntKind.bits, IntKind.signed]; omega
  have hc1 : Tryz.prog.cellsOf 77 = 2 := by kernel_rfl
  have hc2 : Tryz.prog.cellsOf 54 = 1 := by kernel_rfl
  have hd : decide (0 < Tryz.prog.types.size) = true := by kernel_rfl
  obtain ⟨k, hk2⟩ : ∃ k, Tryz.prog.types.size = k + 1 := ⟨Tryz.prog.types.size - 1, by have := of_decide_eq_true hd; omega⟩
  have u1 := Tryz.underlying54
  unfold keyOf
  rw [ht]
  simp only [hk, Bool.true_and, hf, if_true, hk2]
  simp [kV, Value.cells, Program.keyLits, ht, hc1, hc2, u1, hw1, hw2]
theorem kV_inj {p q : NK} (h : kV p = kV q) : p = q := by
  unfold kV at h
  simp at h
  exact Prod.ext (by omega) (by omega)
/-- the map's block holds what the cache holds -/
structure MapE (es : Array MapEntry) (K : List NK) (c : Ca) : Prop where
  keys : es.toList.map (fun e => e.key) = K.map kV
  nd : K.Nodup
  len : K.length = c.n
  ok : ∀ k ∈ K, OkK k
  val : ∀ (i : Nat) e k, es.toList[i]? = some e → K[i]? = some k → ∃ x, c.g k = some x ∧ e.val = nV x
  all : ∀ k, (c.g k).isSome = true → k ∈ K
def MapN (w : World) (m : Nat) (c : Ca) : Prop := ∃ es clock K, w.heap[m]? = some (.map es clock) ∧ MapE es K c
theorem mapE_size {es : Array MapEntry} {K : List NK} {c : Ca} (h : MapE es K c) : es.toList.length = K.length := by
  have := congrArg List.length h.keys
  simpa using this
theorem mapE_key {es : Array MapEntry} {K : List NK} {c : Ca} (h : MapE es K c) {i : Nat} {e : MapEntry} (he : es.toList[i]? = some e) : ∃ k, K[i]? = some k ∧ e.key = kV k := by
  have h1 : (es.toList.map (fun e => e.key))[i]? = some e.key := by rw [List.getElem?_map, he]; rfl
  rw [h.keys, List.getElem?_map] at h1
  cases hk : K[i]? with
  | none => rw [hk] at h1; simp at h1
  | some k => rw [hk] at h1; exact ⟨k, rfl, (Option.some.inj h1).symm⟩
theorem mapE_ks {es : Array MapEntry} {K : List NK} {c : Ca} (h : MapE es K c) : ∀ e ∈ es.toList, ∃ l, keyOf Tryz.prog 77 e.key = some l := by
  intro e he
  obtain ⟨i, hi⟩ := List.getElem?_of_mem he
  obtain ⟨k, hk, e1⟩ := mapE_key h hi
  rw [e1]
  exact keyK k (h.ok k (List.mem_of_getElem? hk))
/-- what the search in the map finds -/
theorem mapE_find {es : Array MapEntry} {K : List NK} {c : Ca} (h : MapE es K c) (k : NK) (hk : OkK k) (w : World) :
    ((Instr.findKey 77 (kV k) es.toList).run Tryz.prog w = .ok none w ∧ c.g k = none ∧ k ∉ K) ∨
    ∃ j e x, (Instr.findKey 77 (kV k) es.toList).run Tryz.prog w = .ok (some (j, nV x)) w ∧ es.toList[j]? = some e ∧ e.key = kV k ∧ K[j]? = some k ∧ c.g k = some x := by
  obtain ⟨l, hl⟩ := keyK k hk
  rcases lawK.find w hl es.toList (mapE_ks h) with ⟨f1, f2⟩ | ⟨j, e, f1, f2, f3⟩
  · have hn : k ∉ K := fun hm => by
      obtain ⟨i, hi⟩ := List.getElem?_of_mem hm
      obtain ⟨e, he⟩ : ∃ e, es.toList[i]? = some e := ⟨_, List.getElem?_eq_getElem (by rw [mapE_size h]; exact (List.getElem?_eq_some_iff.1 hi).1)⟩
      obtain ⟨k', hk', e1⟩ := mapE_key h he
      rw [hi] at hk'
      exact f2 e (List.mem_of_getElem? he) (by rw [e1, ← Option.some.inj hk'])
    refine .inl ⟨f1, ?_, hn⟩
    cases hg : c.g k with
    | none => rfl
    | some x => exact absurd (h.all k (by rw [hg]; rfl)) hn
  · obtain ⟨k', hk', e1⟩ := mapE_key h f2
    have : k' = k := kV_inj (e1.symm.trans f3)
    subst this
    obtain ⟨x, hx, hv⟩ := h.val j e k' f2 hk'
    exact .inr ⟨j, e, x, by rw [← hv]; exact f1, f2, f3, hk', hx⟩
theorem zeroN (w : World) : (zeroValue 288).run Tryz.prog w = .ok (nV nd0) w := by
  have h : (Tryz.prog.info? 288).map (fun i => (i.zero, i.size, i.bytes)) = some (some (nV nd0), 5, 40) := by kernel_rfl
  obtain ⟨i, h1, h2, _, _⟩ := info_parts h
  simp [zeroValue, typeInfo, h1, h2]
/-- m[k] -/
theorem look_map {w : World} {m : Nat} {c : Ca} (h : MapN w m c) (k : NK) (hk : OkK k) :
    (Instr.lookup 134 (.map (some m)) (kV k) false).run Tryz.prog w = .ok (nV (c.get k)) w ∧
    (Instr.lookup 134 (.map (some m)) (kV k) true).run Tryz.prog w = .ok (.tuple #[nV (c.get k), .bool (c.g k).isSome]) w := by
  obtain ⟨es, clock, K, hb, he⟩ := h
  obtain ⟨l, hl⟩ := keyK k hk
  rcases mapE_find he k hk w with ⟨f1, f2, f3⟩ | ⟨j, e, x, f1, f2, f3, f4, f5⟩
  · simp [Instr.lookup, run_underlying Tryz.underlying134, MapKept.run_getObj_map hb, lawK.check w _ hl, f1, Result.andThen, Ca.get, f2]
    rfl
  · simp [Instr.lookup, run_underlying Tryz.underlying134, MapKept.run_getObj_map hb, lawK.check w _ hl, f1, Result.andThen, Ca.get, f5]
theorem setN_heap {w : World} {M : Nat} {o o' : Obj} (h : w.heap[M]? = some o) : (Go.ChangeMaps.setBlock w M o').heap[M]? = some o' := by
  have hl := (Array.getElem?_eq_some_iff.1 h).1
  simp [Go.ChangeMaps.setBlock, hl]
theorem setN_grown (w : World) (M : Nat) (o' : Obj) : w.grownBy (Go.ChangeMaps.setBlock w M o') (some M) :=
  ⟨rfl, rfl, rfl, by simp [Go.ChangeMaps.setBlock], fun j _ hne => by
    have : M ≠ j := fun e => hne (by rw [e])
    simp [Go.ChangeMaps.setBlock, this]⟩
/-- m[k] = x -/
theorem put_map {w : World} {m : Nat} {c : Ca} (h : MapN w m c) (k : NK) (hk : OkK k) (x : Nd) :
    ∃ w', (Instr.mapUpdate 134 (.map (some m)) (kV k) (nV x)).run Tryz.prog w = .ok () w' ∧ MapN w' m (c.put k x) ∧ w.grownBy w' (some m) := by
  obtain ⟨es, clock, K, hb, he⟩ := h
  obtain ⟨l, hl⟩ := keyK k hk
  have ht := Tryz.underlying134
  rcases mapE_find he k hk w with ⟨f1, f2, f3⟩ | ⟨j, e, y, f1, f2, f3, f4, f5⟩
  · refine ⟨_, ?_, ⟨es.push ⟨kV k, nV x, clock⟩, clock + 1, K ++ [k], setN_heap hb, ?_⟩, setN_grown _ _ _⟩
    · simp [Instr.mapUpdate, run_underlying ht, MapKept.run_getObj_map hb, lawK.check w false hl, f1, MapKept.run_setObj_map _ hb, Result.andThen, Go.ChangeMaps.setBlock]
    · refine ⟨by rw [Array.toList_push, List.map_append, List.map_append, he.keys]; rfl, ?_, ?_, ?_, ?_, ?_⟩
      · rw [List.nodup_append]
        exact ⟨he.nd, by simp, fun a ha b hb e => by simp at hb; subst hb; subst e; exact f3 ha⟩
      · rw [List.length_append, he.len]; simp [Ca.put, f2]
      · intro q hq
        rcases List.mem_append.1 hq with hq | hq
        · exact he.ok q hq
        · simp at hq; subst hq; exact hk
      · intro i e q hi hq
        rw [Array.toList_push] at hi
        have hs := mapE_size he
        rcases Nat.lt_or_ge i K.length with h1 | h1
        · rw [List.getElem?_append_left (by omega)] at hi
          rw [List.getElem?_append_left h1] at hq
          obtain ⟨z, hz, hv⟩ := he.val i e q hi hq
          have hqk : q ≠ k := fun e => f3 (by rw [← e]; exact List.mem_of_getElem? hq)
          exact ⟨z, by simp [Ca.put, hqk, hz], hv⟩
        · rw [List.getElem?_append_right (by omega)] at hi
          rw [List.getElem?_append_right h1] at hq
          have h2 := (List.getElem?_eq_some_iff.1 hq).1
          simp at h2
          rw [show i - es.toList.length = 0 by omega] at hi
          rw [show i - K.length = 0 by omega] at hq
          simp at hi hq
          subst hi; subst hq
          exact ⟨x, by simp [Ca.put], rfl⟩
      · intro q hq
        rw [has_put] at hq
        rw [List.mem_append, List.mem_singleton]
        by_cases hqk : q = k
        · exact .inr hqk
        · exact .inl (he.all q (by simpa [hqk] using hq))
  · have hj : es[j]? = some e := by simpa using f2
    have hjl := (List.getElem?_eq_some_iff.1 f2).1
    refine ⟨_, ?_, ⟨es.modify j (fun e => { e with key := kV k, val := nV x }), clock, K, setN_heap hb, ?_⟩, setN_grown _ _ _⟩
    · simp [Instr.mapUpdate, run_underlying ht, MapKept.run_getObj_map hb, lawK.check w false hl, f1, hj, f3, lawK.stays w hl, MapKept.run_setObj_map _ hb, Result.andThen, Go.ChangeMaps.setBlock]
    · have hget : ∀ i, (es.modify j (fun e => { e with key := kV k, val := nV x })).toList[i]? = if j = i then (es.toList[i]?).map (fun e => { e with key := kV k, val := nV x }) else es.toList[i]? := fun i => by
        rw [Array.toList_modify, List.getElem?_modify]
        split <;> simp
      refine ⟨?_, he.nd, by rw [he.len]; simp [Ca.put, f5], he.ok, ?_, ?_⟩
      · rw [← he.keys]
        apply List.ext_getElem?
        intro i
        rw [List.getElem?_map, List.getElem?_map, hget]
        by_cases hij : j = i
        · subst hij
          rw [if_pos rfl, f2]
          simp [f3]
        · rw [if_neg hij]
      · intro i e' q hi hq
        rw [hget] at hi
        by_cases hij : j = i
        · subst hij
          rw [if_pos rfl, f2] at hi
          simp at hi
          subst hi
          rw [f4] at hq
          obtain rfl := Option.some.inj hq
          exact ⟨x, by simp [Ca.put], rfl⟩
        · rw [if_neg hij] at hi
          obtain ⟨z, hz, hv⟩ := he.val i e' q hi hq
          have hqk : q ≠ k := fun e => hij (by rw [e] at hq; exact nodup_idx he.nd f4 hq)
          exact ⟨z, by simp [Ca.put, hqk, hz], hv⟩
      · intro q hq
        rw [has_put] at hq
        by_cases hqk : q = k
        · rw [hqk]; exact List.mem_of_getElem? f4
        · exact he.all q (by simpa [hqk] using hq)
/-- delete(m, k) -/
theorem del_map {w : World} {m : Nat} {c : Ca} (h : MapN w m c) (k : NK) (hk : OkK k) (t2 ty : TypeId) :
    ∃ w', (Builtin.delete_ #[134, t2] ty #[.map (some m), kV k]).run Tryz.prog w = .ok (.tuple #[]) w' ∧ MapN w' m (c.del k) ∧ w.grownBy w' (some m) := by
  obtain ⟨es, clock, K, hb, he⟩ := h
  obtain ⟨l, hl⟩ := keyK k hk
  have ht := Tryz.underlying134
  rcases mapE_find he k hk w with ⟨f1, f2, f3⟩ | ⟨j, e, y, f1, f2, f3, f4, f5⟩
  · refine ⟨_, ?_, ⟨es, clock, K, setN_heap hb, ?_⟩, setN_grown _ _ _⟩
    · simp [Builtin.delete_, run_underlying ht, MapKept.run_getObj_map hb, lawK.check w _ hl, f1, MapKept.run_setObj_map _ hb, Result.andThen, Go.ChangeMaps.setBlock]
    · have hd : ∀ q, (c.del k).g q = c.g q := fun q => by
        unfold Ca.del
        by_cases e : q = k
        · subst e; simp [f2]
        · simp [e]
      refine ⟨he.keys, he.nd, by rw [he.len]; simp [Ca.del, f2], he.ok, fun i e q hi hq => ?_, fun q hq => ?_⟩
      · rw [hd]; exact he.val i e q hi hq
      · rw [hd] at hq; exact he.all q hq
  · have hjl := (List.getElem?_eq_some_iff.1 f2).1
    have hjK := (List.getElem?_eq_some_iff.1 f4).1
    refine ⟨_, ?_, ⟨es.eraseIdxIfInBounds j, clock, K.eraseIdx j, setN_heap hb, ?_⟩, setN_grown _ _ _⟩
    · simp [Builtin.delete_, run_underlying ht, MapKept.run_getObj_map hb, lawK.check w _ hl, f1, MapKept.run_setObj_map _ hb, Result.andThen, Go.ChangeMaps.setBlock]
    · have het : (es.eraseIdxIfInBounds j).toList = es.toList.eraseIdx j := by
        have hlt : j < es.size := by simpa using hjl
        unfold Array.eraseIdxIfInBounds
        rw [dif_pos hlt, Array.toList_eraseIdx]
      refine ⟨?_, he.nd.sublist (List.eraseIdx_sublist ..), ?_, fun q hq => he.ok q ((List.eraseIdx_sublist ..).subset hq), ?_, ?_⟩
      · rw [het]
        apply List.ext_getElem?
        intro i
        have hk := congrArg (fun l => l[i]?) he.keys
        have hk1 := congrArg (fun l => l[i + 1]?) he.keys
        simp only [List.getElem?_map] at hk hk1
        rw [List.getElem?_map, List.getElem?_map, List.getElem?_eraseIdx, List.getElem?_eraseIdx]
        split
        · exact hk
        · exact hk1
      · rw [List.length_eraseIdx_of_lt hjK, he.len]; simp [Ca.del, f5]
      · intro i e' q hi hq
        rw [het] at hi
        rw [List.getElem?_eraseIdx] at hi hq
        have hne : ∀ i, i ≠ j → K[i]? = some q → q ≠ k := fun i hij hq e => hij (by rw [e] at hq; exact nodup_idx he.nd hq f4)
        split at hi
        · rename_i h1
          rw [if_pos h1] at hq
          obtain ⟨z, hz, hv⟩ := he.val i e' q hi hq
          exact ⟨z, by simp [Ca.del, hne i (by omega) hq, hz], hv⟩
        · rename_i h1
          rw [if_neg h1] at hq
          obtain ⟨z, hz, hv⟩ := he.val (i + 1) e' q hi hq
          exact ⟨z, by simp [Ca.del, hne (i + 1) (by omega) hq, hz], hv⟩
      · intro q hq
        rw [has_del] at hq
        simp at hq
        obtain ⟨hqk, hq2⟩ := hq
        obtain ⟨i, hi⟩ := List.getElem?_of_mem (he.all q hq2)
        have hij : i ≠ j := fun e => hqk (by rw [e, f4] at hi; exact (Option.some.inj hi).symm)
        rcases Nat.lt_or_ge i j with h1 | h1
        · exact List.mem_of_getElem? (i := i) (by rw [List.getElem?_eraseIdx, if_pos h1]; exact hi)
        · exact List.mem_of_getElem? (i := i - 1) (by rw [List.getElem?_eraseIdx, if_neg (by omega), show i - 1 + 1 = i by omega]; exact hi)
end Go.Proofs.YtcfmidmokciofaaGreatDoor
