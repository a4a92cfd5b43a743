/- merge.Rows: what holds between its rounds. -/
import Derived.Test.YtgoelpjkfofbbaaGreatDoorG23
import Derived.Test.YtgoelpjkfofbbaaGreatDoorG22
import Derived.Test.YtgoelpjkfofbbaaGreatDoorG24
import Derived.Laws.EntriesVeiled
import Derived.Laws.OwnMore
namespace Go.Proofs.YtgoelpjkfofbbaaGreatDoor
open Go.RowKit Go.Gz Go.Shelf Go.Maps Go.ChangeShapes Go.WideElems
open Go.ChangeMaps (setBlock)

set_option maxRecDepth 100000
theorem good_take {L : Items} (h : Gz.Good L) (k : Nat) : Gz.Good (L.take k) := by
  refine ⟨?_, by have := h.len; rw [List.length_take]; omega, fun y hy => h.id y (List.mem_of_mem_take hy), fun y hy => h.ne y (List.mem_of_mem_take hy), fun y hy => h.sz y (List.mem_of_mem_take hy)⟩
  have := (srt_iff _).1 h.srt
  exact (srt_iff _).2 (List.Pairwise.sublist (List.take_sublist k L) this)
theorem total_take (L : Items) (k : Nat) : total (L.take k) ≤ total L := by
  have h : total L = total (L.take k) + total (L.drop k) := by
    unfold total
    conv => lhs; rw [← List.take_append_drop k L, List.map_append, List.sum_append]
  omega
theorem rows_cs_len (L : Items) : (rowsL L).2.length ≤ L.length := by
  induction L using snoc_ind with
  | h0 => simp [rowsL]
  | h1 L x ih =>
    rw [rows_snoc]
    unfold rowsStep addC
    simp only
    split
    · simp; omega
    · simp; omega
theorem entV_run (pre : Ents) (b : Ent) (v : Nat) : (entV (pre ++ [b])).set (pre.length * 4 + 3) (.int .u32 (v : Int)) = entV (pre ++ [{ b with run := v }]) := by
  rw [entV_snoc, entV_snoc, List.set_append_right _ _ (by rw [entV_len]; omega), entV_len]
  rw [show pre.length * 4 + 3 - pre.length * 4 = 3 by omega]
  rfl
theorem mapP_put {W : World} {base k : Nat} {o' : Obj} {mv : Value} {cs : List Bs} (h : MapP W base mv cs) (hk : k < base) (hc : ∃ o, W.heap[k]? = some o ∧ o.isCells = false) : MapP (W.putObj k o') base mv cs := by
  obtain ⟨o, ho, hnc⟩ := hc
  rcases h with h | ⟨M, gb, D, h1, h2, h3, h4⟩
  · exact .inl h
  · have hg := grownBy_putObj' W k o'
    refine .inr ⟨M, gb, D, h1, ⟨h2.1, Nat.le_trans h2.2 hg.size⟩, ?_, h4⟩
    have h0 := h3
    obtain ⟨es, clock, hb, F, _⟩ := h0
    refine h3.kept hg ?_ ?_
    · intro e
      injection e with e
      omega
    · intro es' clock' hb' x hx
      rw [hb] at hb'
      injection hb' with hb'
      injection hb' with e1 e2
      subst e1 e2
      obtain ⟨y, hy⟩ := F.reads x hx
      obtain ⟨z, hz, _⟩ := rd_val hy
      obtain ⟨zs, hoi, _⟩ := rowElem_inv hz
      cases hx' : x.val.ownBlock with
      | none => exact Or.inl rfl
      | some g =>
        refine Or.inr (fun e1 => ?_)
        injection e1 with e1
        subst e1
        obtain ⟨cur', fz', h5⟩ := own_row hoi.1 _ hx'
        rw [ho] at h5
        injection h5 with h5
        subst h5
        cases hnc
theorem own_put {W : World} {base k : Nat} {e : TypeId} {size n : Nat} {v : Value} {xs : List Value} {o' : Obj} (h : W.ownsRow base e size v n xs) (hk : k < base) : (W.putObj k o').ownsRow base e size v n xs := by
  refine h.kept (grownBy_putObj' W k o') ?_
  cases hv : v.ownBlock with
  | none => exact .inl rfl
  | some g => have := (h.lt g hv).1; right; intro e; injection e with e; omega
theorem own_keep {W W' : World} {base b B : Nat} {e : TypeId} {size n : Nat} {v : Value} {xs : List Value} (h : W.ownsRow b e size v n xs) (hk : PKeep base B W W') (h1 : e ≠ 5) (h2 : e ≠ 140) (h3 : e ≠ 3) (h4 : e ≠ 190) : W'.ownsRow b e size v n xs := by
  refine ⟨h.1, ?_⟩
  rcases h.2 with g | ⟨g, cap, cur, g1, g2, g3, g4⟩
  · exact .inl g
  · exact .inr ⟨g, cap, cur, g1, g2, hk.typ _ _ _ _ g3 h1 h2 h3 h4, g4⟩
theorem PKeep.keepB {base B n₀ : Nat} {Bs : List Nat} {T : TypeId} {W W' : World} (h : PKeep base B W W') (h0 : n₀ ≤ base) (hB : n₀ ≤ B) (hs : ∀ x ∈ Bs, x < base ∧ x ≠ B) (h1 : T ≠ 5) (h2 : T ≠ 140) (h3 : T ≠ 3) (h4 : T ≠ 190) : KeepB T n₀ Bs W W' := by
  refine ⟨h.size, fun p hp => ?_, fun r cs fz hr => h.typ r cs T fz hr h1 h2 h3 h4⟩
  unfold World.cell?
  rw [h.below p.block (by rcases hp with hp | hp; · omega
                          · exact (hs _ hp).1) (by rcases hp with hp | hp; · omega
                                                   · exact (hs _ hp).2)]
theorem PKeep.toUp {base B : Nat} {w W W' : World} (h : PKeep base B W W') (hu : Up w W) (h0 : w.heap.size ≤ base) (hB : w.heap.size ≤ B) : Up w W' :=
  ⟨h.os.trans hu.os, h.tape.trans hu.tape, h.output.trans hu.output, Nat.le_trans hu.size h.size, fun k hk => (h.below k (by omega) (by omega)).trans (hu.block hk)⟩
abbrev goesF : Value := .func (.func 65) #[] #[]
/-- between the rounds: entries, a pool -/
def RowI (n : Nat) (R : Ents × List Bs) (W : World) : Prop := ∃ v tv pv mv, W.heap[n + 1 + 1 + 1 + 1]? = some (.cells #[v] 58 (0, 0)) ∧ W.ownsRow (n + 8) 106 4 v R.1.length (entV R.1) ∧
  W.heap[n + 1 + 1]? = some (.cells #[tv, pv, mv] 190 (0, 0)) ∧ W.ownsRow (n + 8) 5 1 tv R.2.flatten.length (byV R.2.flatten) ∧ W.ownsRow (n + 8) 140 2 pv R.2.length (plV R.2) ∧ MapP W (n + 8) mv R.2 ∧
  W.heap[n + 1]? = some (.cells #[goesF] 130 (0, 0)) ∧ W.heap[n + 1 + 1 + 1]? = some (.cells #[.pointer (some ⟨n + 1 + 1, 0, none⟩)] 134 (0, 0))
theorem rowI_up {n : Nat} {R : Ents × List Bs} {W W' : World} (h : RowI n R W) (hu : Up W W') : RowI n R W' := by
  obtain ⟨v, tv, pv, mv, h1, h2, h3, h4, h5, h6, h7, h8⟩ := h
  exact ⟨v, tv, pv, mv, hu.obj h1, own_up h2 hu, hu.obj h3, own_up h4 hu, own_up h5 hu, h6.up hu, hu.obj h7, hu.obj h8⟩
theorem rowI_put {n k : Nat} {R : Ents × List Bs} {W : World} {o' : Obj} (h : RowI n R W) (h0 : n + 6 ≤ k) (h1 : k < n + 8) (hc : ∃ o, W.heap[k]? = some o ∧ o.isCells = false) : RowI n R (W.putObj k o') := by
  obtain ⟨v, tv, pv, mv, g1, g2, g3, g4, g5, g6, g7, g8⟩ := h
  exact ⟨v, tv, pv, mv, (World.putObj_heap_other (by omega)).trans g1, own_put g2 h1, (World.putObj_heap_other (by omega)).trans g3, own_put g4 h1, own_put g5 h1, mapP_put g6 h1 hc, (World.putObj_heap_other (by omega)).trans g7, (World.putObj_heap_other (by omega)).trans g8⟩
theorem rowI_T {n r : Nat} {R : Ents × List Bs} {W W' : World} {cs : Array Value} {fz : Nat × Nat} (h : RowI n R W) (h0 : n + 8 ≤ r) (hr : W.heap[r]? = some (.cells cs 30 fz)) (hg : W.grownBy W' (some r)) : RowI n R W' := by
  obtain ⟨v, tv, pv, mv, g1, g2, g3, g4, g5, g6, g7, g8⟩ := h
  have hrr : ∀ q, some r = some q → ∃ cur fz, W.heap[q]? = some (.cells cur 30 fz) := by
    intro q e; injection e with e; subst e; exact ⟨_, _, hr⟩
  have hb : ∀ {j : Nat} {o : Obj}, W.heap[j]? = some o → j < n + 8 → W'.heap[j]? = some o := fun hj hl => (hg.block _ (Array.getElem?_eq_some_iff.1 hj).1 (by intro e; injection e with e; omega)).trans hj
  exact ⟨v, tv, pv, mv, hb g1 (by omega), own_other g2 hg hrr (by decide), hb g3 (by omega), own_other g4 hg hrr (by decide), own_other g5 hg hrr (by decide), g6.other hg (fun q e => by obtain ⟨cur, fz, h⟩ := hrr q e; exact ⟨_, _, _, h, by decide⟩), hb g7 (by omega), hb g8 (by omega)⟩
/-- 'append(s, x)' onto a slice of the call's own, in a round; of what the row's block was -/
theorem app_oneInG {F : Fence} {nF : Nat} {P : Program} (w : World) {ops : Array Oper} {rest : List Oper} {o : Oper} {a : Act} {Q : Exit → Act → World → Prop} (hgd : o.guard = none) (s x : Operand) (t : TypeId)
    (ho : o.op = .call { callee := .builtin .append, args := #[s, x], argTypes := #[t, t] })
    (base : Nat) (e : TypeId) (i : TypeInfo) (z : Value) (size bytes : Nat) (ht : P.underlying t = some (.slice e)) (hi : P.info? e = some i) (hz : i.zero = some z)
    (hsize : i.size = size) (hby : i.bytes = bytes) (hzs : z.cells.size = size) (hsz : 0 < size)
    (v : Value) (n : Nat) (xs : List Value) (hown : w.ownsRow base e size v n xs) (hs : a.eval s = v)
    (cs : Array Value) (hx : a.eval x = .slice (some ⟨w.heap.size, 0, none⟩) 1 1) (hcs : cs.size = size) (h1 : ∀ u ∈ cs.toList, u.oneCell' = true)
    (hn : n + 1 ≤ 1000000) (hb1 : bytes ≤ 1000) (hbase : base ≤ w.heap.size)
    (h : ∀ g' cap' w' row, w'.ownsRow base e size (.slice (some ⟨g', 0, none⟩) (n + 1) cap') (n + 1) (xs ++ cs.toList) → base ≤ g' → Below base w w' → (∀ T n₀ Bs, T ≠ e → n₀ ≤ base → (∀ x ∈ Bs, x < base) → KeepB T n₀ Bs w w') → w.grownBy w' row → (∀ r, row = some r → base ≤ r ∧ ∃ cur fz, w.heap[r]? = some (.cells cur e fz)) → wpListIn F nF P ops Q rest (a.put o.dst (.slice (some ⟨g', 0, none⟩) (n + 1) cap')) w') :
    wpListIn F nF P ops Q (o :: rest) a (w.alloc (.cells cs e)) := by
  have hle : (n + 1) * bytes ≤ 140737488355328 := by
    have := Nat.mul_le_mul hn hb1; omega
  refine wpListIn_append_own _ hgd s x t ho base e i z size bytes ht hi hz hsize hby hzs hsz v n xs hs (hown.alloc _) ⟨w.heap.size, 0, none⟩ 1 1 cs.toList hx (by simpa using hcs) ?_ h1 (by unfold maxLen; omega) hle (by simp; omega) ?_
  · intro j u hu
    have hadd : (⟨w.heap.size, 0, none⟩ : Addr).add j = ⟨w.heap.size, j, none⟩ := by unfold Addr.add; split <;> simp_all
    rw [hadd, cell_of_row _ w.heap.size j cs e (0, 0) (heap_alloc_new w _)]
    simpa using hu
  · intro v' w' h2 h3 _
    have hg : w.grownBy w' v.ownBlock := ⟨h3.os, h3.tape, h3.output, Nat.le_trans (by simp) h3.size, fun k hk hne => (h3.block k (by simp; omega) hne).trans (Below.heap_alloc w _ k hk)⟩
    obtain ⟨g', cap', rfl⟩ := ownsRow_succ h2
    have hg' : base ≤ g' := (h2.lt g' rfl).1
    refine h g' cap' w' v.ownBlock h2 hg' ((Below.refl base w).grown hg hbase (fun k hk => (hown.lt k hk).1)) (fun T n₀ Bs hT hn0 hB => ?_) hg (fun r hr => ⟨(hown.lt r hr).1, own_row hown r hr⟩)
    rcases hown.2 with ⟨rfl, _⟩ | ⟨g, cap, cur, rfl, hgb, hgh, _⟩
    · have hup : Up w w' := Up.of ((Below.refl w.heap.size w).grown hg (Nat.le_refl _) (fun k hk => by cases hk))
      exact keepB_up hup (by omega) (fun x hx => by have := hB x hx; omega)
    · exact keepB_grown (b := g) hg hgh (fun e => hT e.symm) (by omega) (by omega) (fun x hx => by have := hB x hx; omega)
theorem rowI_app {n : Nat} {es : Ents} {cs : List Bs} {X w6 : World} {e : Ent} {g' cap' : Nat} {row : Option Nat} {u : Value} (h : RowI n (es, cs) X) (ho : w6.ownsRow (n + 8) 106 4 (.slice (some ⟨g', 0, none⟩) (es.length + 1) cap') (es.length + 1) (entV es ++ [.int .u64 (e.id : Int), .int .u64 (e.off : Int), .int .u32 (e.len : Int), .int .u32 (e.run : Int)]))
    (hg : X.grownBy w6 row) (hr : ∀ r, row = some r → n + 8 ≤ r ∧ ∃ cur fz, X.heap[r]? = some (.cells cur 106 fz)) (hu : u = .slice (some ⟨g', 0, none⟩) (es.length + 1) cap') :
    RowI n (es ++ [e], cs) (w6.setCell ⟨n + 1 + 1 + 1 + 1, 0, none⟩ u) := by
  subst hu
  obtain ⟨v, tv, pv, mv, g1, g2, g3, g4, g5, g6, g7, g8⟩ := h
  have hrr : ∀ q, row = some q → ∃ cur fz, X.heap[q]? = some (.cells cur 106 fz) := fun q e => (hr q e).2
  have hb : ∀ {j : Nat} {o : Obj}, X.heap[j]? = some o → j < n + 8 → w6.heap[j]? = some o := fun hj hl => (hg.block _ (Array.getElem?_eq_some_iff.1 hj).1 (fun e => by have := (hr _ e.symm).1; omega)).trans hj
  have hg2 := grown_set w6 (n + 1 + 1 + 1 + 1) (.slice (some ⟨g', 0, none⟩) (es.length + 1) cap')
  have hb2 : ∀ {j : Nat} {o : Obj}, w6.heap[j]? = some o → j ≠ n + 1 + 1 + 1 + 1 → (w6.setCell ⟨n + 1 + 1 + 1 + 1, 0, none⟩ (.slice (some ⟨g', 0, none⟩) (es.length + 1) cap')).heap[j]? = some o := fun hj hl => (hg2.block _ (Array.getElem?_eq_some_iff.1 hj).1 (by intro e; injection e with e; omega)).trans hj
  have hr2 : ∀ q, some (n + 1 + 1 + 1 + 1) = some q → ∃ cur fz, w6.heap[q]? = some (.cells cur 58 fz) := by
    intro q e; injection e with e; subst e; exact ⟨_, _, hb g1 (by omega)⟩
  refine ⟨_, tv, pv, mv, heap_setCell_same w6 _ 0 _ _ _ (hb g1 (by omega)), ?_, hb2 (hb g3 (by omega)) (by omega), own_other (own_other g4 hg hrr (by decide)) hg2 hr2 (by decide), own_other (own_other g5 hg hrr (by decide)) hg2 hr2 (by decide), (g6.other hg (fun q e => ?_)).other hg2 (fun q e => ?_), hb2 (hb g7 (by omega)) (by omega), hb2 (hb g8 (by omega)) (by omega)⟩
  · rw [List.length_append, entV_snoc]
    exact own_other ho hg2 hr2 (by decide)
  · obtain ⟨cur, fz, h⟩ := hrr q e; exact ⟨_, _, _, h, by decide⟩
  · obtain ⟨cur, fz, h⟩ := hr2 q e; exact ⟨_, _, _, h, by decide⟩
theorem rowI_run {n : Nat} {pre : Ents} {b : Ent} {cs : List Bs} {X : World} {g tl cap r' : Nat} (h : RowI n (pre ++ [b], cs) X) (hv : X.heap[n + 1 + 1 + 1 + 1]? = some (.cells #[.slice (some ⟨g, 0, none⟩) tl cap] 58 (0, 0))) :
    RowI n (pre ++ [{ b with run := r' }], cs) (X.setCell ⟨g, pre.length * 4 + 3, none⟩ (.int .u32 (r' : Int))) ∧ X.grownBy (X.setCell ⟨g, pre.length * 4 + 3, none⟩ (.int .u32 (r' : Int))) (some g) ∧ n + 8 ≤ g ∧ ∃ cur fz, X.heap[g]? = some (.cells cur 106 fz) := by
  obtain ⟨v, tv, pv, mv, g1, g2, g3, g4, g5, g6, g7, g8⟩ := h
  rw [hv] at g1
  injection g1 with g1
  injection g1 with g1
  simp at g1
  subst g1
  have htl : tl = (pre ++ [b]).length := by
    rcases g2.2 with ⟨h', _⟩ | ⟨_, _, _, h', _⟩
    · simp at h'
    · simp only [Value.slice.injEq] at h'; exact h'.2.1
  have hlt := g2.lt g rfl
  obtain ⟨cur, fz, hcur⟩ := own_row g2 g rfl
  obtain ⟨s1, s2⟩ := World.ownsRow.stored (by rw [htl] at g2; exact g2) (pre.length * 4 + 3) (.int .u32 (r' : Int))
  have hrr : ∀ q, some g = some q → ∃ cur fz, X.heap[q]? = some (.cells cur 106 fz) := by
    intro q e; injection e with e; subst e; exact ⟨_, _, hcur⟩
  have hb : ∀ {j : Nat} {o : Obj}, X.heap[j]? = some o → j < n + 8 → (X.setCell ⟨g, pre.length * 4 + 3, none⟩ (.int .u32 (r' : Int))).heap[j]? = some o := fun hj hl => (s2.block _ (Array.getElem?_eq_some_iff.1 hj).1 (by intro e; injection e with e; omega)).trans hj
  refine ⟨⟨_, tv, pv, mv, hb hv (by omega), ?_, hb g3 (by omega), own_other g4 s2 hrr (by decide), own_other g5 s2 hrr (by decide), g6.other s2 (fun q e => ?_), hb g7 (by omega), hb g8 (by omega)⟩, s2, hlt.1, cur, fz, hcur⟩
  · rw [entV_run] at s1
    rw [htl]
    simpa using s1
  · obtain ⟨cur, fz, h⟩ := hrr q e; exact ⟨_, _, _, h, by decide⟩
end Go.Proofs.YtgoelpjkfofbbaaGreatDoor
