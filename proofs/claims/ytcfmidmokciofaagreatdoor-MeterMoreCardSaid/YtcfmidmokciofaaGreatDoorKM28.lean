/- merge.Rows: what holds between its rounds. -/
import Derived.Test.YtcfmidmokciofaaGreatDoorKM26
import Derived.Test.YtcfmidmokciofaaGreatDoorKM25
import Derived.Test.YtcfmidmokciofaaGreatDoorKM27
import Derived.Laws.EntriesVeiled
import Derived.Laws.OwnMore
namespace Go.Proofs.YtcfmidmokciofaaGreatDoor
open Go.RowKit Go.Gz Go.Shelf Go.Maps Go.ChangeShapes Go.WideElems
open Go.ChangeMaps (setBlock)

set_option maxRecDepth 100000
theorem good_take {L : Items} (h : Gz.Good L) (k : Nat) : Gz.Good (L.take k) := by
  refine ⟨?_, by have := h.len; rw [List.length_take]; omega, fun y hy => h.id y (List.mem_of_mem_take hy), fun y hy => h.ne y (List.mem_of_mem_take hy), fun y hy => h.sz y (List.mem_of_mem_take hy)⟩
  have := (srt_iff _).1 h.srt
  exact (srt_iff _).2 (List.Pairwise.sublist (List.take_sublist k L) this)
theorem total_take (L : Items) (k : Nat) : total (L.take k) ≤ total L := by
  have h : total L = total (L.take k) + total (L.drop k) := by
    unfold total
    conv => lhs; rw [← List.take_append_drop k L, List.map_append, List.sum_append]
  omega
theorem rows_cs_len (L : Items) : (rowsL L).2.length ≤ L.length := by
  induction L using snoc_ind with
  | h0 => simp [rowsL]
  | h1 L x ih =>
    rw [rows_snoc]
    unfold rowsStep addC
    simp only
    split
    · simp; omega
    · simp; omega
theorem entV_run (pre : Ents) (b : Ent) (v : Nat) : (entV (pre ++ [b])).set (pre.length * 4 + 3) (.int .u32 (v : Int)) = entV (pre ++ [{ b with run := v }]) := by
  rw [entV_snoc, entV_snoc, List.set_append_right _ _ (by rw [entV_len]; omega), entV_len]
  rw [show pre.length * 4 + 3 - pre.length * 4 = 3 by omega]
  rfl
theorem mapP_put {W : World} {base k : Nat} {o' : Obj} {mv : Value} {cs : List Bs} (h : MapP W base mv cs) (hk : k < base) (hc : ∃ o, W.heap[k]? = some o ∧ o.isCells = false) : MapP (W.putObj k o') base mv cs := by
  obtain ⟨o, ho, hnc⟩ := hc
  rcases h with h | ⟨M, gb, D, h1, h2, h3, h4⟩
  · exact .inl h
  · have hg := grownBy_putObj' W k o'
    refine .inr ⟨M, gb, D, h1, ⟨h2.1, Nat.le_trans h2.2 hg.size⟩, ?_, h4⟩
    have h0 := h3
    obtain ⟨es, clock, hb, F, _⟩ := h0
    refine h3.kept hg ?_ ?_
    · intro e
      injection e with e
      omega
    · intro es' clock' hb' x hx
      rw [hb] at hb'
      injection hb' with hb'
      injection hb' with e1 e2
      subst e1 e2
      obtain ⟨y, hy⟩ := F.reads x hx
      obtain ⟨z, hz, _⟩ := rd_val hy
      obtain ⟨zs, hoi, _⟩ := rowElem_inv hz
      cases hx' : x.val.ownBlock with
      | none => exact Or.inl rfl
      | some g =>
        refine Or.inr (fun e1 => ?_)
        injection e1 with e1
        subst e1
        obtain ⟨cur', fz', h5⟩ := own_row hoi.1 _ hx'
        rw [ho] at h5
        injection h5 with h5
        subst h5
        cases hnc
theorem own_put {W : World} {base k : Nat} {e : TypeId} {size n : Nat} {v : Value} {xs : List Value} {o' : Obj} (h : W.ownsRow base e size v n xs) (hk : k < base) : (W.putObj k o').ownsRow base e size v n xs := by
  refine h.kept (grownBy_putObj' W k o') ?_
  cases hv : v.ownBlock with
  | none => exact .inl rfl
  | some g => have := (h.lt g hv).1; right; intro e; injection e with e; omega
theorem own_keep {W W' : World} {base b B : Nat} {e : TypeId} {size n : Nat} {v : Value} {xs : List Value} (h : W.ownsRow b e size v n xs) (hk : PKeep base B W W') (h1 : e ≠ 5) (h2 : e ≠ 124) (h3 : e ≠ 3) (h4 : e ≠ 208) : W'.ownsRow b e size v n xs := by
  refine ⟨h.1, ?_⟩
  rcases h.2 with g | ⟨g, cap, cur, g1, g2, g3, g4⟩
  · exact .inl g
  · exact .inr ⟨g, cap, cur, g1, g2, hk.typ _ _ _ _ g3 h1 h2 h3 h4, g4⟩
theorem PKeep.keepB {base B n₀ : Nat} {Bs : List Nat} {T : TypeId} {W W' : World} (h : PKeep base B W W') (h0 : n₀ ≤ base) (hB : n₀ ≤ B) (hs : ∀ x ∈ Bs, x < base ∧ x ≠ B) (h1 : T ≠ 5) (h2 : T ≠ 124) (h3 : T ≠ 3) (h4 : T ≠ 208) : KeepB T n₀ Bs W W' := by
  refine ⟨h.size, fun p hp => ?_, fun r cs fz hr => h.typ r cs T fz hr h1 h2 h3 h4⟩
  unfold World.cell?
  rw [h.below p.block (by rcases hp with hp | hp; · omega
                          · exact (hs _ hp).1) (by rcases hp with hp | hp; · omega
                                                   · exact (hs _ hp).2)]
theorem PKeep.toUp {base B : Nat} {w W W' : World} (h : PKeep base B W W') (hu : Up w W) (h0 : w.heap.size ≤ base) (hB : w.heap.size ≤ B) : Up w W' :=
  ⟨h.os.trans hu.os, h.tape.trans hu.tape, h.output.trans hu.output, Nat.le_trans hu.size h.size, fun k hk => (h.below k (by omega) (by omega)).trans (hu.block hk)⟩
abbrev goesF : Value := .func (.func 49) #[] #[]
/-- between the rounds: entries, a pool -/
def RowI (n : Nat) (R : Ents × List Bs) (W : World) : Prop := ∃ v tv pv mv, W.heap[n + 1 + 1 + 1 + 1]? = some (.cells #[v] 38 (0, 0)) ∧ W.ownsRow (n + 8) 72 4 v R.1.length (entV R.1) ∧
  W.heap[n + 1 + 1]? = some (.cells #[tv, pv, mv] 208 (0, 0)) ∧ W.ownsRow (n + 8) 5 1 tv R.2.flatten.length (byV R.2.flatten) ∧ W.ownsRow (n + 8) 124 2 pv R.2.length (plV R.2) ∧ MapP W (n + 8) mv R.2 ∧
  W.heap[n + 1]? = some (.cells #[goesF] 114 (0, 0)) ∧ W.heap[n + 1 + 1 + 1]? = some (.cells #[.pointer (some ⟨n + 1 + 1, 0, none⟩)] 118 (0, 0))
theorem rowI_up {n : Nat} {R : Ents × List Bs} {W W' : World} (h : RowI n R W) (hu : Up W W') : RowI n R W' := by
  obtain ⟨v, tv, pv, mv, h1, h2, h3, h4, h5, h6, h7, h8⟩ := h
  exact ⟨v, tv, pv, mv, hu.obj h1, own_up h2 hu, hu.obj h3, own_up h4 hu, own_up h5 hu, h6.up hu, hu.obj h7, hu.obj h8⟩
theorem rowI_put {n k : Nat} {R : Ents × List Bs} {W : World} {o' : Obj} (h : RowI n R W) (h0 : n + 6 ≤ k) (h1 : k < n + 8) (hc : ∃ o, W.heap[k]? = some o ∧ o.isCells = false) : RowI n R (W.putObj k o') := by
  obtain ⟨v, tv, pv, mv, g1, g2, g3, g4, g5, g6, g7, g8⟩ := h
  exact ⟨v, tv, pv, mv, (World.putObj_heap_other (by omega)).trans g1, own_put g2 h1, (World.putObj_heap_other (by omega)).trans g3, own_put g4 h1, own_put g5 h1, mapP_put g6 h1 hc, (World.putObj_heap_other (by omega)).trans g7, (World.putObj_heap_other (by omega)).trans g8⟩
theorem rowI_T {n r : Nat} {R : Ents × List Bs} {W W' : World} {cs : Array Value} {fz : Nat × Nat} (h : RowI n R W) (h0 : n + 8 ≤ r) (hr : W.heap[r]? = some (.cells cs 29 fz)) (hg : W.grownBy W' (some r)) : RowI n R W' := by
  obtain ⟨v, tv, pv, mv, g1, g2, g3, g4, g5, g6, g7, g8⟩ := h
  have hrr : ∀ q, some r = some q → ∃ cur fz, W.heap[q]? = some (.cells cur 29 fz) := by
    intro q e; injection e with e; subst e; exact ⟨_, _, hr⟩
  have hb : ∀ {j : Nat} {o : Obj}, W.heap[j]? = some o → j < n + 8 → W'.heap[j]? = some o := fun hj hl => (hg.block _ (Array.getElem?_eq_some_iff.1 hj).1 (by intro e; injection e with e; omega)).trans hj
  exact ⟨v, tv, pv, mv, hb g1 (by omega), own_other g2 hg hrr (by decide), hb g3 (by omega), own_other g4 hg hrr (by decide), own_other g5 hg hrr (by decide), g6.other hg (fun q e => by obtain ⟨cur, fz, h⟩ := hrr q e; exact ⟨_, _, _, h, by decide⟩), hb g7 (by omega), hb g8 (by omega)⟩
/-- 'append(s, x)' onto a slice of the call's own, in a round; of what the row's block was -/
theorem app_oneInG {F : Fence} {nF : Nat} {P : Program} (w : World) {ops : Array Oper} {rest : List Oper} {o : Oper} {a : Act} {Q : Exit → Act → World → Prop} (hgd : o.guard = none) (s x : Operand) (t : TypeId)
    (ho : o.op = .call { callee := .builtin .append, args := #[s, x], argTypes := #[t, t] })
    (base : Nat) (e : TypeId) (i : TypeInfo) (z : Value) (size bytes : Nat) (ht : P.underlying t = some (.slice e)) (hi : P.info? e = some i) (hz : i.zero = some z)
    (hsize : i.size = size) (hby : i.bytes = bytes) (hzs : z.cells.size = size) (hsz : 0 < size)
    (v : Value) (n : Nat) (xs : List Value) (hown : w.ownsRow base e size v n xs) (hs : a.eval s = v)
    (cs : Array Value) (hx : a.eval x = .slice (some ⟨w.heap.size, 0, none⟩) 1 1) (hcs : cs.size = size) (h1 : ∀ u ∈ cs.toList, u.oneCell' = true)
    (hn : n + 1 ≤ 1000000) (hb1 : bytes ≤ 1000) (hbase : base ≤ w.heap.size)
    (h : ∀ g' cap' w' row, w'.ownsRow base e size (.slice (some ⟨g', 0, none⟩) (n + 1) cap') (n + 1) (xs ++ cs.toList) → base ≤ g' → Below base w w' → (∀ T n₀ Bs, T ≠ e → n₀ ≤ base → (∀ x ∈ Bs, x < base) → KeepB T n₀ Bs w w') → w.grownBy w' row → (∀ r, row = some r → base ≤ r ∧ ∃ cur fz, w.heap[r]? = some (.cells cur e fz)) → wpListIn F nF P ops Q rest (a.put o.dst (.slice (some ⟨g', 0, none⟩) (n + 1) cap')) w') :
    wpListIn F nF P ops Q (o :: rest) a (w.alloc (.cells cs e)) := by
  have hle : (n + 1) * bytes ≤ 140737488355328 := by
    have := Nat.mul_le_mul hn hb1; omega
  refine wpListIn_append_own _ hgd s x t ho base e i z size bytes ht hi hz hsize hby hzs hsz v n xs hs (hown.alloc _) ⟨w.heap.size, 0, none⟩ 1 1 cs.toList hx (by simpa using hcs) ?_ h1 (by unfold maxLen; omega) hle (by simp; omega) ?_
  · intro j u hu
    have hadd : (⟨w.heap.size, 0, none⟩ : Addr).add j = ⟨w.heap.size, j, none⟩ := by unfold Addr.add; split <;> simp_all
    rw [hadd, cell_of_row _ w.heap.size j cs e (0, 0) (heap_alloc_new w _)]
    simpa using hu
  · intro v' w' h2 h3 _
    have hg : w.grownBy w' v.ownBlock := ⟨h3.os, h3.tape, h3.output, Nat.le_trans (by simp) h3.size, fun k hk hne => (h3.block k (by simp; omega) hne).trans (Below.heap_alloc w _ k hk)⟩
    obtain ⟨g', cap', rfl⟩ := ownsRow_succ h2
    have hg' : base ≤ g' := (h2.lt g' rfl).1
    refine h g' cap' w' v.ownBlock h2 hg' ((Below.refl base w).grown hg hbase (fun k hk => (hown.lt k hk).1)) (fun T n₀ Bs hT hn0 hB => ?_) hg (fun r hr => ⟨(hown.lt r hr).1, own_row hown r hr⟩)
    rcases hown.2 with ⟨rfl, _⟩ | ⟨g, cap, cur, rfl, hgb, hgh, _⟩
    · have hup : Up w w' := Up.of ((Below.refl w.heap.size w).grown hg (Nat.le_refl _) (fun k hk => by cases hk))
      exact keepB_up hup (by omega) (fun x hx => by have := hB x hx; omega)
    · exact keepB_grown (b := g) hg hgh (fun e => hT e.symm) (by omega) (by omega) (fun x hx => by have := hB x hx; omega)
theorem rowI_app {n : Nat} {es : Ents} {cs : List Bs} {X w6 : World} {e : Ent} {g' cap' : Nat} {row : Option Nat} {u : Value} (h : RowI n (es, cs) X) (ho : w6.ownsRow (n + 8) 72 4 (.slice (some ⟨g', 0, none⟩) (es.length + 1) cap') (es.length + 1) (entV es ++ [.int .u64 (e.id : Int), .int .u64 (e.off : Int), .int .u32 (e.len : Int), .int .u32 (e.run : Int)]))
    (hg : X.grownBy w6 row) (hr : ∀ r, row = some r → n + 8 ≤ r ∧ ∃ cur fz, X.heap[r]? = some (.cells cur 72 fz)) (hu : u = .slice (some ⟨g', 0, none⟩) (es.length + 1) cap') :
    RowI n (es ++ [e], cs) (w6.setCell ⟨n + 1 + 1 + 1 + 1, 0, none⟩ u) := by
  subst hu
  obtain ⟨v, tv, pv, mv, g1, g2, g3, g4, g5, g6, g7, g8⟩ := h
  have hrr : ∀ q, row = some q → ∃ cur fz, X.heap[q]? = some (.cells cur 72 fz) := fun q e => (hr q e).2
  have hb : ∀ {j : Nat} {o : Obj}, X.heap[j]? = some o → j < n + 8 → w6.heap[j]? = some o := fun hj hl => (hg.block _ (Array.getElem?_eq_some_iff.1 hj).1 (fun e => by have := (hr _ e.symm).1; omega)).trans hj
  have hg2 := grown_set w6 (n + 1 + 1 + 1 + 1) (.slice (some ⟨g', 0, none⟩) (es.length + 1) cap')
  have hb2 : ∀ {j : Nat} {o : Obj}, w6.heap[j]? = some o → j ≠ n + 1 + 1 + 1 + 1 → (w6.setCell ⟨n + 1 + 1 + 1 + 1, 0, none⟩ (.slice (some ⟨g', 0, none⟩) (es.length + 1) cap')).heap[j]? = some o := fun hj hl => (hg2.block _ (Array.getElem?_eq_some_iff.1 hj).1 (by intro e; injection e with e; omega)).trans hj
  have hr2 : ∀ q, some (n + 1 + 1 + 1 + 1) = some q → ∃ cur fz, w6.heap[q]? = some (.cells cur 38 fz) := by
    intro q e; injection e with e; subst e; exact ⟨_, _, hb g1 (by omega)⟩
  refine ⟨_, tv, pv, mv, heap_setCell_same w6 _ 0 _ _ _ (hb g1 (by omega)), ?_, hb2 (hb g3 (by omega)) (by omega), own_other (own_other g4 hg hrr (by decide)) hg2 hr2 (by decide), own_other (own_other g5 hg hrr (by decide)) hg2 hr2 (by decide), (g6.other hg (fun q e => ?_)).other hg2 (fun q e => ?_), hb2 (hb g7 (by omega)) (by omega), hb2 (hb g8 (by omega)) (by omega)⟩
  · rw [List.length_append, entV_snoc]
    exact own_other ho hg2 hr2 (by decide)
  · obtain ⟨cur, fz, h⟩ := hrr q e; exact ⟨_, _, _, h, by decide⟩
  · obtain ⟨cur, fz, h⟩ := hr2 q e; exact ⟨_, _, _, h, by decide⟩
theorem rowI_run {n : Nat} {pre : Ents} {b : Ent} {cs : List Bs} {X : World} {g tl cap r' : Nat} (h : RowI n (pre ++ [b], cs) X) (hv : X.heap[n + 1 + 1 + 1 + 1]? = some (.cells #[.slice (some ⟨g, 0, none⟩) tl cap] 38 (0, 0))) :
    RowI n (pre ++ [{ b with run := r' }], cs) (X.setCell ⟨g, pre.length * 4 + 3, none⟩ (.int .u32 (r' : Int))) ∧ X.grownBy (X.setCell ⟨g, pre.length * 4 + 3, none⟩ (.int .u32 (r' : Int))) (some g) ∧ n + 8 ≤ g ∧ ∃ cur fz, X.heap[g]? = some (.cells cur 72 fz) := by
  obtain ⟨v, tv, pv, mv, g1, g2, g3, g4, g5, g6, g7, g8⟩ := h
  rw [hv] at g1
  injection g1 with g1
  injection g1 with g1
  simp at g1
  subst g1
  have htl : tl = (pre ++ [b]).length := by
    rcases g2.2 with ⟨h', _⟩ | ⟨_, _, _, h', _⟩
    · simp at h'
    · simp only [Value.slice.injEq] at h'; exact h'.2.1
  have hlt := g2.lt g rfl
  obtain ⟨cur, fz, hcur⟩ := own_row g2 g rfl
  obtain ⟨s1, s2⟩ := World.ownsRow.stored (by rw [htl] at g2; exact g2) (pre.length * 4 + 3) (.int .u32 (r' : Int))
  have hrr : ∀ q, some g = some q → ∃ cur fz, X.heap[q]? = some (.cells cur 72 fz) := by
    intro q e; injection e with e; subst e; exact ⟨_, _, hcur⟩
  have hb : ∀ {j : Nat} {o : Obj}, X.heap[j]? = some o → j < n + 8 → (X.setCell ⟨g, pre.length * 4 + 3, none⟩ (.int .u32 (r' : Int))).heap[j]? = some o := fun hj hl => (s2.block _ (Array.getElem?_eq_some_iff.1 hj).1 (by intro e; injection e with e; omega)).trans hj
  refine ⟨⟨_, tv, pv, mv, hb hv (by omega), ?_, hb g3 (by omega), own_other g4 s2 hrr (by decide), own_other g5 s2 hrr (by decide), g6.other s2 (fun q e => ?_), hb g7 (by omega), hb g8 (by omega)⟩, s2, hlt.1, cur, fz, hcur⟩
  · rw [entV_run] at s1
    rw [htl]
    simpa using s1
  · obtain ⟨cur, fz, h⟩ := hrr q e; exact ⟨_, _, _, h, by decide⟩
end Go.Proofs.YtcfmidmokciofaaGreatDoor
/- Walk: merge.Rows. -/
namespace Go.Proofs.YtcfmidmokciofaaGreatDoor
open Go.RowKit Go.Gz Go.Shelf

set_option maxRecDepth 100000
attribute [local go_sem] Oper.semAt_some
/-- entries and contents -/
def RowsE (w : World) (L : Items) (en : Ending) (w' : World) : Prop := ∃ A c, en = .returned (.tuple #[.slice A (rowsL L).1.length c, .string ⟨(rowsL L).2.flatten.toArray⟩]) ∧ Rd w' 4 A (rowsL L).1.length c (entV (rowsL L).1) ∧ Up w w'
theorem Rd.low2 {w : World} {L : Items} {A : Option Addr} {c : Nat} (hr : Rd w 2 A L.length c (itV L)) : ∀ a, A = some a → 0 < L.length → a.block < w.heap.size := fun a ha hn => by
  obtain ⟨b, o, e, hc⟩ := hr.2.2.2.2 hn
  rw [ha] at e; injection e with e; subst e
  obtain ⟨u, hu⟩ : ∃ u, (itV L)[0]? = some u := ⟨_, List.getElem?_eq_getElem (by rw [itV_len]; omega)⟩
  exact World.block_lt_of_cell? _ _ (hc 0 u hu)
theorem push_last {pre : Ents} {b e : Ent} : pushE (pre ++ [b]) e = if goesE b e then pre ++ [{ b with run := b.run + 1 }] else pre ++ [b] ++ [e] := by
  unfold pushE
  rw [List.getLast?_append]
  simp
set_option maxHeartbeats 16000000 in
theorem rows_any (L : Items) (hg : Gz.Good L) (hl : L.length ≤ 1000) (ht : total L ≤ 400000) (A : Option Addr) (c : Nat) (w : World) (hr : Rd w 2 A L.length c (itV L)) :
    Calls Tryz.prog 23 #[.agg #[.slice A L.length c]] w (RowsE w L) := by
  have hA := hr.low2
  obtain ⟨i0, hi, hz0, hz1, hz2⟩ := info_parts infoEn
  refine (callsIn_wide (n := 3)).1 ?_
  refine callsIn_of_wp_marks Tryz.func23 rfl trivial ?_ rfl
  simp only [Tryz.ntmps23, List.size_toArray, List.length_cons, List.length_nil, Nat.reduceAdd, Nat.reduceSub, Array.replicate_succ, Array.replicate_zero, List.push_toArray, List.append_toArray, List.nil_append, List.cons_append]
  gi_wp2
  refine ⟨trivial, (callsIn_wide.2 (new_any _)).mono ?_⟩
  rintro e w1 ⟨rfl, rfl⟩
  gi_wp2
  refine ⟨trivial, (callsIn_wide.2 (each_any _ _ _ _)).mono ?_⟩
  rintro e w2 ⟨rfl, rfl⟩
  gi_wp2
  have hq1 := heap_alloc_new (w.alloc (.cells #[.slice A L.length c] 29)) (.cells #[goesF] 114)
  have hq2 := heap_alloc_new ((w.alloc (.cells #[.slice A L.length c] 29)).alloc (.cells #[goesF] 114)) (.cells #[.slice none 0 0, .slice none 0 0, .map none] 208)
  have hq3 := heap_alloc_new (((w.alloc (.cells #[.slice A L.length c] 29)).alloc (.cells #[goesF] 114)).alloc (.cells #[.slice none 0 0, .slice none 0 0, .map none] 208)) (.cells #[.pointer (some ⟨w.heap.size + 1 + 1, 0, none⟩)] 118)
  have hq4 := heap_alloc_new ((((w.alloc (.cells #[.slice A L.length c] 29)).alloc (.cells #[goesF] 114)).alloc (.cells #[.slice none 0 0, .slice none 0 0, .map none] 208)).alloc (.cells #[.pointer (some ⟨w.heap.size + 1 + 1, 0, none⟩)] 118)) (.cells #[.slice none 0 0] 38)
  have hq5 := heap_alloc_new (((((w.alloc (.cells #[.slice A L.length c] 29)).alloc (.cells #[goesF] 114)).alloc (.cells #[.slice none 0 0, .slice none 0 0, .map none] 208)).alloc (.cells #[.pointer (some ⟨w.heap.size + 1 + 1, 0, none⟩)] 118)).alloc (.cells #[.slice none 0 0] 38)) (.cells #[.slice A L.length c] 29)
  simp only [World.size_alloc] at hq1 hq2 hq3 hq4 hq5
  replace hq1 := (((((Up.refl _).alloc (.cells #[.slice none 0 0, .slice none 0 0, .map none] 208)).alloc (.cells #[.pointer (some ⟨w.heap.size + 1 + 1, 0, none⟩)] 118)).alloc (.cells #[.slice none 0 0] 38)).alloc (.cells #[.slice A L.length c] 29)).obj hq1
  replace hq2 := ((((Up.refl _).alloc (.cells #[.pointer (some ⟨w.heap.size + 1 + 1, 0, none⟩)] 118)).alloc (.cells #[.slice none 0 0] 38)).alloc (.cells #[.slice A L.length c] 29)).obj hq2
  replace hq3 := (((Up.refl _).alloc (.cells #[.slice none 0 0] 38)).alloc (.cells #[.slice A L.length c] 29)).obj hq3
  replace hq4 := ((Up.refl _).alloc (.cells #[.slice A L.length c] 29)).obj hq4
  have hu2 : Up w ((((((w.alloc (.cells #[.slice A L.length c] 29)).alloc (.cells #[goesF] 114)).alloc (.cells #[.slice none 0 0, .slice none 0 0, .map none] 208)).alloc (.cells #[.pointer (some ⟨w.heap.size + 1 + 1, 0, none⟩)] 118)).alloc (.cells #[.slice none 0 0] 38)).alloc (.cells #[.slice A L.length c] 29)) := ((((((Up.refl w).alloc _).alloc _).alloc _).alloc _).alloc _).alloc _
  have hI0 : RowI w.heap.size (rowsL (L.take 0)) ((((((w.alloc (.cells #[.slice A L.length c] 29)).alloc (.cells #[goesF] 114)).alloc (.cells #[.slice none 0 0, .slice none 0 0, .map none] 208)).alloc (.cells #[.pointer (some ⟨w.heap.size + 1 + 1, 0, none⟩)] 118)).alloc (.cells #[.slice none 0 0] 38)).alloc (.cells #[.slice A L.length c] 29)) := ⟨_, _, _, _, hq4, World.ownsRow_nil _ _ _ _, hq2, World.ownsRow_nil _ _ _ _, World.ownsRow_nil _ _ _ _, .inl ⟨rfl, rfl⟩, hq1, hq3⟩
  have HW0 := Lib.hid (show ((((((w.alloc (.cells #[.slice A L.length c] 29)).alloc (.cells #[goesF] 114)).alloc (.cells #[.slice none 0 0, .slice none 0 0, .map none] 208)).alloc (.cells #[.pointer (some ⟨w.heap.size + 1 + 1, 0, none⟩)] 118)).alloc (.cells #[.slice none 0 0] 38)).alloc (.cells #[.slice A L.length c] 29)).heap.size = w.heap.size + 6 by simp)
  refine wpIn_rangeFunc_all rfl (by omega) (gf := 105) (lb := #[.pointer (some ⟨w.heap.size + 1 + 1 + 1 + 1 + 1, 0, none⟩)]) rfl trivial (enters_of Tryz.func105 (by kernel_rfl) rfl)
    (each_all 29 2 (by omega) L (by omega) (w.heap.size + 1 + 1 + 1 + 1 + 1) w.heap.size A c _ (blk_one hq5).1 (hr.up hu2) hA) keepB_t
    (fun W k o o' h1 _ ho hc => keepB_b W k o o' (by simp at h1; omega) (by simp at h1 ⊢; omega) ho hc) (fun _ => rfl)
    (fun k W => RowI w.heap.size (rowsL (L.take k)) W ∧ Up w W)
    (fun s W k o' h1 h2 hc hI => ?i1) (fun s W W' hI hu => ⟨rowI_up hI.1 hu, hI.2.trans hu⟩) (fun s W W' r cs fz hI h1 hr hg => ?i3)
    ⟨hI0, hu2⟩
    (fun x => { tmps := (.agg #[.slice A L.length c] :: .pointer (some ⟨w.heap.size, 0, none⟩) :: .slice none 0 0 :: .string ⟨#[]⟩ :: .pointer (some ⟨w.heap.size + 1, 0, none⟩) :: .pointer (some ⟨w.heap.size + 1 + 1 + 1, 0, none⟩) :: .pointer (some ⟨w.heap.size + 1 + 1 + 1 + 1, 0, none⟩) :: .int .u64 (x.1 : Int) :: .string ⟨x.2.toArray⟩ :: undef :: undef :: undef :: undef :: undef :: .pointer (some ⟨w.heap.size + 1 + 1, 0, none⟩) :: .agg #[.slice A L.length c] :: .func (.func 105) #[] #[.pointer (some ⟨w.heap.size + 1 + 1 + 1 + 1 + 1, 0, none⟩)] :: .int .u64 (x.1 : Int) :: .string ⟨x.2.toArray⟩ :: undef :: undef :: undef :: undef :: undef :: undef :: undef :: undef :: undef :: undef :: undef :: undef :: undef :: undef :: undef :: undef :: undef :: undef :: undef :: undef :: undef :: undef :: undef :: undef :: undef :: undef :: undef :: undef :: undef :: undef :: undef :: undef :: undef :: undef :: undef :: undef :: undef :: undef :: undef :: undef :: undef :: undef :: undef :: undef :: []).toArray, defers := [] }) ?assign ?body ?done
  case i1 =>
    rw [HW0.out] at h1 h2
    exact ⟨rowI_put hI.1 h1 (by omega) hc, Up.of (hI.2.below.grown (grownBy_putObj' W k o') hI.2.le (fun j e => by cases e; omega))⟩
  case i3 =>
    rw [HW0.out] at h1
    exact ⟨rowI_T hI.1 (by omega) hr hg, Up.of (hI.2.below.grown hg hI.2.le (fun j e => by cases e; omega))⟩
  case assign =>
    intro lp x W K hK
    gi_wp2
    exact hK
  case body =>
    rintro lp k x W hx ⟨hI, hU⟩ hsz
    rw [HW0.out] at hsz ⊢
    clear hq1 hq2 hq3 hq4 hq5 hu2 hI0 HW0
    have hmx : Tryz.prog.follows .mixedOrders = true := mixed
    obtain ⟨hkl, hkx⟩ := List.getElem?_eq_some_iff.1 hx
    have hst : rowsL (L.take (k + 1)) = (pushE (rowsL (L.take k)).1 (itemE (rowsL (L.take k)).2 x), addC (rowsL (L.take k)).2 x.2) := by
      rw [List.take_succ_eq_append_getElem hkl, hkx, rows_snoc]
      rfl
    have hmem : x ∈ L := by rw [← hkx]; exact List.getElem_mem _
    have hgk := good_take hg k
    have htk := total_take L k
    obtain ⟨r1, r2, r3, r4, r5, r6, r7, r8⟩ := rows_inv _ hgk (by omega)
    have hok := rows_ok hgk (by omega)
    have hcl := rows_cs_len (L.take k)
    have hlk : (L.take k).length ≤ 1000 := by rw [List.length_take]; omega
    have hne : ∀ s ∈ (rowsL (L.take k)).2, s ≠ [] := fun s hs => by
      obtain ⟨y, hy, e⟩ := r3 s hs
      rw [← e]; exact hgk.ne y hy
    have hit : (itemE (rowsL (L.take k)).2 x) = ⟨x.1, offC (addC (rowsL (L.take k)).2 x.2) x.2, x.2.length, 1⟩ := rfl
    have hxi := hg.id x hmem
    have hxs := hg.sz x hmem
    have hof : offC (addC (rowsL (L.take k)).2 x.2) x.2 ≤ 2000000 := by
      have h1 := off_end (add_mem (rowsL (L.take k)).2 x.2)
      have h2 : (addC (rowsL (L.take k)).2 x.2).flatten.length ≤ (rowsL (L.take k)).2.flatten.length + x.2.length := by
        unfold addC; split
        · omega
        · rw [Gz.flat_snoc, List.length_append]; omega
      omega
    have AD := fun wq hp => Lib.hid (add18_any (rowsL (L.take k)).2 r4 hne (by omega) (by omega) x.2 (hg.ne x hmem) hxs (w.heap.size + 1 + 1) (w.heap.size + 8) wq hp)
    rw [hst, hit]
    have HR6 := Lib.hid (fun e (he : e ∈ (rowsL (L.take k)).1) => And.intro (hok e he) (And.intro (r6 e he).1 (show e.run ≤ 1000 by
      have h1 := le_sum (List.mem_map_of_mem (f := fun e : Ent => e.run) he)
      rw [rows_sum] at h1
      omega)))
    have HSL : (rowsL (L.take k)).1.length ≤ 1000 := by omega
    clear hst hit r1 r2 r3 r4 r5 r6 r7 r8 hok hcl hne hgk htk hmem hx hkx hlk
    unfold AddE at AD
    generalize hof' : offC (addC (rowsL (L.take k)).2 x.2) x.2 = of at *
    clear hof'
    generalize hcs' : addC (rowsL (L.take k)).2 x.2 = cs' at *
    clear hcs'
    generalize hdec : decide (x.2 ∉ (rowsL (L.take k)).2) = db at *
    clear hdec
    obtain ⟨v, tv, pv, mv, g1, g2, g3, g4, g5, g6, g7, g8⟩ := hI
    have hP : PoolW W (w.heap.size + 8) (w.heap.size + 1 + 1) (rowsL (L.take k)).2 := ⟨tv, pv, mv, g3, g4, g5, g6, by omega, by omega⟩
    obtain ⟨c4, f4⟩ := blk_one g1
    obtain ⟨c3, _⟩ := blk_one g8
    obtain ⟨x1, xt⟩ := x
    simp only at AD hxi hxs ⊢
    generalize xt.length = ln at *
    generalize (rowsL (L.take k)).1 = es at *
    generalize hPE : pushE es ⟨x1, of, ln, 1⟩ = T at *
    have HPE := Lib.hid hPE
    clear hPE
    have HP := Lib.hid hP
    have HG := Lib.hid (And.intro g1 (And.intro g2 (And.intro g7 g8)))
    clear g1 g2 g3 g4 g5 g6 g7 g8 hP c4 f4
    gi_wp2
    refine ⟨trivial, (CallsIn.inRound lp (callsIn_wide.2 (AD _ HP.out).out)).mono ?_⟩
    rintro e W1 ⟨rfl, hp1, hk1⟩
    obtain ⟨g1, g2, g7, g8⟩ := HG.out
    have e4 := (hk1.below _ (by omega) (by omega)).trans g1
    have o4 := own_keep g2 hk1 (by decide) (by decide) (by decide) (by decide)
    have hR1 : RowI w.heap.size (es, cs') W1 := by
      obtain ⟨tv', pv', mv', p1, p2, p3, p4, p5, p6⟩ := hp1
      exact ⟨v, tv', pv', mv', e4, o4, p1, p2, p3, p4, (hk1.below _ (by omega) (by omega)).trans g7, (hk1.below _ (by omega) (by omega)).trans g8⟩
    have e1 := (hk1.below _ (by omega) (by omega)).trans g7
    have hsz1 : w.heap.size + 8 ≤ W1.heap.size := Nat.le_trans hsz hk1.size
    have HK1 := Lib.hid hk1
    have HD1 := Lib.hid (fun j (h : j < w.heap.size + 8) (h2 : j ≠ w.heap.size + 1 + 1) => hk1.below j h h2)
    have HUW := Lib.hid (hk1.toUp hU (by omega) (by omega))
    have HKB := Lib.hid (hk1.keepB (T := 29) (n₀ := w.heap.size) (Bs := [w.heap.size + 1 + 1 + 1 + 1 + 1]) (by omega) (by omega) (by intro q hq; simp at hq; omega) (by decide) (by decide) (by decide) (by decide))
    clear hp1 hk1 HP HG g1 g2 g7 g8 c3 AD
    obtain ⟨A', c', rfl, r4⟩ := Rd.of_own o4
    have n2 := heap_alloc_new W1 (.cells #[.int .u64 (of : Int), .int .u32 (ln : Int)] 124)
    have n3 := heap_alloc_new (W1.alloc (.cells #[.int .u64 (of : Int), .int .u32 (ln : Int)] 124)) (.cells #[.int .u64 (x1 : Int), .int .u64 (of : Int), .int .u32 (ln : Int), .int .u32 1] 72)
    rw [World.size_alloc] at n3
    have u3 : Up W1 ((W1.alloc (.cells #[.int .u64 (of : Int), .int .u32 (ln : Int)] 124)).alloc (.cells #[.int .u64 (x1 : Int), .int .u64 (of : Int), .int .u32 (ln : Int), .int .u32 1] 72)) := ((Up.refl W1).alloc _).alloc _
    have k0 := blkc n2 0 _ rfl
    have k1 := blkc n2 1 _ rfl
    simp only [List.getElem_toArray, List.getElem_cons_succ, List.getElem_cons_zero] at k0 k1
    have m4 := (blk_one (u3.obj e4)).1
    obtain ⟨X, hX⟩ : ∃ X, (W1.alloc (.cells #[.int .u64 (of : Int), .int .u32 (ln : Int)] 124)).alloc (.cells #[.int .u64 (x1 : Int), .int .u64 (of : Int), .int .u32 (ln : Int), .int .u32 1] 72) = X := ⟨_, rfl⟩
    have hXs : X.heap.size = W1.heap.size + 1 + 1 := by rw [← hX]; simp
    rw [hX] at n3 u3 m4
    have HRX := Lib.hid (rowI_up hR1 u3)
    have HN3 := Lib.hid n3
    have HU3 := Lib.hid u3
    have HE4 := Lib.hid (u3.obj e4)
    have HE1 := Lib.hid (u3.obj e1)
    have HR4 := Lib.hid (r4.up u3)
    have HO4 := Lib.hid (own_up o4 u3)
    clear hR1 e4 e1 o4 r4 n2 n3 u3
    obtain ⟨tl, htl⟩ : ∃ tl, es.length = tl := ⟨_, rfl⟩
    obtain ⟨q, hq⟩ : ∃ q : Int, (tl : Int) - 1 = q := ⟨_, rfl⟩
    have e0 : IntKind.i64.wrap ((tl : Int) - 1) = q := by rw [IntWalk.i64_in _ (by omega)]; exact hq
    have FIN := Lib.hid (fun (R' : Ents × List Bs) (a' : Act) (Y wE : World) (row : Option Nat) (hXY : Up X Y) (hR : RowI w.heap.size R' wE) (hb : ∀ j, j < w.heap.size + 8 → j ≠ w.heap.size + 1 + 1 + 1 + 1 → wE.heap[j]? = Y.heap[j]?) (hkb : KeepB 29 w.heap.size [w.heap.size + 1 + 1 + 1 + 1 + 1] Y wE) (huE : Up w Y → Up w wE) => (by
      have hsY : W1.heap.size ≤ Y.heap.size := by have := hXY.le; omega
      have hu1 := HU3.out.trans hXY
      refine ⟨fun j h1 h2 => ?_, keepB_t HKB.out (keepB_t (keepB_up hu1 (by omega) (by simp; omega)) hkb), hR, huE (HUW.out.trans hu1)⟩
      rw [hb j (by omega) (by omega), hu1.block (by omega)]
      exact HD1.out j (by omega) (by omega) :
      twoPost (w.heap.size + 6) (KeepB 29 w.heap.size [w.heap.size + 1 + 1 + 1 + 1 + 1]) (fun W => RowI w.heap.size R' W ∧ Up w W) W .normal a' wE))
    have APP := Lib.hid (fun (Y : World) (hXY : Up X Y) (g' cap' : Nat) (w6 : World) (row : Option Nat) (ho6 : w6.ownsRow (w.heap.size + 8) 72 4 (.slice (some ⟨g', 0, none⟩) (tl + 1) cap') (tl + 1) (entV es ++ [.int .u64 (x1 : Int), .int .u64 (of : Int), .int .u32 (ln : Int), .int .u32 1])) (hb6 : Below (w.heap.size + 8) Y w6)
        (hk6 : ∀ T n₀ Bs, T ≠ 72 → n₀ ≤ w.heap.size + 8 → (∀ x ∈ Bs, x < w.heap.size + 8) → KeepB T n₀ Bs Y w6) (hg6 : Y.grownBy w6 row) (hr6 : ∀ r, row = some r → w.heap.size + 8 ≤ r ∧ ∃ cur fz, Y.heap[r]? = some (.cells cur 72 fz)) (a' : Act) => (by
      have hsY : W1.heap.size ≤ Y.heap.size := by have := hXY.le; omega
      have hs6 := hg6.size
      have hRE := rowI_app (e := ⟨x1, of, ln, 1⟩) (rowI_up HRX.out hXY) (by rw [htl]; exact ho6) hg6 hr6 rfl
      rw [htl] at hRE
      have h4 := (hb6.block (w.heap.size + 1 + 1 + 1 + 1) (by omega)).trans (hXY.obj HE4.out)
      refine FIN.out (es ++ [⟨x1, of, ln, 1⟩], cs') a' Y _ row hXY hRE (fun j h1 h2 => ?_) (keepB_t (hk6 _ _ _ (by decide) (by omega) (by simp)) (keepB_grown (grown_set w6 (w.heap.size + 1 + 1 + 1 + 1) _) h4 (by decide) (by omega) (by omega) (by simp; omega))) (fun hu => Up.of ((Below.trans hu.below (Below.mono hb6 (by omega))).setCell (p := ⟨w.heap.size + 1 + 1 + 1 + 1, 0, none⟩) (by simp; omega) _))
      exact (Below.heap_setCell w6 ⟨w.heap.size + 1 + 1 + 1 + 1, 0, none⟩ _ j (by simp; omega)).trans (hb6.block j h1) :
      twoPost (w.heap.size + 6) (KeepB 29 w.heap.size [w.heap.size + 1 + 1 + 1 + 1 + 1]) (fun W => RowI w.heap.size (es ++ [⟨x1, of, ln, 1⟩], cs') W ∧ Up w W) W .normal a' (w6.setCell ⟨w.heap.size + 1 + 1 + 1 + 1, 0, none⟩ (.slice (some ⟨g', 0, none⟩) (tl + 1) cap'))))
    rw [htl] at HR4 HO4 HE4 m4
    have HTL := Lib.hid htl
    have htl2 : tl ≤ 1000 := by omega
    clear htl
    have hXle : w.heap.size + 8 ≤ X.heap.size := by omega
    clear hXs
    rcases List.eq_nil_or_concat es with hes | ⟨pre, b, hes⟩
    · have hneg : decide ((0 : Int) ≤ q) = false := decide_eq_false (by
        have := HTL.out; rw [hes] at this; simp at this; omega)
      clear hq
      have hT : es ++ [⟨x1, of, ln, 1⟩] = T := by rw [← HPE.out, hes]; rfl
      rw [hT] at APP
      have HES := Lib.hid hes
      clear hes hT HPE HE1 HR4 HR6
      gi_wp2
      (try rw [hX])
      refine wpIn_region_held (S := fun w' => True) hmx (by kernel_rfl) (by rintro ⟨a, w, h⟩; exact h) ?_ (fun hHeld => ?_)
      · exact trivial
      refine tk 0 rfl ?_
      (try simp only [Act.put, tz1, tz2, tz3])
      refine tk 1 rfl ?_
      (try simp only [Act.put, tz1, tz2, tz3])
      refine tk 2 rfl ?_
      (try simp only [Act.put, tz1, tz2, tz3])
      refine tk 3 rfl ?_
      (try simp only [Act.put, tz1, tz2, tz3])
      refine tk 4 rfl ?_
      (try simp only [Act.put, tz1, tz2, tz3])
      refine tk 5 rfl ?_
      (try simp only [Act.put, tz1, tz2, tz3])
      refine tk 6 rfl ?_
      (try simp only [Act.put, tz1, tz2, tz3])
      refine tk 7 rfl ?_
      (try simp only [Act.put, tz1, tz2, tz3])
      refine tk 8 rfl ?_
      (try simp only [Act.put, tz1, tz2, tz3])
      refine tk 9 rfl ?_
      (try simp only [Act.put, tz1, tz2, tz3])
      refine tk 10 rfl ?_
      (try simp only [Act.put, tz1, tz2, tz3])
      refine tk 11 rfl ?_
      (try simp only [Act.put, tz1, tz2, tz3])
      refine tk 12 rfl ?_
      (try simp only [Act.put, tz1, tz2, tz3])
      refine wpAnyH_done (by kernel_rfl) ?_ _
      have hXd := (Up.refl X).drew
      have m4d := hXd.cell m4
      obtain ⟨y0, y1, y2, y3⟩ := blk_four (hXd.obj HN3.out)
      have y0 := y0.1
      have y1 := y1.1
      have y2 := y2.1
      have y3 := y3.1
      have hYle : w.heap.size + 8 ≤ X.drew.heap.size := hXle
      have HOX := Lib.hid (own_up HO4.out hXd)
      clear m4 k0 k1 hX
      generalize X.drew = Y at *
      gi_wp2_with (gi_at_builtin; refine app_oneInG Y rfl _ _ 38 rfl (w.heap.size + 8) 72 i0 _ 4 24 Tryz.underlying38 hi hz0 hz1 hz2 rfl (by decide) _ _ _ HOX.out rfl #[.int .u64 (x1 : Int), .int .u64 (of : Int), .int .u32 (ln : Int), .int .u32 1] rfl rfl (by simp [Value.oneCell']) (by omega) (by omega) (by omega) ?_; intro g' cap' w6 row ho6 hg0 hb6 hk6 hg6 hr6; have g4 := (hb6.block (w.heap.size + 1 + 1 + 1 + 1) (by omega)).trans (hXd.obj HE4.out); obtain ⟨c46, f46⟩ := blk_one g4)
      exact APP.out Y hXd g' cap' w6 row ho6 hb6 hk6 hg6 hr6 _
    · rw [List.concat_eq_append] at hes
      subst hes
      have hml0 : tl = pre.length + 1 := by have := HTL.out; simp at this; omega
      have r4 := HR4.out
      rw [← HTL.out] at r4
      obtain ⟨b', o', eb, d0, d1, d2, d3⟩ := r4.ent (k := pre.length) (by simp)
      rw [List.getElem_concat_length rfl] at d0 d1 d2 d3
      obtain ⟨g, hgA⟩ : ∃ g, A' = some ⟨g, 0, none⟩ := by
        rcases HO4.out.2 with ⟨h, _⟩ | ⟨g, cap, cur, h, _⟩
        · simp at h; omega
        · simp only [Value.slice.injEq] at h; exact ⟨g, h.1⟩
      rw [hgA] at eb
      injection eb with eb
      injection eb with eb1 eb2 _
      subst eb1 eb2
      subst hgA
      simp only [Nat.zero_add] at d0 d1 d2 d3
      obtain ⟨k1', k2', k3'⟩ := HR6.out b (by simp)
      have hlast : lastE b + 1 < 18446744073709551616 := by
        rw [last_ok k2']
        have := chk_ok k2'
        omega
      have GO := fun w => Lib.hid (goes_any b ⟨x1, of, ln, 1⟩ k1' hlast w)
      have HPT := HPE.out
      rw [push_last] at HPT
      have HRUN := Lib.hid (fun r' Y (hXY : Up X Y) => rowI_run (r' := r') (rowI_up HRX.out hXY) (hXY.obj HE4.out))
      obtain ⟨r', hr'⟩ : ∃ r', b.run + 1 = r' := ⟨_, rfl⟩
      rw [hr'] at HPT
      have e2 : IntKind.u32.wrap ((b.run : Int) + 1) = (r' : Int) := by rw [IntWalk.u32_in _ (by omega)]; omega
      generalize hml : pre.length = m at *
      obtain rfl : q = (m : Int) := by omega
      have hneg : decide ((0 : Int) ≤ (m : Int)) = true := decide_eq_true (by omega)
      have hltI : (m : Int) < (tl : Int) := by omega
      obtain ⟨⟨z0, _⟩, ⟨z1, _⟩, ⟨z2, _⟩, ⟨z3, _⟩⟩ := blk_four HN3.out
      have h1 := (blk_one HE1.out).1
      have HPT := Lib.hid HPT
      have MK := Lib.hid (fun w' (h : Up X w') => (⟨h, h.cell h1, h.cell m4, h.cell d0, h.cell d1, h.cell d2, h.cell d3, h.cell z0, h.cell z1, h.cell z2, h.cell z3⟩ : Up X w' ∧ w'.cell? ⟨w.heap.size + 1, 0, none⟩ = some goesF ∧ w'.cell? ⟨w.heap.size + 1 + 1 + 1 + 1, 0, none⟩ = some (.slice (some ⟨g, 0, none⟩) tl c') ∧ w'.cell? ⟨g, m * 4, none⟩ = some (.int .u64 (b.id : Int)) ∧ w'.cell? ⟨g, m * 4 + 1, none⟩ = some (.int .u64 (b.off : Int)) ∧ w'.cell? ⟨g, m * 4 + 2, none⟩ = some (.int .u32 (b.len : Int)) ∧ w'.cell? ⟨g, m * 4 + 3, none⟩ = some (.int .u32 (b.run : Int)) ∧ w'.cell? ⟨W1.heap.size + 1, 0, none⟩ = some (.int .u64 (x1 : Int)) ∧ w'.cell? ⟨W1.heap.size + 1, 1, none⟩ = some (.int .u64 (of : Int)) ∧ w'.cell? ⟨W1.heap.size + 1, 2, none⟩ = some (.int .u32 (ln : Int)) ∧ w'.cell? ⟨W1.heap.size + 1, 3, none⟩ = some (.int .u32 1)))
      simp only [entA] at GO
      clear HPE HR4 HR6 HE1 r4 hr' hml hml0 hq h1 d0 d1 d2 d3 z0 z1 z2 z3 k1' k2' k3' hlast
      generalize b.id = bid at *
      generalize b.off = boff at *
      generalize b.len = blen at *
      generalize b.run = brun at *
      rcases hgo : goesE b ⟨x1, of, ln, 1⟩ with _ | _
      · have hT := HPT.out
        rw [hgo, if_neg (by simp)] at hT
        rw [hT] at APP
        rw [hgo] at GO
        clear hgo hT HPT HRUN e2
        gi_wp2
        (try rw [hX])
        refine wpIn_region_held (S := fun w' => Up X w' ∧ w'.cell? ⟨w.heap.size + 1, 0, none⟩ = some goesF ∧ w'.cell? ⟨w.heap.size + 1 + 1 + 1 + 1, 0, none⟩ = some (.slice (some ⟨g, 0, none⟩) tl c') ∧ w'.cell? ⟨g, m * 4, none⟩ = some (.int .u64 (bid : Int)) ∧ w'.cell? ⟨g, m * 4 + 1, none⟩ = some (.int .u64 (boff : Int)) ∧ w'.cell? ⟨g, m * 4 + 2, none⟩ = some (.int .u32 (blen : Int)) ∧ w'.cell? ⟨g, m * 4 + 3, none⟩ = some (.int .u32 (brun : Int)) ∧ w'.cell? ⟨W1.heap.size + 1, 0, none⟩ = some (.int .u64 (x1 : Int)) ∧ w'.cell? ⟨W1.heap.size + 1, 1, none⟩ = some (.int .u64 (of : Int)) ∧ w'.cell? ⟨W1.heap.size + 1, 2, none⟩ = some (.int .u32 (ln : Int)) ∧ w'.cell? ⟨W1.heap.size + 1, 3, none⟩ = some (.int .u32 1)) hmx (by kernel_rfl) (by rintro ⟨a, w, h⟩; exact h) ?_ (fun hHeld => ?_)
        · exact MK.out _ (Up.refl X).drew
        refine tk 0 rfl ?_
        (try simp only [Act.put, tz1, tz2, tz3])
        refine tk 1 rfl ?_
        (try simp only [Act.put, tz1, tz2, tz3])
        refine tk 2 rfl ?_
        (try simp only [Act.put, tz1, tz2, tz3])
        refine tk 3 rfl ?_
        (try simp only [Act.put, tz1, tz2, tz3])
        refine tk 4 rfl ?_
        (try simp only [Act.put, tz1, tz2, tz3])
        refine tk 5 rfl ?_
        (try simp only [Act.put, tz1, tz2, tz3])
        refine tk 6 rfl ?_
        (try simp only [Act.put, tz1, tz2, tz3])
        refine tk 7 rfl ?_
        (try simp only [Act.put, tz1, tz2, tz3])
        refine tk 8 rfl ?_
        (try simp only [Act.put, tz1, tz2, tz3])
        refine tk 9 rfl ?_
        (try simp only [Act.put, tz1, tz2, tz3])
        refine tk 10 rfl ?_
        (try simp only [Act.put, tz1, tz2, tz3])
        refine rd1 11 rfl (fun K hK => ?_)
        go_simp
        go_at_call 49
        refine (GO _).out.mono ?_
        rintro e w4 ⟨rfl, hu4⟩
        refine hK.out _ _ ?_ (fun hHeld2 => ?_)
        · exact MK.out _ (((Up.refl X).drew).trans hu4)
        clear hK K
        (try simp only [Act.put, tz1, tz2, tz3])
        refine tk 12 rfl ?_
        (try simp only [Act.put, tz1, tz2, tz3])
        refine wpAnyH_done (by kernel_rfl) ?_ _
        obtain ⟨hX4, s0, m4d, s1, s2, s3, s4, y0, y1, y2, y3⟩ := hHeld2
        have HOX := Lib.hid (own_up HO4.out hX4)
        have hYle : w.heap.size + 8 ≤ w4.heap.size := by have := hX4.le; omega
        clear m4 k0 k1 hX s0 s1 s2 s3 s4 hHeld MK GO
        gi_wp2_with (gi_at_builtin; refine app_oneInG w4 rfl _ _ 38 rfl (w.heap.size + 8) 72 i0 _ 4 24 Tryz.underlying38 hi hz0 hz1 hz2 rfl (by decide) _ _ _ HOX.out rfl #[.int .u64 (x1 : Int), .int .u64 (of : Int), .int .u32 (ln : Int), .int .u32 1] rfl rfl (by simp [Value.oneCell']) (by omega) (by omega) (by omega) ?_; intro g' cap' w6 row ho6 hg0 hb6 hk6 hg6 hr6; have g4 := (hb6.block (w.heap.size + 1 + 1 + 1 + 1) (by omega)).trans (hX4.obj HE4.out); obtain ⟨c46, f46⟩ := blk_one g4)
        exact APP.out w4 hX4 g' cap' w6 row ho6 hb6 hk6 hg6 hr6 _
      · have hT := HPT.out
        rw [hgo, if_pos rfl] at hT
        rw [hgo] at GO
        have HT := Lib.hid hT
        clear hgo hT HPT APP
        gi_wp2
        (try rw [hX])
        refine wpIn_region_held (S := fun w' => Up X w' ∧ w'.cell? ⟨w.heap.size + 1, 0, none⟩ = some goesF ∧ w'.cell? ⟨w.heap.size + 1 + 1 + 1 + 1, 0, none⟩ = some (.slice (some ⟨g, 0, none⟩) tl c') ∧ w'.cell? ⟨g, m * 4, none⟩ = some (.int .u64 (bid : Int)) ∧ w'.cell? ⟨g, m * 4 + 1, none⟩ = some (.int .u64 (boff : Int)) ∧ w'.cell? ⟨g, m * 4 + 2, none⟩ = some (.int .u32 (blen : Int)) ∧ w'.cell? ⟨g, m * 4 + 3, none⟩ = some (.int .u32 (brun : Int)) ∧ w'.cell? ⟨W1.heap.size + 1, 0, none⟩ = some (.int .u64 (x1 : Int)) ∧ w'.cell? ⟨W1.heap.size + 1, 1, none⟩ = some (.int .u64 (of : Int)) ∧ w'.cell? ⟨W1.heap.size + 1, 2, none⟩ = some (.int .u32 (ln : Int)) ∧ w'.cell? ⟨W1.heap.size + 1, 3, none⟩ = some (.int .u32 1)) hmx (by kernel_rfl) (by rintro ⟨a, w, h⟩; exact h) ?_ (fun hHeld => ?_)
        · exact MK.out _ (Up.refl X).drew
        refine tk 0 rfl ?_
        (try simp only [Act.put, tz1, tz2, tz3])
        refine tk 1 rfl ?_
        (try simp only [Act.put, tz1, tz2, tz3])
        refine tk 2 rfl ?_
        (try simp only [Act.put, tz1, tz2, tz3])
        refine tk 3 rfl ?_
        (try simp only [Act.put, tz1, tz2, tz3])
        refine tk 4 rfl ?_
        (try simp only [Act.put, tz1, tz2, tz3])
        refine tk 5 rfl ?_
        (try simp only [Act.put, tz1, tz2, tz3])
        refine tk 6 rfl ?_
        (try simp only [Act.put, tz1, tz2, tz3])
        refine tk 7 rfl ?_
        (try simp only [Act.put, tz1, tz2, tz3])
        refine tk 8 rfl ?_
        (try simp only [Act.put, tz1, tz2, tz3])
        refine tk 9 rfl ?_
        (try simp only [Act.put, tz1, tz2, tz3])
        refine tk 10 rfl ?_
        (try simp only [Act.put, tz1, tz2, tz3])
        refine rd1 11 rfl (fun K hK => ?_)
        go_simp
        go_at_call 49
        refine (GO _).out.mono ?_
        rintro e w4 ⟨rfl, hu4⟩
        refine hK.out _ _ ?_ (fun hHeld2 => ?_)
        · exact MK.out _ (((Up.refl X).drew).trans hu4)
        clear hK K
        (try simp only [Act.put, tz1, tz2, tz3])
        refine tk 12 rfl ?_
        (try simp only [Act.put, tz1, tz2, tz3])
        refine wpAnyH_done (by kernel_rfl) ?_ _
        obtain ⟨hX4, s0, m4d, s1, s2, s3, s4, y0, y1, y2, y3⟩ := hHeld2
        have hfz := (own_up HO4.out hX4).frozenAt (m * 4 + 3)
        clear m4 k0 k1 hX s0 s1 s2 s3 hHeld MK GO
        gi_wp2
        obtain ⟨q1, q2, q3, cur, fz, q4⟩ := HRUN.out r' w4 hX4
        rw [HT.out] at q1
        refine FIN.out (T, cs') _ w4 _ (some g) hX4 q1 (fun j h1 h2 => ?_) (keepB_grown q2 q4 (by decide) (by have := hX4.le; omega) (by omega) (by intro q hq; simp at hq; have := hX4.le; omega)) (fun hu => Up.of (hu.below.grown q2 hu.le (fun j e => by cases e; omega)))
        exact q2.block j (by have := hX4.le; omega) (by intro e; injection e with e; omega)
  case done =>
    rintro W ⟨hI, hU⟩ hD
    rw [List.take_length] at hI
    rw [HW0.out] at hD ⊢
    clear hq1 hq2 hq3 hq4 hq5 hu2 hI0 HW0
    have hmx : Tryz.prog.follows .mixedOrders = true := mixed
    obtain ⟨r1, r2, r3, r4, r5, r6, r7, r8⟩ := rows_inv _ hg (by omega)
    have TX := fun wq mv hp => Lib.hid (text_any (rowsL L).2 (by omega) (w.heap.size + 1 + 1) mv wq hp)
    unfold RowsE
    clear r1 r2 r3 r4 r5 r6 r7 r8
    obtain ⟨v, tv, pv, mv, g1, g2, g3, g4, g5, g6, g7, g8⟩ := hI
    obtain ⟨At, ct, rfl, rt⟩ := Rd.of_own g4
    obtain ⟨Ap, cp, rfl, rp⟩ := Rd.of_own g5
    have hPR : PoolR W (w.heap.size + 1 + 1) (rowsL L).2 mv := ⟨_, _, _, _, g3, rt, rp⟩
    have c4 := (blk_one g1).1
    have c3 := (blk_one g8).1
    have G2 := Lib.hid g2
    obtain ⟨A2, c2, rfl, r2⟩ := Rd.of_own g2
    have hd := (Up.refl W).drew
    have hPD := hPR.up hd
    have c4d := hd.cell c4
    have c3d := hd.cell c3
    have HDD := Lib.hid (hd.obj hD)
    have GD := Lib.hid (own_up G2.out hd)
    have HUD := Lib.hid (hU.trans hd)
    clear g1 g2 g3 g4 g5 g6 g7 g8 rt rp r2 hPR c4 c3 hD
    generalize htx : (rowsL L).2.flatten = tx at *
    generalize hes : (rowsL L).1 = es at *
    generalize htl : es.length = tl at *
    have HTT := Lib.hid (And.intro htx (And.intro hes htl))
    clear htx hes htl
    gi_wp2
    refine wpIn_region_any hmx ?_
    (try change wpAnyIn _ _ _ _ _ _ _ _ _ (World.drew _))
    refine wpAnyIn_ready (rs := [0, 1]) (by kernel_rfl) (by simp) ?_
    refine AllReadyIn.cons (o := ⟨_, _, _, _, _, _⟩) rfl (fun K hK => ?_) ?_
    · go_simp
      refine hK _ _ ?_
      clear hK K
      (try simp only [Act.put, tz1, tz2, tz3])
      refine wpAnyIn_ready (rs := [1]) (by kernel_rfl) (by simp) ?_
      refine AllReadyIn.cons (o := ⟨_, _, _, _, _, _⟩) rfl (fun K hK => ?_) ?_
      · go_simp
        refine hK _ _ ?_
        clear hK K
        (try simp only [Act.put, tz1, tz2, tz3])
        refine wpAnyIn_ready (rs := [2]) (by kernel_rfl) (by simp) ?_
        refine AllReadyIn.cons (o := ⟨_, _, _, _, _, _⟩) rfl (fun K hK => ?_) ?_
        · go_simp
          refine ⟨trivial, (callsIn_wide.2 (TX _ _ hPD).out).mono ?_⟩
          rintro e w5 ⟨rfl, hu5⟩
          have c45 := hu5.cell c4d
          refine hK _ _ ?_
          clear hK K
          (try simp only [Act.put, tz1, tz2, tz3])
          refine wpAnyIn_ready (rs := [3]) (by kernel_rfl) (by simp) ?_
          refine AllReadyIn.cons (o := ⟨_, _, _, _, _, _⟩) rfl (fun K hK => ?_) ?_
          · go_simp
            refine hK _ _ ?_
            clear hK K
            (try simp only [Act.put, tz1, tz2, tz3])
            refine wpAnyIn_ready (rs := [4]) (by kernel_rfl) (by simp) ?_
            refine AllReadyIn.cons (o := ⟨_, _, _, _, _, _⟩) rfl (fun K hK => ?_) ?_
            · go_simp
              refine hK _ _ ?_
              clear hK K
              (try simp only [Act.put, tz1, tz2, tz3])
              refine wpAnyIn_done (by kernel_rfl) ?_ _
              have hD5 := hu5.obj HDD.out
              gi_wp2
              refine ⟨by simp, .inl ⟨_, _, rfl, run_takeDeferred hD5, ?_⟩⟩
              obtain ⟨A6, c6, e6, r6⟩ := Rd.of_own (own_put (o' := .deferred none) (k := w.heap.size + 6) (own_up GD.out hu5) (by omega))
              have hUU := HUD.out.trans hu5
              injection e6 with i1 _ i3
              obtain ⟨htx, hes, htl⟩ := HTT.out
              clear HTT TX
              subst i1 i3 htx htl hes
              exact ⟨_, results_tmp2 rfl _ _ _, A2, c2, rfl, r6, Up.of (hUU.below.grown (grownBy_putObj' w5 _ _) hUU.le (fun j e => by cases e; omega))⟩
            exact AllReadyIn.nil
          exact AllReadyIn.nil
        exact AllReadyIn.nil
      exact AllReadyIn.nil
    refine AllReadyIn.cons (o := ⟨_, _, _, _, _, _⟩) rfl (fun K hK => ?_) ?_
    · go_simp
      refine hK _ _ ?_
      clear hK K
      (try simp only [Act.put, tz1, tz2, tz3])
      refine wpAnyIn_ready (rs := [0, 2]) (by kernel_rfl) (by simp) ?_
      refine AllReadyIn.cons (o := ⟨_, _, _, _, _, _⟩) rfl (fun K hK => ?_) ?_
      · go_simp
        refine hK _ _ ?_
        clear hK K
        (try simp only [Act.put, tz1, tz2, tz3])
        refine wpAnyIn_ready (rs := [2]) (by kernel_rfl) (by simp) ?_
        refine AllReadyIn.cons (o := ⟨_, _, _, _, _, _⟩) rfl (fun K hK => ?_) ?_
        · go_simp
          refine ⟨trivial, (callsIn_wide.2 (TX _ _ hPD).out).mono ?_⟩
          rintro e w5 ⟨rfl, hu5⟩
          have c45 := hu5.cell c4d
          refine hK _ _ ?_
          clear hK K
          (try simp only [Act.put, tz1, tz2, tz3])
          refine wpAnyIn_ready (rs := [3]) (by kernel_rfl) (by simp) ?_
          refine AllReadyIn.cons (o := ⟨_, _, _, _, _, _⟩) rfl (fun K hK => ?_) ?_
          · go_simp
            refine hK _ _ ?_
            clear hK K
            (try simp only [Act.put, tz1, tz2, tz3])
            refine wpAnyIn_ready (rs := [4]) (by kernel_rfl) (by simp) ?_
            refine AllReadyIn.cons (o := ⟨_, _, _, _, _, _⟩) rfl (fun K hK => ?_) ?_
            · go_simp
              refine hK _ _ ?_
              clear hK K
              (try simp only [Act.put, tz1, tz2, tz3])
              refine wpAnyIn_done (by kernel_rfl) ?_ _
              have hD5 := hu5.obj HDD.out
              gi_wp2
              refine ⟨by simp, .inl ⟨_, _, rfl, run_takeDeferred hD5, ?_⟩⟩
              obtain ⟨A6, c6, e6, r6⟩ := Rd.of_own (own_put (o' := .deferred none) (k := w.heap.size + 6) (own_up GD.out hu5) (by omega))
              have hUU := HUD.out.trans hu5
              injection e6 with i1 _ i3
              obtain ⟨htx, hes, htl⟩ := HTT.out
              clear HTT TX
              subst i1 i3 htx htl hes
              exact ⟨_, results_tmp2 rfl _ _ _, A2, c2, rfl, r6, Up.of (hUU.below.grown (grownBy_putObj' w5 _ _) hUU.le (fun j e => by cases e; omega))⟩
            exact AllReadyIn.nil
          exact AllReadyIn.nil
        exact AllReadyIn.nil
      refine AllReadyIn.cons (o := ⟨_, _, _, _, _, _⟩) rfl (fun K hK => ?_) ?_
      · go_simp
        refine ⟨trivial, (callsIn_wide.2 (TX _ _ hPD).out).mono ?_⟩
        rintro e w5 ⟨rfl, hu5⟩
        have c45 := hu5.cell c4d
        refine hK _ _ ?_
        clear hK K
        (try simp only [Act.put, tz1, tz2, tz3])
        refine wpAnyIn_ready (rs := [0]) (by kernel_rfl) (by simp) ?_
        refine AllReadyIn.cons (o := ⟨_, _, _, _, _, _⟩) rfl (fun K hK => ?_) ?_
        · go_simp
          refine hK _ _ ?_
          clear hK K
          (try simp only [Act.put, tz1, tz2, tz3])
          refine wpAnyIn_ready (rs := [3]) (by kernel_rfl) (by simp) ?_
          refine AllReadyIn.cons (o := ⟨_, _, _, _, _, _⟩) rfl (fun K hK => ?_) ?_
          · go_simp
            refine hK _ _ ?_
            clear hK K
            (try simp only [Act.put, tz1, tz2, tz3])
            refine wpAnyIn_ready (rs := [4]) (by kernel_rfl) (by simp) ?_
            refine AllReadyIn.cons (o := ⟨_, _, _, _, _, _⟩) rfl (fun K hK => ?_) ?_
            · go_simp
              refine hK _ _ ?_
              clear hK K
              (try simp only [Act.put, tz1, tz2, tz3])
              refine wpAnyIn_done (by kernel_rfl) ?_ _
              have hD5 := hu5.obj HDD.out
              gi_wp2
              refine ⟨by simp, .inl ⟨_, _, rfl, run_takeDeferred hD5, ?_⟩⟩
              obtain ⟨A6, c6, e6, r6⟩ := Rd.of_own (own_put (o' := .deferred none) (k := w.heap.size + 6) (own_up GD.out hu5) (by omega))
              have hUU := HUD.out.trans hu5
              injection e6 with i1 _ i3
              obtain ⟨htx, hes, htl⟩ := HTT.out
              clear HTT TX
              subst i1 i3 htx htl hes
              exact ⟨_, results_tmp2 rfl _ _ _, A2, c2, rfl, r6, Up.of (hUU.below.grown (grownBy_putObj' w5 _ _) hUU.le (fun j e => by cases e; omega))⟩
            exact AllReadyIn.nil
          exact AllReadyIn.nil
        exact AllReadyIn.nil
      exact AllReadyIn.nil
    exact AllReadyIn.nil
end Go.Proofs.YtcfmidmokciofaaGreatDoor
