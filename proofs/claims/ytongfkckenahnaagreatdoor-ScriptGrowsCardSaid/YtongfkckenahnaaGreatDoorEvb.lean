/- The abstract machine, text 2 of 7: calls are evaluated once, and hold in every world. -/
import Derived.Test.YtongfkckenahnaaGreatDoorEva
import Derived.Laws.MakeOwn
import Derived.Laws.Build
import Derived.Laws.Strings
import Derived.Laws.Tables
import Derived.Great.BuildSlice
import Derived.Lib.Builder
import Derived.Lib.UnsafeStr
import Derived.Laws.IdiomStrings
import Derived.Laws.BytesArg
/- Loads, stores, new blocks: the abstract machine's against the model's. -/
namespace Go.Ev
variable {E : Env} {P : Program} {G : Nat} {s s' : HS} {p : FP} {ν : Nu} {V : Nat → Prop} {w : World}
theorem und_ok (hE : EnvOK E P) {t : TypeId} {d : TypeDesc} (h : E.undO t = some d) : P.underlying t = some d := by
  unfold Env.undO at h
  cases ht : E.ty t with
  | none => rw [ht] at h; cases h
  | some i =>
    rw [ht] at h
    have hi := hE.ty t i ht
    unfold Program.underlying
    rw [hi]
    obtain ⟨desc, str, size, bytes, hp, al, fa, zero, comp, ms⟩ := i
    cases desc with
    | named n u =>
      simp only at h ⊢
      cases hu : E.ty u with
      | none => rw [hu] at h; cases h
      | some j => rw [hu] at h; rw [hE.ty u j hu]; simpa using h
    | _ => simpa using h
theorem aggD_row (d : TypeDesc) : aggD d = d.isRow := by cases d <;> rfl
/-- what a block of cells stands for -/
structure CellsAt (P : Program) (ν : Nu) (w : World) (b : Nat) (e : TypeId) (l : List SV) (z : Bool) (rest : List Value) (f1 f2 : Nat) : Prop where
  heap : w.heap[ν.ρ b]? = some (.cells (denL ν l ++ rest).toArray e (f1, f2))
  one : ∀ x ∈ denL ν l ++ rest, one x
  mark : f1 = f2 ∨ ((denL ν l ++ rest).length ≤ f1 ∧ P.underlying e = some (.int .u8))
  tight : z = false → rest = []
  loose : z = true → ∃ i, P.info? e = some i ∧ l.length + rest.length = ν.κ b * i.size
theorem cellsAt (h : Rel P G s ν V w) {b : Nat} {e : TypeId} {l : List SV} {z : Bool} (hb : s.h.get b = some (.cells e l z)) : ∃ rest f1 f2, CellsAt P ν w b e l z rest f1 f2 := by
  obtain ⟨r, hr, rest, f1, f2, rfl, h2, h3, h4, h5⟩ := h.blk b _ hb
  exact ⟨rest, f1, f2, hr, h2, h3, h4, h5⟩
section
variable {b : Nat} {e : TypeId} {l : List SV} {z : Bool} {rest : List Value} {f1 f2 : Nat}
theorem CellsAt.free (h : CellsAt P ν w b e l z rest f1 f2) : f1 = f2 ∨ (denL ν l ++ rest).length ≤ f1 := h.mark.imp id (fun h => h.1)
theorem CellsAt.cell (h : CellsAt P ν w b e l z rest f1 f2) (k : Nat) : w.cell? ⟨ν.ρ b, k, none⟩ = (denL ν l ++ rest)[k]? := by
  simp [World.cell?, h.heap]
theorem CellsAt.get (h : CellsAt P ν w b e l z rest f1 f2) {k : Nat} {x : SV} (hx : l[k]? = some x) : w.cell? ⟨ν.ρ b, k, none⟩ = some (den ν x) := by
  rw [h.cell, List.getElem?_append_left (by rw [denL_length]; exact (List.getElem?_eq_some_iff.1 hx).1), denL_get, hx]; rfl
theorem CellsAt.free' (h : CellsAt P ν w b e l z rest f1 f2) {k : Nat} (hk : k < l.length + rest.length) : w.frozen? ⟨ν.ρ b, k, none⟩ = false := by
  have hf := h.free
  rw [List.length_append, denL_length] at hf
  have : ¬ (f1 ≤ k ∧ k < f2) := by omega
  simp only [World.frozen?, h.heap]
  simpa using this
theorem CellsAt.range (h : CellsAt P ν w b e l z rest f1 f2) {k n : Nat} {x : List SV} (hx : cut l k n = some x) : w.rangeAt (ν.ρ b) k (denL ν x) := by
  obtain ⟨rfl, hn⟩ := cut_some hx
  intro j v hv
  rw [denL_get] at hv
  cases hj : ((l.drop k).take n)[j]? with
  | none => rw [hj] at hv; cases hv
  | some y =>
    rw [hj] at hv
    injection hv with hv; subst hv
    refine h.get ?_
    rw [List.getElem?_take] at hj
    split at hj
    · rwa [List.getElem?_drop] at hj
    · cases hj
theorem CellsAt.there (h : CellsAt P ν w b e l z rest f1 f2) {k n : Nat} (hx : k + n ≤ l.length + rest.length) : w.there (ν.ρ b) k n := by
  intro j hj
  refine ⟨?_, h.free' (by omega)⟩
  rw [h.cell, List.getElem?_eq_getElem (by rw [List.length_append, denL_length]; omega)]
  rfl
end
/-- what a store into a row does to it -/
def putA (l : List Value) (o : Nat) (vs : List Value) : List Value := l.take o ++ (vs ++ l.drop (o + vs.length))
theorem putA_cons (l : List Value) (o : Nat) (v : Value) (vs : List Value) (h : o < l.length) : putA (l.set o v) (o + 1) vs = putA l o (v :: vs) := by
  unfold putA
  rw [List.take_add_one, List.take_set_of_le (Nat.le_refl _), List.drop_set_of_lt (by omega)]
  simp [List.getElem?_set_self h, show o + 1 + vs.length = o + (vs.length + 1) by omega]
theorem setCells_heap (b : Nat) : ∀ (vs : List Value) (o : Nat) (w : World) (l : List Value) (e : TypeId) (fz : Nat × Nat), w.heap[b]? = some (.cells l.toArray e fz) → o + vs.length ≤ l.length →
    (w.setCells b o vs).heap[b]? = some (.cells (putA l o vs).toArray e fz) ∧ (∀ k, k ≠ b → (w.setCells b o vs).heap[k]? = w.heap[k]?) ∧ (w.setCells b o vs).heap.size = w.heap.size ∧
    (w.setCells b o vs).os = w.os ∧ (w.setCells b o vs).tape = w.tape ∧ (w.setCells b o vs).output = w.output
  | [], o, w, l, e, fz, h, hl => by
    refine ⟨?_, fun _ _ => rfl, rfl, rfl, rfl, rfl⟩
    show w.heap[b]? = _
    rw [h]
    simp [putA]
  | v :: vs, o, w, l, e, fz, h, hl => by
    simp only [List.length_cons] at hl
    have h1 : (w.setCell ⟨b, o, none⟩ v).heap[b]? = some (.cells (l.set o v).toArray e fz) := by
      simp [World.setCell, Array.getElem?_modify, h]
    obtain ⟨g1, g2, g3, g4, g5, g6⟩ := setCells_heap b vs (o + 1) (w.setCell ⟨b, o, none⟩ v) (l.set o v) e fz h1 (by simp; omega)
    refine ⟨?_, fun k hk => ?_, ?_, g4, g5, g6⟩
    · show ((w.setCell ⟨b, o, none⟩ v).setCells b (o + 1) vs).heap[b]? = _
      rw [g1, putA_cons l o v vs (by omega)]
    · show ((w.setCell ⟨b, o, none⟩ v).setCells b (o + 1) vs).heap[k]? = _
      rw [g2 k hk]
      simp [World.setCell, Array.getElem?_modify, Ne.symm hk]
    · show ((w.setCell ⟨b, o, none⟩ v).setCells b (o + 1) vs).heap.size = _
      rw [g3]; simp [World.setCell]
theorem putA_den (ν : Nu) (l : List SV) (rest : List Value) (k : Nat) (xs : List SV) (h : k + xs.length ≤ l.length) : putA (denL ν l ++ rest) k (denL ν xs) = denL ν (setL l k xs) ++ rest := by
  unfold putA
  rw [setL_eq, denL_append, denL_append, denL_length, List.take_append_of_le_length (by rw [denL_length]; omega), List.drop_append_of_le_length (by rw [denL_length]; omega)]
  simp [denL_eq, List.map_take, List.map_drop]
theorem setL_length (l : List SV) (k : Nat) (xs : List SV) (h : k + xs.length ≤ l.length) : (setL l k xs).length = l.length := by
  rw [setL_eq]; simp; omega
theorem setL_mem {l : List SV} {k : Nat} {xs : List SV} {x : SV} (h : x ∈ setL l k xs) : x ∈ l ∨ x ∈ xs := by
  rw [setL_eq] at h
  rcases List.mem_append.1 h with h | h
  · exact .inl (List.mem_of_mem_take h)
  · rcases List.mem_append.1 h with h | h
    · exact .inr h
    · exact .inl (List.mem_of_mem_drop h)
/-- a store of cells into a block -/
theorem post_store (hR : Rel P G s ν V w) {b k : Nat} {xs : List SV} {u : Unit} (h : Ok (storeAt b k xs) s u s' p) (hx : ValL V xs) :
    s'.c = s.c ∧ (w.there (ν.ρ b) k xs.length) ∧ (denL ν xs).toArray.all (·.oneCell') = true ∧ Post P G s ν V w s' p ν (w.setCells (ν.ρ b) k (denL ν xs)) := by
  unfold storeAt at h
  obtain ⟨r, s1, p1, p2, h1, h2, rfl⟩ := ok_bind.1 h
  obtain ⟨hb, rfl, rfl⟩ := ok_cells.1 h1
  rcases ok_bif.1 h2 with ⟨hc, h3⟩ | ⟨_, h3⟩
  · obtain ⟨e, l, z⟩ := r
    simp only at hb hc h3
    obtain ⟨⟨o', _⟩, ht, rfl, rfl⟩ := ok_put.1 h3
    rw [Bool.and_eq_true] at hc
    obtain ⟨hc1, hc2⟩ := hc
    rw [lenR_eq, lenR_eq] at hc1
    have hle := ble_true hc1
    rw [allR_eq, List.all_eq_true] at hc2
    obtain ⟨rest, f1, f2, hA⟩ := cellsAt hR hb
    have hall : ∀ v ∈ denL ν xs, one v := fun v hv => by
      rw [denL_eq] at hv
      obtain ⟨y, hy, rfl⟩ := List.mem_map.1 hv
      exact one1_den ν (hc2 y hy)
    obtain ⟨g1, g2, g3, g4, g5, g6⟩ := setCells_heap (ν.ρ b) (denL ν xs) k w (denL ν l ++ rest) e (f1, f2) hA.heap (by simp [denL_length]; omega)
    refine ⟨rfl, hA.there (by omega), all_oneCell_toArray hall, post_put hR hb ht (ao := .cells e (setL l k xs) z) ?_ (r := .cells (denL ν (setL l k xs) ++ rest).toArray e (f1, f2)) ?_ (p := .app (.app (.r b) .nil) (.w b)) (Or.inr rfl) g3 ?_ g2 g4 g5 g6⟩
    · have hl : ValL V l := (hR.cl b _ hb).2
      show ValL V (setL l k xs)
      rw [valL_iff] at *
      intro x hx'
      rcases setL_mem hx' with hx' | hx'
      · exact hl x hx'
      · exact hx x hx'
    · refine ⟨rest, f1, f2, rfl, ?_, ?_, hA.tight, fun hz => ?_⟩
      · intro x hx'
        rcases List.mem_append.1 hx' with hx' | hx'
        · rw [denL_eq] at hx'
          obtain ⟨y, hy, rfl⟩ := List.mem_map.1 hx'
          rcases setL_mem hy with hy | hy
          · exact hA.one _ (List.mem_append.2 (.inl (by rw [denL_eq]; exact List.mem_map.2 ⟨y, hy, rfl⟩)))
          · exact one1_den ν (hc2 y hy)
        · exact hA.one _ (List.mem_append.2 (.inr hx'))
      · have hf := hA.mark
        rw [List.length_append, denL_length] at hf ⊢
        rw [setL_length l k xs hle]
        exact hf
      · obtain ⟨i, hi, hn⟩ := hA.loose hz
        exact ⟨i, hi, by rw [setL_length l k xs hle]; exact hn⟩
    · rw [g1, putA_den ν l rest k xs hle]
  · exact (ok_fail h3).elim
/-- a load -/
theorem run_loadA (hE : EnvOK E P) (hR : Rel P G s ν V w) {t : TypeId} {x y : SV} (h : Ok (loadVar E t x) s y s' p) :
    s' = s ∧ (∀ b, ¬ p.W b) ∧ Val V y ∧ ∃ b k, den ν x = .pointer (some ⟨ν.ρ b, k, none⟩) ∧ (Go.loadVar t ⟨ν.ρ b, k, none⟩).run P w = .ok (den ν y) w := by
  cases x with
  | ptr b z i j =>
    simp only [loadVar] at h
    obtain ⟨r, s1, p1, p2, h1, h2, rfl⟩ := ok_bind.1 h
    obtain ⟨hb, rfl, rfl⟩ := ok_cells.1 h1
    obtain ⟨d, s2, p3, p4, h3, h4, rfl⟩ := ok_bind.1 h2
    obtain ⟨hd, rfl, rfl⟩ := ok_und.1 h3
    have hu := und_ok hE hd
    obtain ⟨e, l, lo⟩ := r
    simp only at hb h4
    obtain ⟨rest, f1, f2, hA⟩ := cellsAt hR hb
    have hl : ValL V l := (hR.cl b _ hb).2
    rcases ok_bif.1 h4 with ⟨ha, h5⟩ | ⟨ha, h5⟩
    · obtain ⟨ti, s3, p5, p6, h6, h7, rfl⟩ := ok_bind.1 h5
      obtain ⟨hti, rfl, rfl⟩ := ok_info.1 h6
      cases hc : cut l (i * z + j) ti.size with
      | none => rw [hc] at h7; exact (ok_fail h7).elim
      | some q =>
        rw [hc] at h7
        obtain ⟨rfl, rfl, rfl⟩ := ok_pure.1 h7
        obtain ⟨hq, hlen⟩ := cut_some hc
        refine ⟨rfl, by simp [FP.W], ?_, b, i * z + j, by simp [den], ?_⟩
        · show ValL V q
          exact val_sub hl (fun x hx => by rw [hq] at hx; exact List.mem_of_mem_drop (List.mem_of_mem_take hx))
        · simp only [den]
          exact run_loadVar_mid w (ν.ρ b) (i * z + j) t (denL ν q) d (hA.range hc) hu (by rw [← aggD_row]; exact ha) (by rw [hE.ty t ti hti]; simp [denL_length, hlen])
    · cases hc : getR l (i * z + j) with
      | none => rw [hc] at h5; exact (ok_fail h5).elim
      | some q =>
        rw [hc] at h5
        obtain ⟨rfl, rfl, rfl⟩ := ok_pure.1 h5
        rw [getR_eq] at hc
        refine ⟨rfl, by simp [FP.W], ?_, b, i * z + j, by simp [den], ?_⟩
        · rw [valL_iff] at hl
          exact hl _ (List.mem_of_getElem? hc)
        · have hag : (Go.isAgg t).run P w = .ok false w := by
            unfold Go.isAgg
            rw [Sem.run_bind, run_underlying hu w]
            cases d <;> simp_all [aggD]
          simp [Go.loadVar, Sem.run_bind, hag, hA.get hc]
  | _ => exact (ok_fail h).elim
/-- a store of a value -/
theorem run_storeA (hE : EnvOK E P) (hR : Rel P G s ν V w) {t : TypeId} {x y : SV} {u : Unit} (h : Ok (storeVar E t x y) s u s' p) (hy : Val V y) :
    s'.c = s.c ∧ ∃ b k w', den ν x = .pointer (some ⟨ν.ρ b, k, none⟩) ∧ (Go.storeVar t ⟨ν.ρ b, k, none⟩ (den ν y)).run P w = .ok () w' ∧ Post P G s ν V w s' p ν w' := by
  cases x with
  | ptr b z i j =>
    simp only [storeVar] at h
    obtain ⟨ti, s1, p1, p2, h1, h2, rfl⟩ := ok_bind.1 h
    obtain ⟨hti, rfl, rfl⟩ := ok_info.1 h1
    rcases ok_bif.1 h2 with ⟨hc, h3⟩ | ⟨_, h3⟩
    · obtain ⟨g0, g1, g2, g3⟩ := post_store hR h3 (cells_val hy)
      rw [lenR_eq] at hc
      have hc := beq_true hc
      refine ⟨g0, b, i * z + j, _, by simp [den], ?_, ⟨g3.rel, g3.out, ⟨g3.fr.os, g3.fr.tape, g3.fr.output, g3.fr.le, fun r hr hk => g3.fr.keep r hr (fun b hb hv => hk b (Or.inr hb) hv)⟩, fun b h1 h2 => by
        rcases g3.new b h1 h2 with h | ⟨b0, h3, h4, h5⟩
        · exact .inl h
        · exact .inr ⟨b0, Or.inr h3, h4, h5⟩⟩⟩
      have := run_storeVar_mid (P := P) w (ν.ρ b) (i * z + j) t (denL ν y.cells).toArray (by simpa [denL_length] using g1) (by rw [hE.ty t ti hti]; simp [denL_length, hc]) g2
      have hcl := cells_den' ν y
      have hz : (den ν y).cells = (denL ν y.cells).toArray := by rw [← hcl]
      have e1 : Go.storeVar t ⟨ν.ρ b, i * z + j, none⟩ (den ν y) = Go.storeVar t ⟨ν.ρ b, i * z + j, none⟩ (.agg (denL ν y.cells).toArray) := by
        unfold Go.storeVar
        rw [hz]; rfl
      rw [e1, this]
    · exact (ok_fail h3).elim
  | _ => exact (ok_fail h).elim
/-- a new row -/
theorem post_row (hR : Rel P G s ν V w) {t : TypeId} {xs : List SV} {z : Bool} {b : Nat} (h : Ok (newRow t xs z) s b s' p) (hf : Fresh s s' V) (hx : ValL V xs) (rest : List Value) (k : Nat) (hr1 : ∀ x ∈ rest, one x) (hz0 : z = false → rest = [])
    (hz1 : z = true → ∃ i, P.info? t = some i ∧ xs.length + rest.length = k * i.size) {w' : World} {fz : Nat × Nat} (hfz : fz.1 = fz.2 ∨ (xs.length + rest.length ≤ fz.1 ∧ P.underlying t = some (.int .u8))) (e1 : w'.heap = w.heap.push (.cells (denL ν xs ++ rest).toArray t fz)) (e2 : w'.os = w.os) (e3 : w'.tape = w.tape) (e4 : w'.output = w.output) :
    b = s.c ∧ s'.c = s.c + 1 ∧ (∀ x ∈ denL ν xs, one x) ∧ (setNu ν s.c w.heap.size k).ρ b = w.heap.size ∧ (setNu ν s.c w.heap.size k).κ b = k ∧ Agree V ν (setNu ν s.c w.heap.size k) ∧ Post P G s ν V w s' p (setNu ν s.c w.heap.size k) w' := by
  unfold newRow at h
  rcases ok_bif.1 h with ⟨hc, h3⟩ | ⟨_, h3⟩
  · obtain ⟨hn, ht, rfl, rfl, rfl⟩ := ok_new.1 h3
    rw [allR_eq, List.all_eq_true] at hc
    have hv : ¬ V s.c := hf s.c (Nat.le_refl _) (Nat.lt_succ_self _)
    have hag := setNu_agree (ν := ν) (r := w.heap.size) (k := k) hv
    have hone : ∀ x ∈ denL ν xs, one x := fun v hv => by
      rw [denL_eq] at hv
      obtain ⟨y, hy, rfl⟩ := List.mem_map.1 hv
      exact one1_den ν (hc y hy)
    refine ⟨rfl, rfl, hone, by simp [setNu], by simp [setNu], hag, post_new hR ht hn hv k (ao := .cells t xs z) (o := .cells (denL ν xs ++ rest).toArray t fz) hx ?_ _ e1 e2 e3 e4⟩
    refine ⟨rest, fz.1, fz.2, by rw [denL_agree hag xs hx], ?_, ?_, hz0, fun hz => ?_⟩
    · rw [denL_agree hag xs hx]
      intro x hx'
      rcases List.mem_append.1 hx' with h | h
      · exact hone x h
      · exact hr1 x h
    · rw [List.length_append, denL_length]
      exact hfz
    · obtain ⟨i, hi, hn⟩ := hz1 hz
      exact ⟨i, hi, by simpa [setNu] using hn⟩
  · exact (ok_fail h3).elim
end Go.Ev
/- The operations, one by one: the easy ones. -/
namespace Go.Ev
variable {E : Env} {P : Program} {G : Nat} {s s' : HS} {p : FP} {ν : Nu} {V : Nat → Prop} {w : World}
inductive NxR (w : World) (ν : Nu) : Nx → Next → Prop
  | val (x : SV) : NxR w ν (.val x) (.value (den ν x))
  | skip : NxR w ν (.val und) .skip
  | enter (f : FuncId) (as : List SV) : NxR w ν (.enter f as) (.enter f (denL ν as).toArray)
  | round (l : Nat) (as : List SV) (r : Loop) (h : w.heap[ν.ρ l]? = some (.loop r)) (hs : as.length = r.params.size) :
      NxR w ν (.round l as) (.round (ν.ρ l) r.fn ((r.params.zip (denL ν as).toArray).foldl (fun tmps q => tmps.setIfInBounds q.1 q.2) r.tmps) r.assign r.body)
  | dfr (g : FuncId) (a b as : List SV) : NxR w ν (.dfr (.fn (.func g) a b) as) (.defer { target := .fn (.func g) (denL ν b).toArray, args := (denL ν (a ++ as)).toArray })
def ValNx (V : Nat → Prop) : Nx → Prop
  | .val x => Val V x
  | .enter _ as => ValL V as
  | .round l as => V l ∧ ValL V as
  | .dfr f as => Val V f ∧ ValL V as
/-- an operation of the model does what the abstract machine's did -/
def Goal (P : Program) (G : Nat) (s : HS) (ν : Nu) (V : Nat → Prop) (w : World) (s' : HS) (p : FP) (S : Sem Next) (x : Nx) : Prop :=
  s.c ≤ s'.c ∧ ∃ ν' n w', S.run P w = .ok n w' ∧ NxR w' ν' x n ∧ ValNx (VN V s s') x ∧ Post P G s ν V w s' p ν' w'
theorem goal_same (hR : Rel P G s ν V w) {S : Sem Next} {x : SV} (h1 : S.run P w = .ok (.value (den ν x)) w) (h2 : Val V x) (p : FP) : Goal P G s ν V w s p S (.val x) :=
  ⟨Nat.le_refl _, ν, _, w, h1, .val x, by rw [VN_self]; exact h2, post_refl hR p⟩
theorem run_v {P : Program} {w w' : World} {S : Sem Value} {v : Value} (h : S.run P w = .ok v w') : (do pure (Next.value (← S)) : Sem Next).run P w = .ok (.value v) w' := by
  rw [Sem.run_bind, h]; rfl
theorem run_u {P : Program} {w w' : World} {S : Sem Unit} (h : S.run P w = .ok () w') : (do S; pure Next.skip : Sem Next).run P w = .ok .skip w' := by
  rw [Sem.run_bind, h]; rfl
theorem ok_val {m : M SV} {s s' : HS} {x : Nx} {p : FP} (h : Ok (val m) s x s' p) : ∃ y p1, x = .val y ∧ Ok m s y s' p1 ∧ (∀ b, p.W b ↔ p1.W b) := by
  unfold val at h
  obtain ⟨y, s1, p1, p2, h1, h2, rfl⟩ := ok_bind.1 h
  obtain ⟨rfl, rfl, rfl⟩ := ok_pure.1 h2
  exact ⟨y, p1, rfl, h1, fun b => by simp [FP.W]⟩
theorem ok_unit {m : M Unit} {s s' : HS} {x : Nx} {p : FP} (h : Ok (unit m) s x s' p) : ∃ p1, x = .val und ∧ Ok m s () s' p1 ∧ (∀ b, p.W b ↔ p1.W b) := by
  unfold unit at h
  obtain ⟨y, s1, p1, p2, h1, h2, rfl⟩ := ok_bind.1 h
  obtain ⟨rfl, rfl, rfl⟩ := ok_pure.1 h2
  exact ⟨p1, rfl, h1, fun b => by simp [FP.W]⟩
theorem Post.mono {s' : HS} {p q : FP} {ν' : Nu} {w' : World} (h : Post P G s ν V w s' p ν' w') (hw : ∀ b, p.W b → q.W b) : Post P G s ν V w s' q ν' w' :=
  ⟨h.rel, h.out, ⟨h.fr.os, h.fr.tape, h.fr.output, h.fr.le, fun r hr hk => h.fr.keep r hr (fun b hb hv => hk b (hw b hb) hv)⟩, fun b h1 h2 => by
    rcases h.new b h1 h2 with h | ⟨b0, h3, h4, h5⟩
    · exact .inl h
    · exact .inr ⟨b0, hw b0 h3, h4, h5⟩⟩
theorem goal_val {S : Sem Value} {m : M SV} {x : Nx} (h : Ok (val m) s x s' p) (k : ∀ y p1, Ok m s y s' p1 → s.c ≤ s'.c ∧ ∃ ν' w', S.run P w = .ok (den ν' y) w' ∧ Val (VN V s s') y ∧ Post P G s ν V w s' p1 ν' w') :
    Goal P G s ν V w s' p (do pure (Next.value (← S))) x := by
  obtain ⟨y, p1, rfl, h1, hw⟩ := ok_val h
  obtain ⟨hc, ν', w', h2, h3, h4⟩ := k y p1 h1
  exact ⟨hc, ν', _, w', run_v h2, .val y, h3, h4.mono (fun b hb => (hw b).2 hb)⟩
theorem goal_unit {S : Sem Unit} {m : M Unit} {x : Nx} (h : Ok (unit m) s x s' p) (k : ∀ p1, Ok m s () s' p1 → s.c ≤ s'.c ∧ ∃ ν' w', S.run P w = .ok () w' ∧ Post P G s ν V w s' p1 ν' w') :
    Goal P G s ν V w s' p (do S; pure Next.skip) x := by
  obtain ⟨p1, rfl, h1, hw⟩ := ok_unit h
  obtain ⟨hc, ν', w', h2, h4⟩ := k p1 h1
  exact ⟨hc, ν', _, w', run_u h2, .skip, und_val (VN V s s'), h4.mono (fun b hb => (hw b).2 hb)⟩
theorem run_zero (hE : EnvOK E P) {t : TypeId} {i : TypeInfo} {v : Value} (h : E.ty t = some i) (hz : i.zero = some v) (w : World) : (zeroValue t).run P w = .ok v w := by
  simp [zeroValue, typeInfo, hE.ty t i h, hz]
theorem run_size (hE : EnvOK E P) {t : TypeId} {i : TypeInfo} (h : E.ty t = some i) (w : World) : (sizeOf t).run P w = .ok i.size w := by
  simp [sizeOf, typeInfo, hE.ty t i h]
/-- a variable of a value -/
theorem run_newVarA (hR : Rel P G s ν V w) (hf : Fresh s s' V) {t : TypeId} {x y : SV} (h : Ok (newVar E t x) s y s' p) (hx : Val V x) :
    s.c ≤ s'.c ∧ ∃ ν' w', (do pure (Value.pointer (some (← Go.newVar t (den ν x)))) : Sem Value).run P w = .ok (den ν' y) w' ∧ Val (VN V s s') y ∧ Post P G s ν V w s' p ν' w' := by
  unfold newVar at h
  obtain ⟨b, s1, p1, p2, h1, h2, rfl⟩ := ok_bind.1 h
  obtain ⟨rfl, rfl, rfl⟩ := ok_pure.1 h2
  obtain ⟨g1, g2, g3, g4, _, g5, g6⟩ := post_row (w' := w.alloc (.cells (den ν x).cells t)) (fz := (0, 0)) hR h1 hf (cells_val hx) [] 0 (by simp) (by simp) (by simp) (by simp) (by
    have : (den ν x).cells = (denL ν x.cells ++ []).toArray := by rw [List.append_nil, ← cells_den' ν x]
    rw [this]; rfl) rfl rfl rfl
  refine ⟨by omega, _, _, ?_, ?_, g6.mono (fun b hb => Or.inl hb)⟩
  · rw [Sem.run_bind]
    show Result.andThen ((Go.newVar t (den ν x)).run P w) _ = _
    have : (Go.newVar t (den ν x)).run P w = .ok ⟨w.heap.size, 0, none⟩ (w.alloc (.cells (den ν x).cells t)) := by
      simp [Go.newVar, Go.newRow]
    rw [this]
    simp [den, g4]
  · exact Or.inr ⟨by omega, by omega⟩
section ops
variable {ρ : Operand → SV} {o : Oper} {x : Nx}
variable (hE : EnvOK E P) (hR : Rel P G s ν V w) (hf : Fresh s s' V) (hρ : ∀ y, Val V (ρ y))
include hR hρ
theorem es_move {y : Operand} (ho : o.op = .move y ∨ o.op = .assign y) (h : Ok (ex_move E ρ y) s x s' p) : Goal P G s ν V w s' p (execOp (fun y => den ν (ρ y)) o) x := by
  unfold ex_move at h
  obtain ⟨rfl, rfl, rfl⟩ := ok_pure.1 h
  refine goal_same hR ?_ (hρ y) _
  rcases ho with ho | ho <;> simp [execOp, ho]
theorem es_pick {c a b : Operand} (ho : o.op = .pick c a b) (h : Ok (ex_pick E ρ c a b) s x s' p) : Goal P G s ν V w s' p (execOp (fun y => den ν (ρ y)) o) x := by
  unfold ex_pick at h
  obtain ⟨t, s1, p1, p2, h1, h2, rfl⟩ := ok_bind.1 h
  obtain ⟨hc, rfl, rfl⟩ := ok_asBool.1 h1
  have hd : den ν (ρ c) = .bool t := by rw [hc]; simp [den]
  rcases ok_br.1 h2 with ⟨rfl, h3⟩ | ⟨rfl, h3⟩
  · obtain ⟨rfl, rfl, rfl⟩ := ok_pure.1 h3
    exact goal_same hR (by simp [execOp, ho, hd, Go.asBool]) (hρ a) _
  · obtain ⟨rfl, rfl, rfl⟩ := ok_pure.1 h3
    exact goal_same hR (by simp [execOp, ho, hd, Go.asBool]) (hρ b) _
theorem es_makeFunc {f : Fn} {a c : Array Operand} (ho : o.op = .makeFunc f a c) (h : Ok (ex_makeFunc E ρ f a c) s x s' p) : Goal P G s ν V w s' p (execOp (fun y => den ν (ρ y)) o) x := by
  unfold ex_makeFunc at h
  have hff : ∀ l, f ≠ .yield l := by
    rintro l rfl
    exact (ok_fail h).elim
  have h : Ok (pure (.val (.fn f (mapR ρ a.toList) (mapR ρ c.toList)))) s x s' p := by
    cases f with
    | yield l => exact (hff l rfl).elim
    | _ => exact h
  obtain ⟨rfl, rfl, rfl⟩ := ok_pure.1 h
  have hv : ∀ l : List Operand, ValL V (l.map ρ) := fun l => by
    rw [valL_iff]; intro z hz
    obtain ⟨q, _, rfl⟩ := List.mem_map.1 hz
    exact hρ q
  refine goal_same hR ?_ ?_ _
  · have hd : ∀ l : Array Operand, (denL ν (l.toList.map ρ)).toArray = l.map (fun y => den ν (ρ y)) := fun l => by
      rw [denL_eq, List.map_map]
      apply Array.ext'
      simp
    have hfn : denFn ν f = f := by cases f <;> simp [denFn]; exact (hff _ rfl).elim
    simp only [execOp, ho, den, mapR_eq, hd, hfn]
    simp [Instr.makeFunc]
  · refine ⟨?_, ?_, ?_⟩
    · cases f <;> simp [okFn]; exact (hff _ rfl).elim
    · rw [mapR_eq]; exact hv _
    · rw [mapR_eq]; exact hv _
include hE
theorem es_load {t : TypeId} {a : Operand} (ho : o.op = .load t a) (h : Ok (ex_load E ρ t a) s x s' p) : Goal P G s ν V w s' p (execOp (fun y => den ν (ρ y)) o) x := by
  have _ := hρ
  simp only [execOp, ho]
  refine goal_val h (fun y p1 h1 => ?_)
  obtain ⟨rfl, hw, hv, b, k, hd, hr⟩ := run_loadA hE hR h1
  refine ⟨Nat.le_refl _, ν, w, ?_, by rw [VN_self]; exact hv, post_refl hR _⟩
  simp [Instr.loadAt, hd, Instr.sureAddr, hr]
theorem es_store {t : TypeId} {a y : Operand} (ho : o.op = .store t a y) (h : Ok (ex_store E ρ t a y) s x s' p) : Goal P G s ν V w s' p (execOp (fun y => den ν (ρ y)) o) x := by
  simp only [execOp, ho]
  refine goal_unit h (fun p1 h1 => ?_)
  obtain ⟨hc, b, k, w', hd, hr, hp⟩ := run_storeA hE hR h1 (hρ y)
  refine ⟨by omega, ν, w', ?_, hp⟩
  simp [Instr.storeAt, hd, Instr.sureAddr, hr]
theorem es_nilCheck {a : Operand} (ho : o.op = .nilCheck a) (h : Ok (ex_nilCheck E ρ a) s x s' p) : Goal P G s ν V w s' p (execOp (fun y => den ν (ρ y)) o) x := by
  have _ := hE
  unfold ex_nilCheck at h
  have hv := hρ a
  split at h
  · rename_i b z i j he
    obtain ⟨rfl, rfl, rfl⟩ := ok_pure.1 h
    rw [he] at hv
    refine goal_same hR ?_ hv _
    simp [execOp, ho, he, den]
  · rename_i f a' c he
    obtain ⟨rfl, rfl, rfl⟩ := ok_pure.1 h
    rw [he] at hv
    refine goal_same hR ?_ hv _
    simp [execOp, ho, he, den, denFn]
  · rename_i t y he
    obtain ⟨rfl, rfl, rfl⟩ := ok_pure.1 h
    rw [he] at hv
    refine goal_same hR ?_ hv _
    simp [execOp, ho, he, den]
  · exact (ok_fail h).elim
theorem es_extract {a : Operand} {i : Nat} (ho : o.op = .extract a i) (h : Ok (ex_extract E ρ a i) s x s' p) : Goal P G s ν V w s' p (execOp (fun y => den ν (ρ y)) o) x := by
  have _ := hE
  unfold ex_extract at h
  have hv := hρ a
  split at h
  · rename_i l he
    rw [he] at hv
    cases hg : getR l i with
    | none => rw [hg] at h; exact (ok_fail h).elim
    | some y =>
      rw [hg] at h
      obtain ⟨rfl, rfl, rfl⟩ := ok_pure.1 h
      rw [getR_eq] at hg
      refine goal_same hR ?_ ?_ _
      · have : (denL ν l)[i]? = some (den ν y) := by rw [denL_get, hg]; rfl
        simp [execOp, ho, he, den, Instr.extract, this]
      · have : ValL V l := hv
        rw [valL_iff] at this
        exact this y (List.mem_of_getElem? hg)
  · exact (ok_fail h).elim
theorem es_makeInterface {t : TypeId} {a : Operand} (ho : o.op = .makeInterface t a) (h : Ok (ex_makeInterface E ρ t a) s x s' p) : Goal P G s ν V w s' p (execOp (fun y => den ν (ρ y)) o) x := by
  unfold ex_makeInterface at h
  obtain ⟨d, s1, p1, p2, h1, h2, rfl⟩ := ok_bind.1 h
  obtain ⟨hd, rfl, rfl⟩ := ok_und.1 h1
  have hu := und_ok hE hd
  split at h2
  · exact (ok_fail h2).elim
  · rename_i hni
    obtain ⟨rfl, rfl, rfl⟩ := ok_pure.1 h2
    refine goal_same hR (x := .ifc t (ρ a)) ?_ (hρ a) _
    simp only [execOp, ho]
    refine run_v ?_
    simp only [Instr.makeInterface, Sem.run_bind, run_underlying hu, Result.andThen_ok, den]
    cases d <;> first | rfl | exact (hni _ rfl).elim
theorem es_fieldAddr {t : TypeId} {a : Operand} {i : Nat} (ho : o.op = .fieldAddr t a i) (h : Ok (ex_fieldAddr E ρ t a i) s x s' p) : Goal P G s ν V w s' p (execOp (fun y => den ν (ρ y)) o) x := by
  simp only [execOp, ho]
  refine goal_val h (fun y p1 h1 => ?_)
  have hv := hρ a
  unfold fieldAt at h1
  obtain ⟨d, s1, p2, p3, h2, h3, rfl⟩ := ok_bind.1 h1
  obtain ⟨hd, rfl, rfl⟩ := ok_und.1 h2
  have hu := und_ok hE hd
  split at h3
  · rename_i fs b z k j he
    rw [he] at hv
    cases hg : fs[i]? with
    | none => rw [hg] at h3; exact (ok_fail h3).elim
    | some fd =>
      rw [hg] at h3
      obtain ⟨ti, s4, p5, p6, h6, h7, rfl⟩ := ok_bind.1 h3
      obtain ⟨hti, rfl, rfl⟩ := ok_info.1 h6
      rcases ok_bif.1 h7 with ⟨hc, h8⟩ | ⟨_, h8⟩
      case inr => exact (ok_fail h8).elim
      obtain ⟨rfl, rfl, rfl⟩ := ok_pure.1 h8
      have hpos := blt_true hc
      have hnp : ∀ a, (fieldPlace a fd).run P w = .ok (a.add fd.offset) w := fun a => by
        unfold fieldPlace
        rw [Sem.run_bind, run_size hE hti]
        simp [show ti.size ≠ 0 by omega]
      refine ⟨Nat.le_refl _, ν, w, ?_, by rw [VN_self]; exact hv, post_refl hR _⟩
      simp only [Instr.fieldAt, Sem.run_bind, run_underlying hu, Result.andThen_ok, hg, he, den, Instr.sureAddr, Sem.run_pure, hnp]
      have : (⟨ν.ρ b, k * z + j, none⟩ : Addr).add fd.offset = ⟨ν.ρ b, k * z + (j + fd.offset), none⟩ := by rw [Addr.add_mid, Nat.add_assoc]
      rw [this]
  · exact (ok_fail h3).elim
end ops
end Go.Ev
/- The operations, one by one: numbers, strings, places, slices. -/
namespace Go.Ev
variable {E : Env} {P : Program} {G : Nat} {s s' : HS} {p : FP} {ν : Nu} {V : Nat → Prop} {w : World}
theorem wrapA_nat (k : IntKind) (m : Nat) : wrapA k (.ofNat m) = bif Nat.blt m (lim k) then .ofNat m else (match k with
    | .u8 => .ofNat (m % 256) | .u16 => .ofNat (m % 65536) | .u32 => .ofNat (m % 4294967296) | .u64 => .ofNat (m % 18446744073709551616)
    | _ => k.wrap (.ofNat m)) := rfl
theorem wrapA_eq (k : IntKind) (n : Int) : wrapA k n = k.wrap n := by
  cases n with
  | negSucc m => rfl
  | ofNat m =>
    rw [wrapA_nat]
    cases hb : Nat.blt m (lim k) with
    | true =>
      have h := blt_true hb
      have h2 : (m : Int) < (lim k : Nat) := by omega
      rw [cond_true]
      cases k <;> simp only [lim] at h2 <;> simp only [IntKind.wrap, IntKind.bits, IntKind.signed, Int.ofNat_eq_natCast] <;> (try simp) <;> (try split) <;> omega
    | false =>
      rw [cond_false]
      cases k <;> first | rfl | (simp only [IntKind.wrap, IntKind.bits, IntKind.signed, Int.ofNat_eq_natCast]; simp)
theorem ltI_eq (a b : Int) : ltI a b = decide (a < b) := by
  unfold ltI
  split
  · rename_i a b
    rw [Bool.eq_iff_iff]
    constructor
    · intro h; have := blt_true h; simp; omega
    · intro h; simp at h
      have : Nat.ble (a + 1) b = true := by simp; omega
      exact this
  · rfl
theorem eqI_eq (a b : Int) : eqI a b = decide (a = b) := by
  unfold eqI
  split
  · rename_i a b
    rw [Bool.eq_iff_iff]
    simp
    omega
  · rfl
theorem inB_eq {i : Int} {n : Nat} (h : inB i n = true) : 0 ≤ i ∧ i < n ∧ i = (i.toNat : Int) := by
  unfold inB at h
  split at h
  · rename_i a
    have := blt_true h
    simp; omega
  · cases h
theorem run_plain {S : Sem Value} {w' : String} {y : SV} {q : FP} (hE : EnvOK E P) (h : Ok (plainM E S w' >>= fun r => pure (ofV r)) s y s' q) : s' = s ∧ (∀ b, ¬ q.W b) ∧ S.run P w = .ok (den ν y) w ∧ Val V y := by
  obtain ⟨r, s1, p1, p2, h1, h2, rfl⟩ := ok_bind.1 h
  obtain ⟨hr, rfl, rfl⟩ := ok_plainM.1 h1
  obtain ⟨rfl, rfl, rfl⟩ := ok_pure.1 h2
  rw [hE.prog] at hr
  exact ⟨rfl, by simp [FP.W], by rw [ofV_den]; exact purely_run S hr w, ofV_val V r⟩
theorem run_intA {op : BinOp} {k : IntKind} {a b : Int} {t : TypeId} {y : SV} (h : intA op k a b = some y) : (Go.binOp op t (.int k a) (.int k b)).run P w = .ok (den ν y) w ∧ Val V y := by
  unfold intA at h
  split at h <;> first
    | (cases h; done)
    | (injection h with h; subst h
       refine ⟨?_, by simp [Val]⟩
       simp only [den, wrapA_eq, ltI_eq, eqI_eq]
       simp [Go.binOp, Op.intArith, Op.intCmp]
       try (first | rfl | (rw [Bool.eq_iff_iff]; simp; done)))
theorem run_bitsA {op : BinOp} {k : IntKind} {a b n : Int} {t : TypeId} (ha : inK k a = true) (hb : inK k b = true) (h : bitsA k op a b = some n) : (Go.binOp op t (.int k a) (.int k b)).run P w = .ok (.int k n) w := by
  unfold bitsA at h
  have key : ∀ m : Nat, inK k (Int.ofNat m) = true → BitVec.ofInt k.bits (Int.ofNat m) = BitVec.ofNat k.bits m ∧ m < 2 ^ k.bits := fun m hm => by
    have hl := blt_true hm
    refine ⟨BitVec.ofInt_natCast _ _, ?_⟩
    cases k <;> simp [lim, IntKind.bits] at hl ⊢ <;> omega
  split at h <;> first
    | (cases h; done)
    | (injection h with h; subst h
       obtain ⟨e1, l1⟩ := key _ ha
       obtain ⟨e2, l2⟩ := key _ hb
       simp only [Go.binOp, Op.intBits, wrapA_eq, e1, e2]
       simp [Nat.mod_eq_of_lt l1, Nat.mod_eq_of_lt l2]
       try rfl)
theorem run_guard {op : BinOp} {t : TypeId} {x y : Operand} {a b : Value} (h1 : ¬ (a = .nilIface ∧ b = .nilIface)) (h2 : ∀ c d, ¬ (a = .agg c ∧ b = .agg d)) : (eqGuard op t x y a b).run P w = .ok () w := by
  unfold eqGuard
  split
  all_goals first
    | (simp only [Bool.not_false, if_true]; rfl)
    | (simp only [Bool.not_true, Bool.false_eq_true, if_false]
       split
       · rename_i ha hb; exact (h1 ⟨ha, hb⟩).elim
       · rename_i c d ha hb; exact (h2 c d ⟨ha, hb⟩).elim
       · rfl)
    | (simp only [Bool.not_true, Bool.false_eq_true, if_false]
       split
       · exact (h1 ⟨rfl, rfl⟩).elim
       · exact (h2 _ _ ⟨rfl, rfl⟩).elim
       · rfl)
theorem run_eqT {t : TypeId} {d : TypeDesc} (hu : P.underlying t = some d) {x y : SV} {b : Bool} (h : eqT d x y = some b) :
    (Op.equal t (den ν x) (den ν y)).run P w = .ok b w ∧ ¬ (den ν x = .nilIface ∧ den ν y = .nilIface) ∧ (∀ c d, ¬ (den ν x = .agg c ∧ den ν y = .agg d)) ∧
    (∀ op, op = BinOp.eql ∨ op = BinOp.neq → Go.binOp op t (den ν x) (den ν y) = (if op = .eql then (do pure (.bool (← Op.equal t (den ν x) (den ν y)))) else (do pure (.bool (!(← Op.equal t (den ν x) (den ν y))))))) := by
  unfold eqT at h
  split at h <;> first
    | (cases h; done)
    | (injection h with h; subst h
       refine ⟨?_, by simp [den], by simp [den], ?_⟩
       · unfold Op.equal Op.maxDepth Op.equalIn
         simp [run_underlying hu, den]
       · rintro op (rfl | rfl) <;> simp [den, Go.binOp])
end Go.Ev
/- Operators, conversions. -/
namespace Go.Ev
variable {E : Env} {P : Program} {G : Nat} {s s' : HS} {p : FP} {ν : Nu} {V : Nat → Prop} {w : World}
theorem run_eqP (hE : EnvOK E P) {t : TypeId} {d : TypeDesc} (hu : P.underlying t = some d) {x y : SV} (h : eqP E d x y = true) :
    (Op.equal t (den ν x) (den ν y)).run P w = .ok true w ∧ ¬ (den ν x = .nilIface ∧ den ν y = .nilIface) ∧ (∀ c d, ¬ (den ν x = .agg c ∧ den ν y = .agg d)) ∧
    (∀ op, op = BinOp.eql ∨ op = BinOp.neq → Go.binOp op t (den ν x) (den ν y) = (if op = .eql then (do pure (.bool (← Op.equal t (den ν x) (den ν y)))) else (do pure (.bool (!(← Op.equal t (den ν x) (den ν y))))))) := by
  unfold eqP at h
  split at h
  · rename_i e b s i j b' s' i' j'
    simp only [Bool.and_eq_true] at h
    obtain ⟨⟨⟨⟨h1, h2⟩, h3⟩, h4⟩, h5⟩ := h
    have h1 := beq_true h1
    have h2 := beq_true h2
    have h3 := beq_true h3
    have h4 := beq_true h4
    subst h1 h2 h3 h4
    obtain ⟨ti, hti⟩ := Option.isSome_iff_exists.1 h5
    refine ⟨?_, by simp [den], by simp [den], ?_⟩
    · unfold Op.equal Op.maxDepth Op.equalIn
      simp only [Sem.run_bind, run_underlying hu, Result.andThen_ok, den, run_size hE hti]
      by_cases hz : ti.size ≠ 0
      · simp only [hz, ne_eq, not_false_eq_true, if_true]
        simp [sameAddr]
      · have hz : ti.size = 0 := by omega
        simp [hz]
    · rintro op (rfl | rfl) <;> simp [den, Go.binOp]
  · cases h
theorem run_eqF (hE : EnvOK E P) {t : TypeId} {d : TypeDesc} (hu : P.underlying t = some d) {x y : SV} (h : eqF E t d x y = true) :
    (Op.equal t (den ν x) (den ν y)).run P w = .ok false w ∧ (∀ op ox oy, (eqGuard op t ox oy (den ν x) (den ν y)).run P w = .ok () w) ∧
    (∀ op, op = BinOp.eql ∨ op = BinOp.neq → Go.binOp op t (den ν x) (den ν y) = (if op = .eql then (do pure (.bool (← Op.equal t (den ν x) (den ν y)))) else (do pure (.bool (!(← Op.equal t (den ν x) (den ν y))))))) := by
  unfold eqF at h
  split at h
  · rename_i fs x0 xs y0 ys
    split at h
    · rename_i f rest hl
      have hfs : fs = (f :: rest).toArray := Array.ext' (by simpa using hl)
      have key : ∀ (e : TypeId) (ti : TypeInfo), E.undO f.type = some (.pointer e) → E.ty f.type = some ti → (∀ n, (Op.equalIn (n + 1) f.type (den ν x0) (den ν y0)).run P w = .ok false w) →
          (Nat.beq f.offset 0 && Nat.beq ti.size 1 && !(f.name == "_") && !E.P.stoodInHeld t && !E.P.eqGuardType E.P.depth t) = true →
          ((Op.equal t (den ν (.agg (x0 :: xs))) (den ν (.agg (y0 :: ys)))).run P w = .ok false w ∧ (∀ op ox oy, (eqGuard op t ox oy (den ν (.agg (x0 :: xs))) (den ν (.agg (y0 :: ys)))).run P w = .ok () w) ∧
    (∀ op, op = BinOp.eql ∨ op = BinOp.neq → Go.binOp op t (den ν (.agg (x0 :: xs))) (den ν (.agg (y0 :: ys))) = (if op = .eql then (do pure (.bool (← Op.equal t (den ν (.agg (x0 :: xs))) (den ν (.agg (y0 :: ys)))))) else (do pure (.bool (!(← Op.equal t (den ν (.agg (x0 :: xs))) (den ν (.agg (y0 :: ys)))))))))) := fun e ti h1 h2 hin h => by
        simp only [Bool.and_eq_true] at h
        obtain ⟨⟨⟨⟨k1, k2⟩, k3⟩, k4⟩, k5⟩ := h
        have k1 := beq_true k1
        rw [hE.prog] at k4 k5
        have k3 : f.name ≠ "_" := by simpa using k3
        have k4 : P.stoodInHeld t = false := by simpa using k4
        have k5 : P.eqGuardType P.depth t = false := by simpa using k5
        have hf := und_ok hE h1
        have hpr : (program).run P w = .ok P w := rfl
        have px : (Go.part f.type (den ν x0 :: denL ν xs).toArray f.offset).run P w = .ok (den ν x0) w := by
          simp [Go.part, isAgg, run_underlying hf, k1]
        have py : (Go.part f.type (den ν y0 :: denL ν ys).toArray f.offset).run P w = .ok (den ν y0) w := by
          simp [Go.part, isAgg, run_underlying hf, k1]
        refine ⟨?_, fun op ox oy => ?_, ?_⟩
        · have hd : (Op.maxDepth : Nat) = 9998 + 1 + 1 := rfl
          unfold Op.equal
          rw [hd]
          unfold Op.equalIn
          simp only [Sem.run_bind, run_underlying hu, Result.andThen_ok, den, denL, hpr, k4, hfs]
          simp [px, py, k3, hin 9998]
        · unfold eqGuard
          simp only [den]
          cases op <;> simp [hpr, k5]
        · rintro op (rfl | rfl) <;> simp [den, Go.binOp]
      split at h
      · rename_i e ti _ _ _ _ h1 h2
        refine key e ti h1 h2 (fun n => ?_) h
        unfold Op.equalIn
        simp [run_underlying (und_ok hE h1), den]
      · rename_i e ti _ _ _ _ h1 h2
        refine key e ti h1 h2 (fun n => ?_) h
        unfold Op.equalIn
        simp [run_underlying (und_ok hE h1), den]
      · cases h
    · cases h
  · cases h
theorem bytes_toList (l : List UInt8) : (⟨l.toArray⟩ : ByteArray).toList = l := ByteArray.toList_mk l
theorem run_binA (hE : EnvOK E P) {op : BinOp} {t : TypeId} {ox oy : Operand} {x y z : SV} {q : FP} (h : Ok (binA E op t ox oy x y) s z s' q) :
    s' = s ∧ (∀ b, ¬ q.W b) ∧ Val V z ∧ (do eqGuard op t ox oy (den ν x) (den ν y); Go.binOp op t (den ν x) (den ν y) : Sem Value).run P w = .ok (den ν z) w := by
  unfold binA at h
  split at h
  · rename_i k a k' b
    have hg : (eqGuard op t ox oy (den ν (.v (.int k a))) (den ν (.v (.int k' b)))).run P w = .ok () w := run_guard (by simp [den]) (by simp [den])
    simp only [Sem.run_bind, hg, Result.andThen_ok]
    rcases ok_bif.1 h with ⟨hk, h⟩ | ⟨_, h⟩
    · have hk : k = k' := by simpa using hk
      subst hk
      cases hi : intA op k a b with
      | some r =>
        rw [hi] at h
        obtain ⟨rfl, rfl, rfl⟩ := ok_pure.1 h
        obtain ⟨h1, h2⟩ := run_intA (P := P) (ν := ν) (V := V) (w := w) (t := t) hi
        exact ⟨rfl, by simp [FP.W], h2, h1⟩
      | none =>
        rw [hi] at h
        cases hb : (bif inK k a && inK k b then bitsA k op a b else none) with
        | some n =>
          simp only [hb] at h
          obtain ⟨rfl, rfl, rfl⟩ := ok_pure.1 h
          cases hc : inK k a && inK k b with
          | false => rw [hc] at hb; cases hb
          | true =>
            rw [hc] at hb
            rw [Bool.and_eq_true] at hc
            exact ⟨rfl, by simp [FP.W], by simp [Val], run_bitsA hc.1 hc.2 hb⟩
        | none =>
          simp only [hb] at h
          obtain ⟨h1, h2, h3, h4⟩ := run_plain (P := P) (w := w) (ν := ν) (V := V) hE h
          exact ⟨h1, h2, h4, h3⟩
    · split at h
      · obtain ⟨h1, h2, h3, h4⟩ := run_plain (P := P) (w := w) (ν := ν) (V := V) hE h
        exact ⟨h1, h2, h4, h3⟩
      · obtain ⟨h1, h2, h3, h4⟩ := run_plain (P := P) (w := w) (ν := ν) (V := V) hE h
        exact ⟨h1, h2, h4, h3⟩
      · exact (ok_fail h).elim
  · rename_i a b
    have hg : (eqGuard op t ox oy (den ν (.str a)) (den ν (.str b))).run P w = .ok () w := run_guard (by simp [den]) (by simp [den])
    simp only [Sem.run_bind, hg, Result.andThen_ok]
    split at h
    · rcases ok_bif.1 h with ⟨hc, h⟩ | ⟨_, h⟩
      · obtain ⟨rfl, rfl, rfl⟩ := ok_pure.1 h
        rw [lenR_eq, lenR_eq] at hc
        have hc := ble_true hc
        refine ⟨rfl, by simp [FP.W], by simp [Val], ?_⟩
        have hs : ¬ ((((⟨a.toArray⟩ : ByteArray).size + (⟨b.toArray⟩ : ByteArray).size : Nat) : Int) > IntKind.i64.max) := by
          have e1 : (⟨a.toArray⟩ : ByteArray).size = a.length := by simp [ByteArray.size]
          have e2 : (⟨b.toArray⟩ : ByteArray).size = b.length := by simp [ByteArray.size]
          rw [e1, e2]; simp [IntKind.max, IntKind.bits, IntKind.signed]; omega
        simp only [den, Go.binOp, Op.stringOp, hs, if_false, Sem.run_pure, appR_eq]
        congr 2
      · exact (ok_fail h).elim
    all_goals first
      | exact (ok_fail h).elim
      | (obtain ⟨rfl, rfl, rfl⟩ := ok_pure.1 h
         refine ⟨rfl, by simp [FP.W], by simp [Val], ?_⟩
         simp [den, Go.binOp, Op.stringOp]
         try (first | rfl | (simp [bne]; done)))
  · have key : ∀ neg : Bool, (op = if neg then .neq else .eql) → Ok (eqA E op t ox oy x y neg) s z s' q → s' = s ∧ (∀ b, ¬ q.W b) ∧ Val V z ∧ (do eqGuard op t ox oy (den ν x) (den ν y); Go.binOp op t (den ν x) (den ν y) : Sem Value).run P w = .ok (den ν z) w := by
      intro neg hop h
      unfold eqA at h
      obtain ⟨d, s1, p1, p2, h1, h2, rfl⟩ := ok_bind.1 h
      obtain ⟨hd, rfl, rfl⟩ := ok_und.1 h1
      have hu := und_ok hE hd
      cases he : eqT d x y with
      | some b =>
        rw [he] at h2
        obtain ⟨rfl, rfl, rfl⟩ := ok_pure.1 h2
        obtain ⟨g1, g2, g3, g4⟩ := run_eqT (ν := ν) (w := w) hu he
        refine ⟨rfl, by simp [FP.W], by simp [Val], ?_⟩
        rw [Sem.run_bind, run_guard g2 g3, Result.andThen_ok, g4 op (by cases neg <;> simp [hop])]
        cases neg <;> simp [hop, g1, den]
      | none =>
        rw [he] at h2
        rcases ok_bif.1 h2 with ⟨hF, h2⟩ | ⟨_, h2⟩
        · obtain ⟨rfl, rfl, rfl⟩ := ok_pure.1 h2
          obtain ⟨g1, g2, g4⟩ := run_eqF (ν := ν) (w := w) hE hu hF
          refine ⟨rfl, by simp [FP.W], by simp [Val], ?_⟩
          rw [Sem.run_bind, g2, Result.andThen_ok, g4 op (by cases neg <;> simp [hop])]
          cases neg <;> simp [hop, g1, den]
        rcases ok_bif.1 h2 with ⟨hF, h2⟩ | ⟨_, h2⟩
        · obtain ⟨rfl, rfl, rfl⟩ := ok_pure.1 h2
          obtain ⟨g1, g2, g3, g4⟩ := run_eqP (ν := ν) (w := w) hE hu hF
          refine ⟨rfl, by simp [FP.W], by simp [Val], ?_⟩
          rw [Sem.run_bind, run_guard g2 g3, Result.andThen_ok, g4 op (by cases neg <;> simp [hop])]
          cases neg <;> simp [hop, g1, den]
        obtain ⟨a, s2, p3, p4, h3, h4, rfl⟩ := ok_bind.1 h2
        obtain ⟨ha, rfl, rfl⟩ := ok_toM.1 h3
        obtain ⟨b, s3, p5, p6, h5, h6, rfl⟩ := ok_bind.1 h4
        obtain ⟨hb, rfl, rfl⟩ := ok_toM.1 h5
        obtain ⟨g1, g2, g3, g4⟩ := run_plain (P := P) (w := w) (ν := ν) (V := V) hE h6
        rw [toV_den ν x ha, toV_den ν y hb]
        exact ⟨g1, by simp [FP.W, g2], g4, g3⟩
    split at h
    · exact key false rfl h
    · exact key true rfl h
    · exact (ok_fail h).elim
theorem run_cpA (hE : EnvOK E P) (hR : Rel P G s ν V w) {op : BinOp} {t : TypeId} {ox oy : Operand} {b i : Nat} {y z : SV} (h : Ok (cpA E op t b i y) s z s' p) :
    s.c ≤ s'.c ∧ ∃ ν' w', (do eqGuard op t ox oy (den ν (.cp b i)) (den ν y); Go.binOp op t (den ν (.cp b i)) (den ν y) : Sem Value).run P w = .ok (den ν' z) w' ∧ Val (VN V s s') z ∧ Post P G s ν V w s' p ν' w' := by
  unfold cpA at h
  obtain ⟨d, s1, p1, p2, h1, h2, rfl⟩ := ok_bind.1 h
  obtain ⟨hd, rfl, rfl⟩ := ok_und.1 h1
  have hu := und_ok hE hd
  have key : ∀ (n : Int) (r : Bool), Ok (get b >>= fun o => (match o with
    | .cells e l true => E.info e >>= fun ti => asrt (inB n 1 && Nat.blt (i * ti.size) (lenR l)) "cap" >>= fun _ => pure (.v (.bool r))
    | _ => fail "cap")) s z s' p2 → n = 0 ∧ z = .v (.bool r) ∧ s = s' ∧ i < ν.κ b := fun n r h2 => by
    obtain ⟨o, s2, p3, p4, h3, h4, rfl⟩ := ok_bind.1 h2
    obtain ⟨hb, rfl, rfl⟩ := ok_get.1 h3
    split at h4
    · rename_i e l
      obtain ⟨ti, s4, p8, p9, h8, h9, rfl⟩ := ok_bind.1 h4
      obtain ⟨hti, rfl, rfl⟩ := ok_info.1 h8
      obtain ⟨u, s5, q1, q2, k2, k3, rfl⟩ := ok_bind.1 h9
      obtain ⟨hz, rfl, rfl⟩ := ok_asrt.1 k2
      obtain ⟨rfl, rfl, rfl⟩ := ok_pure.1 k3
      rw [Bool.and_eq_true] at hz
      have hz2 := blt_true hz.2
      rw [lenR_eq] at hz2
      have := inB_eq hz.1
      obtain ⟨rest, f1, f2, hA⟩ := cellsAt hR hb
      obtain ⟨i', hi', hl⟩ := hA.loose rfl
      have hii : i' = ti := by
        rw [hE.ty _ _ hti] at hi'
        injection hi' with hi'
        exact hi'.symm
      subst hii
      exact ⟨by omega, rfl, rfl, Nat.lt_of_mul_lt_mul_right (a := i'.size) (by omega)⟩
    · exact (ok_fail h4).elim
  have hg : ∀ n : Int, (eqGuard op t ox oy (den ν (.cp b i)) (den ν (.v (.int .i64 n)))).run P w = .ok () w := fun n => run_guard (by simp [den]) (by simp [den])
  split at h2
  · rename_i n
    obtain ⟨rfl, rfl, rfl, hk⟩ := key n false h2
    refine ⟨Nat.le_refl _, ν, w, ?_, by simp [Val], post_refl hR _⟩
    rw [Sem.run_bind, hg, Result.andThen_ok]
    have hne : ¬ ((ν.κ b - i : Nat) : Int) = 0 := by omega
    simp [den, Go.binOp, Op.intCmp]
    omega
  · rename_i n
    obtain ⟨rfl, rfl, rfl, hk⟩ := key n true h2
    refine ⟨Nat.le_refl _, ν, w, ?_, by simp [Val], post_refl hR _⟩
    rw [Sem.run_bind, hg, Result.andThen_ok]
    have hne : ¬ ((ν.κ b - i : Nat) : Int) = 0 := by omega
    simp [den, Go.binOp, Op.intCmp]
    omega
  · exact (ok_fail h2).elim
section ops
variable {ρ : Operand → SV} {o : Oper} {x : Nx}
variable (hE : EnvOK E P) (hR : Rel P G s ν V w) (hρ : ∀ y, Val V (ρ y))
include hE hR hρ
theorem es_binOp {op : BinOp} {t t2 : TypeId} {a b : Operand} (ho : o.op = .binOp op t a b t2) (h : Ok (ex_binOp E ρ op t a b) s x s' p) : Goal P G s ν V w s' p (execOp (fun y => den ν (ρ y)) o) x := by
  have _ := hρ
  simp only [execOp, ho]
  refine goal_val h (fun y p1 h1 => ?_)
  split at h1
  · rename_i b' i he
    rw [he]
    exact run_cpA hE hR h1
  · obtain ⟨rfl, hw, hv, hr⟩ := run_binA (V := V) (ν := ν) (w := w) hE h1
    exact ⟨Nat.le_refl _, ν, w, hr, by rw [VN_self]; exact hv, post_refl hR _⟩
theorem es_unOp {op : UnOp} {t : TypeId} {a : Operand} (ho : o.op = .unOp op t a) (h : Ok (ex_unOp E ρ op a) s x s' p) : Goal P G s ν V w s' p (execOp (fun y => den ν (ρ y)) o) x := by
  have _ := hρ
  unfold ex_unOp at h
  split at h
  · rename_i b he
    obtain ⟨rfl, rfl, rfl⟩ := ok_pure.1 h
    refine goal_same hR ?_ (by simp [Val]) _
    simp [execOp, ho, he, den, Op.unary]
  · obtain ⟨v, s1, p1, p2, h1, h2, rfl⟩ := ok_bind.1 h
    obtain ⟨hv, rfl, rfl⟩ := ok_toM.1 h1
    obtain ⟨r, s2, p3, p4, h3, h4, rfl⟩ := ok_bind.1 h2
    obtain ⟨hr, rfl, rfl⟩ := ok_plainM.1 h3
    obtain ⟨rfl, rfl, rfl⟩ := ok_pure.1 h4
    rw [hE.prog] at hr
    refine goal_same hR ?_ (ofV_val V r) _
    simp only [execOp, ho, toV_den ν (ρ a) hv]
    rw [ofV_den]
    exact run_v (purely_run _ hr w)
end ops
end Go.Ev
/- New variables, places, slices, parts. -/
namespace Go.Ev
variable {E : Env} {P : Program} {G : Nat} {s s' : HS} {p : FP} {ν : Nu} {V : Nat → Prop} {w : World}
theorem many_eq (n : Nat) (z : List SV) : many n z = (List.replicate n z).flatten := by
  induction n with
  | zero => rfl
  | succ n ih => show appR z (many n z) = _; rw [appR_eq, ih, List.replicate_succ, List.flatten_cons]
theorem many_length (n : Nat) (z : List SV) : (many n z).length = n * z.length := by
  rw [many_eq]; simp
theorem many_mem {n : Nat} {z : List SV} {x : SV} (h : x ∈ many n z) : x ∈ z := by
  rw [many_eq] at h
  obtain ⟨l, hl, hx⟩ := List.mem_flatten.1 h
  rw [List.eq_of_mem_replicate hl] at hx
  exact hx
theorem range_mod (z : Array Value) (n : Nat) (_hz : 0 < z.size) : (List.range (n * z.size)).map (fun j => z[j % z.size]!) = (List.replicate n z.toList).flatten := by
  induction n with
  | zero => simp
  | succ n ih =>
    rw [List.replicate_succ, List.flatten_cons, ← ih, Nat.succ_mul, Nat.add_comm, List.range_add, List.map_append]
    congr 1
    · apply List.ext_getElem
      · simp
      · intro i h1 h2
        have hi : i < z.size := by simpa using h1
        simp [Nat.mod_eq_of_lt hi, hi]
    · rw [List.map_map]
      refine List.map_congr_left fun j _ => ?_
      simp
theorem made_many (ν : Nu) (v : Value) (z : SV) (hz : den ν z = v) (n k : Nat) (hk : z.cells.length = k) (h0 : 0 < k) : (madeCells v.cells (n * k)).toList = denL ν (many n z.cells) := by
  have hs : v.cells.toList = denL ν z.cells := by rw [← hz]; exact cells_den' ν z
  have hl : v.cells.size = k := by rw [← Array.length_toList, hs, denL_length, hk]
  unfold madeCells
  rw [Array.toList_map, Array.toList_range, ← hl, range_mod _ _ (by omega), hs, many_eq, denL_eq, denL_eq, List.map_flatten, List.map_replicate]
theorem fill_fold (off : Nat) : ∀ (vs : List Value) (k : Nat) (cs : Array Value), off + k + vs.length ≤ cs.size →
    (vs.zipIdx k).foldl (fun cs (c, j) => cs.setIfInBounds (off + j) c) cs = (putA cs.toList (off + k) vs).toArray := by
  intro vs
  induction vs with
  | nil => intro k cs h; simp [putA]
  | cons v vs ih =>
    intro k cs h
    simp only [List.length_cons] at h
    rw [List.zipIdx_cons, List.foldl_cons, ih (k + 1) _ (by simp; omega)]
    congr 1
    rw [Array.toList_setIfInBounds, ← putA_cons _ _ _ _ (by simp; omega), Nat.add_assoc]
theorem run_fill {place : Nat → Option (Nat × Nat)} : ∀ (l : List (Nat × SV)) (cells r : List SV) (s s' : HS) (p : FP), Ok (fillS place cells l) s r s' p → 
    s' = s ∧ (∀ b, ¬ p.W b) ∧ Instr.fill place (denL ν cells).toArray (l.map fun q => (q.1, den ν q.2)) = some (denL ν r).toArray ∧ r.length = cells.length ∧ (∀ x ∈ r, x ∈ cells ∨ ∃ q ∈ l, x ∈ q.2.cells)
  | [], cells, r, s, s', p, h => by
    obtain ⟨rfl, rfl, rfl⟩ := ok_pure.1 h
    exact ⟨rfl, by simp [FP.W], rfl, rfl, fun x hx => .inl hx⟩
  | (i, x) :: l, cells, r, s, s', p, h => by
    unfold fillS at h
    cases hp : place i with
    | none => rw [hp] at h; exact (ok_fail h).elim
    | some q =>
      obtain ⟨off, size⟩ := q
      rw [hp] at h
      rcases ok_bif.1 h with ⟨hc, h⟩ | ⟨_, h⟩
      · rw [Bool.and_eq_true, lenR_eq, lenR_eq] at hc
        have h1 := beq_true hc.1
        have h2 := ble_true hc.2
        obtain ⟨g1, g2, g3, g4, g5⟩ := run_fill l _ r s s' p h
        have hcell : (den ν x).cells = (denL ν x.cells).toArray := by rw [← cells_den' ν x]
        refine ⟨g1, g2, ?_, by rw [g4, setL_length _ _ _ (by omega)], fun y hy => ?_⟩
        · rw [List.map_cons, Instr.fill, hp]
          simp only [hcell]
          have e1 : ¬ ((denL ν x.cells).toArray.size ≠ size ∨ off + (denL ν x.cells).toArray.size > (denL ν cells).toArray.size) := by
            simp [denL_length]; omega
          have e2 : ((denL ν x.cells).toArray.size != size || decide (off + (denL ν x.cells).toArray.size > (denL ν cells).toArray.size)) = false := by
            simp [denL_length]; omega
          have e3 : (denL ν x.cells).toArray.zipIdx.foldl (fun cs (c, j) => cs.setIfInBounds (off + j) c) (denL ν cells).toArray = (denL ν (setL cells off x.cells)).toArray := by
            rw [← Array.foldl_toList, Array.toList_zipIdx]
            have := fill_fold off (denL ν x.cells) 0 (denL ν cells).toArray (by simp [denL_length]; omega)
            simp only at this ⊢
            rw [this]
            have e4 := putA_den ν cells [] off x.cells (by omega)
            simp only [List.append_nil] at e4
            rw [Nat.add_zero, e4]
          rw [e3, ← g3]
          simp [denL_length]
          intro h; omega
        · rcases g5 y hy with hy | ⟨q, hq, hy⟩
          · rcases setL_mem hy with hy | hy
            · exact .inl hy
            · exact .inr ⟨(i, x), by simp, hy⟩
          · exact .inr ⟨q, by simp [hq], hy⟩
      · exact (ok_fail h).elim
theorem zero_get (hE : EnvOK E P) {t : TypeId} {z : SV} {p : FP} (h : Ok (E.zero t) s z s' p) : s' = s ∧ p = .nil ∧ (∀ V, Val V z) ∧ ∃ i v, P.info? t = some i ∧ i.zero = some v ∧ (∀ ν, den ν z = v) ∧ E.ty t = some i := by
  obtain ⟨⟨i, v, h1, h2, rfl⟩, rfl, rfl⟩ := ok_zero.1 h
  exact ⟨rfl, rfl, fun V => ofV_val V v, i, v, hE.ty t i h1, h2, fun ν => ofV_den ν v, h1⟩
theorem valL_map {ρ : Operand → SV} (hρ : ∀ y, Val V (ρ y)) (l : List Operand) : ValL V (l.map ρ) := by
  rw [valL_iff]; intro z hz
  obtain ⟨q, _, rfl⟩ := List.mem_map.1 hz
  exact hρ q
theorem fill_val {l : List (Nat × SV)} {cells r : List SV} (h : ∀ x ∈ r, x ∈ cells ∨ ∃ q ∈ l, x ∈ q.2.cells) (h1 : ValL V cells) (h2 : ∀ q ∈ l, Val V q.2) : ValL V r := by
  rw [valL_iff] at *
  intro x hx
  rcases h x hx with h | ⟨q, hq, hx⟩
  · exact h1 x h
  · have := cells_val (h2 q hq)
    rw [valL_iff] at this
    exact this x hx
section ops
variable {ρ : Operand → SV} {o : Oper} {x : Nx}
theorem parts_eq (ν : Nu) (ρ : Operand → SV) (parts : Array (Nat × Operand)) : (parts.map fun (i, x) => (i, den ν (ρ x))).toList = (mapR (fun q => (q.1, ρ q.2)) parts.toList).map fun q => (q.1, den ν q.2) := by
  rw [mapR_eq]; simp
theorem es_alloc (hE : EnvOK E P) (hR : Rel P G s ν V w) (hf : Fresh s s' V) {t : TypeId} (ho : o.op = .alloc t) (h : Ok (ex_alloc E ρ t) s x s' p) : Goal P G s ν V w s' p (execOp (fun y => den ν (ρ y)) o) x := by
  simp only [execOp, ho]
  refine goal_val h (fun y p1 h1 => ?_)
  obtain ⟨z, s1, p2, p3, h2, h3, rfl⟩ := ok_bind.1 h1
  obtain ⟨rfl, rfl, hv, i, v, hi, hz, hd, hty⟩ := zero_get hE h2
  obtain ⟨g1, ν', w', g2, g3, g4⟩ := run_newVarA hR hf h3 (hv V)
  refine ⟨g1, ν', w', ?_, g3, g4.mono (fun b hb => Or.inr hb)⟩
  rw [hd ν] at g2
  unfold Instr.alloc
  rw [Sem.run_bind, run_zero hE hty hz, Result.andThen_ok]
  exact g2
theorem es_box (hR : Rel P G s ν V w) (hf : Fresh s s' V) (hρ : ∀ y, Val V (ρ y)) {t : TypeId} {a : Operand} (ho : o.op = .box t a) (h : Ok (ex_box E ρ t a) s x s' p) : Goal P G s ν V w s' p (execOp (fun y => den ν (ρ y)) o) x := by
  simp only [execOp, ho]
  refine goal_val h (fun y p1 h1 => ?_)
  obtain ⟨g1, ν', w', g2, g3, g4⟩ := run_newVarA hR hf h1 (hρ a)
  exact ⟨g1, ν', w', g2, g3, g4⟩
theorem mapM_ok {α β : Type} (f : α → Sem β) (g : α → β) (w : World) : ∀ l : List α, (∀ x ∈ l, (f x).run P w = .ok (g x) w) → (l.mapM f).run P w = .ok (l.map g) w
  | [], _ => by simp
  | x :: l, h => by
    rw [List.mapM_cons, Sem.run_bind, h x (by simp), Result.andThen_ok, Sem.run_bind, mapM_ok f g w l (fun y hy => h y (by simp [hy])), Result.andThen_ok]
    rfl
theorem places_ok (hE : EnvOK E P) : ∀ {fs : List Field} {pl : List (Nat × Nat)}, placesOf E fs = some pl → fs.mapM (fun f => (P.info? f.type).map fun i => (f.offset, i.size)) = some pl
  | [], pl, h => by
    have h : some [] = some pl := h
    simpa using h
  | f :: fs, pl, h => by
    have h : (match E.ty f.type, placesOf E fs with
      | some ti, some l => some ((f.offset, ti.size) :: l)
      | _, _ => none) = some pl := h
    cases hi : E.ty f.type with
    | none => rw [hi] at h; cases h
    | some ti =>
      cases hr : placesOf E fs with
      | none => rw [hi, hr] at h; cases h
      | some l =>
        rw [hi, hr] at h
        simp only [Option.some.injEq] at h
        subst h
        simp [List.mapM_cons, hE.ty _ _ hi, places_ok hE hr]
theorem es_build (hE : EnvOK E P) (hR : Rel P G s ν V w) (hρ : ∀ y, Val V (ρ y)) {t : TypeId} {parts : Array (Nat × Operand)} (ho : o.op = .build t parts) (h : Ok (ex_build E ρ t parts) s x s' p) : Goal P G s ν V w s' p (execOp (fun y => den ν (ρ y)) o) x := by
  simp only [execOp, ho]
  refine goal_val h (fun y p1 h1 => ?_)
  obtain ⟨z, s1, p2, p3, h2, h3, rfl⟩ := ok_bind.1 h1
  obtain ⟨rfl, rfl, hv, i, v, hi, hz, hd, hty⟩ := zero_get hE h2
  obtain ⟨d, s2, p4, p5, h4, h5, rfl⟩ := ok_bind.1 h3
  obtain ⟨hdd, rfl, rfl⟩ := ok_und.1 h4
  have hu := und_ok hE hdd
  have hcells : v.cells = (denL ν z.cells).toArray := by rw [← hd ν, ← cells_den' ν z]
  have hparts : ∀ q ∈ mapR (fun q => (q.1, ρ q.2)) parts.toList, Val V q.2 := fun q hq => by
    rw [mapR_eq] at hq
    obtain ⟨q', _, rfl⟩ := List.mem_map.1 hq
    exact hρ _
  split at h5
  · rename_i fs
    cases hpl : placesOf E fs.toList with
    | none => rw [hpl] at h5; exact (ok_fail h5).elim
    | some pl =>
      rw [hpl] at h5
      obtain ⟨l, s3, p6, p7, h6, h7, rfl⟩ := ok_bind.1 h5
      obtain ⟨rfl, rfl, rfl⟩ := ok_pure.1 h7
      obtain ⟨g1, g2, g3, g4, g5⟩ := run_fill (ν := ν) _ _ _ _ _ _ h6
      subst g1
      refine ⟨Nat.le_refl _, ν, w, ?_, by rw [VN_self]; exact fill_val g5 (cells_val (hv V)) hparts, post_refl hR _⟩
      have hm := places_ok hE hpl
      refine run_build w t _ _ ?_
      unfold Program.built
      simp only [hi, hu, hz, hm, parts_eq, hcells]
      rw [← g3]
      congr 1
      funext i
      rw [getR_eq]; simp
  · rename_i n e
    obtain ⟨ti, s3, p6, p7, h6, h7, rfl⟩ := ok_bind.1 h5
    obtain ⟨hti, rfl, rfl⟩ := ok_info.1 h6
    obtain ⟨l, s4, p8, p9, h8, h9, rfl⟩ := ok_bind.1 h7
    obtain ⟨rfl, rfl, rfl⟩ := ok_pure.1 h9
    obtain ⟨g1, g2, g3, g4, g5⟩ := run_fill (ν := ν) _ _ _ _ _ _ h8
    subst g1
    refine ⟨Nat.le_refl _, ν, w, ?_, by rw [VN_self]; exact fill_val g5 (cells_val (hv V)) hparts, post_refl hR _⟩
    refine run_build w t _ _ ?_
    unfold Program.built
    simp only [hi, hu, hz, hE.ty _ _ hti, parts_eq, hcells]
    rw [← g3]
  · exact (ok_fail h5).elim
theorem es_makeMap (hE : EnvOK E P) (hR : Rel P G s ν V w) (hf : Fresh s s' V) {t : TypeId} {r : Option Operand} (ho : o.op = .makeMap t r) (h : Ok (ex_makeMap E ρ t r) s x s' p) : Goal P G s ν V w s' p (execOp (fun y => den ν (ρ y)) o) x := by
  unfold ex_makeMap at h
  obtain ⟨d, s1, p1, p2, h1, h2, rfl⟩ := ok_bind.1 h
  obtain ⟨hdd, rfl, rfl⟩ := ok_und.1 h1
  have hu := und_ok hE hdd
  have fin : ∀ {p : FP}, Ok (new (.map [] 0) >>= fun b => pure (.val (.mp b))) s x s' p → s.c ≤ s'.c ∧ ∃ ν' w', ((do pure (Value.map (some (← newObj (.map #[] 0)))) : Sem Value)).run P w = .ok (den ν' (.mp s.c)) w' ∧ x = .val (.mp s.c) ∧ Val (VN V s s') (.mp s.c) ∧ Post P G s ν V w s' p ν' w' := fun {p} h => by
    obtain ⟨b, s2, p3, p4, h3, h4, rfl⟩ := ok_bind.1 h
    obtain ⟨hn, ht, rfl, rfl, rfl⟩ := ok_new.1 h3
    obtain ⟨rfl, rfl, rfl⟩ := ok_pure.1 h4
    have hv : ¬ V s.c := hf s.c (Nat.le_refl _) (Nat.lt_succ_self _)
    refine ⟨Nat.le_succ _, setNu ν s.c w.heap.size 0, w.alloc (.map #[] 0), ?_, rfl, Or.inr ⟨Nat.le_refl _, Nat.lt_succ_self _⟩, post_new hR ht hn hv 0 (ao := .map [] 0) (o := .map #[] 0) (by intro e he; cases he) rfl _ rfl rfl rfl rfl⟩
    simp [den, setNu]
  split at h2
  · rename_i k e hr
    obtain ⟨g1, ν', w', g2, rfl, g3, g4⟩ := fin h2
    refine ⟨g1, ν', _, w', ?_, .val _, g3, g4.mono (fun b hb => Or.inr hb)⟩
    cases r with
    | some q => cases hr
    | none =>
      simp only [execOp, ho]
      refine run_v ?_
      unfold Instr.makeMap
      simpa using g2
  · rename_i k e kk n hr
    obtain ⟨g1, ν', w', g2, rfl, g3, g4⟩ := fin h2
    refine ⟨g1, ν', _, w', ?_, .val _, g3, g4.mono (fun b hb => Or.inr hb)⟩
    cases r with
    | none => cases hr
    | some q =>
      have hq : ρ q = .v (.int kk n) := by simpa using hr
      simp only [execOp, ho]
      refine run_v ?_
      unfold Instr.makeMap
      simpa [run_underlying hu, hq, den, Go.asInt, asIntOf] using g2
  · exact (ok_fail h2).elim
theorem es_makeSlice (hE : EnvOK E P) (hR : Rel P G s ν V w) (hf : Fresh s s' V) {t : TypeId} {l c : Operand} (ho : o.op = .makeSlice t l c) (h : Ok (ex_makeSlice E ρ t l c) s x s' p) : Goal P G s ν V w s' p (execOp (fun y => den ν (ρ y)) o) x := by
  simp only [execOp, ho]
  refine goal_val h (fun y p1 h1 => ?_)
  obtain ⟨d, s1, p2, p3, h2, h3, rfl⟩ := ok_bind.1 h1
  obtain ⟨hdd, rfl, rfl⟩ := ok_und.1 h2
  have hu := und_ok hE hdd
  split at h3
  · rename_i e
    obtain ⟨n, s2, p4, p5, h4, h5, rfl⟩ := ok_bind.1 h3
    obtain ⟨hn, rfl, rfl⟩ := ok_asInt.1 h4
    obtain ⟨m, s3, p6, p7, h6, h7, rfl⟩ := ok_bind.1 h5
    obtain ⟨hm, rfl, rfl⟩ := ok_asInt.1 h6
    obtain ⟨ti, s4, p8, p9, h8, h9, rfl⟩ := ok_bind.1 h7
    obtain ⟨hti, rfl, rfl⟩ := ok_info.1 h8
    obtain ⟨z, s5, q1, q2, k1, k2, rfl⟩ := ok_bind.1 h9
    obtain ⟨rfl, rfl, hv, i, v, hi, hz, hd, hty⟩ := zero_get hE k1
    obtain ⟨u, s6, q3, q4, k3, k4, rfl⟩ := ok_bind.1 k2
    obtain ⟨ha, rfl, rfl⟩ := ok_asrt.1 k3
    obtain ⟨b, s7, q5, q6, k5, k6, rfl⟩ := ok_bind.1 k4
    obtain ⟨rfl, rfl, rfl⟩ := ok_pure.1 k6
    rw [hti] at hty; injection hty with hty; subst hty
    simp only [Bool.and_eq_true] at ha
    obtain ⟨⟨⟨⟨a1, a2⟩, a3⟩, a4⟩, a5⟩ := ha
    obtain ⟨b1, b2, b3⟩ := inB_eq a1
    obtain ⟨c1, c2, c3⟩ := inB_eq a2
    have a3 := ble_true a3
    have a4 := blt_true a4
    rw [lenR_eq] at a5
    have a5 := beq_true a5
    have hmm := made_many ν v z (hd ν) m.2.toNat ti.size a5 a4
    have hrun := run_make (P := P) w t e ti v hu hi hz n.1 m.1 n.2 m.2 c1 (by omega) (by
      have h1 : (ti.bytes : Int) ≤ 10000 := by omega
      have h2 : (ti.bytes : Int) * m.2 ≤ 10000 * 1000000 := Int.mul_le_mul h1 (by omega) b1 (by omega)
      omega) (by omega)
    have hall : ∀ x ∈ many m.2.toNat z.cells, Val V x := fun x hx => by
      have := cells_val (hv V); rw [valL_iff] at this
      exact this x (many_mem hx)
    obtain ⟨g1, g2, g3, g4, _, g5, g6⟩ := post_row (w' := w.alloc (.cells (madeCells v.cells (m.2.toNat * ti.size)) e)) (fz := (0, 0)) hR k5 hf (by rw [valL_iff]; exact hall) [] 0 (by simp) (by simp) (by simp) (by simp) (by
      have : madeCells v.cells (m.2.toNat * ti.size) = (denL ν (many m.2.toNat z.cells) ++ []).toArray := by rw [List.append_nil, ← hmm]
      rw [this]; rfl) rfl rfl rfl
    refine ⟨by omega, _, _, ?_, Or.inr ⟨by omega, by omega⟩, g6.mono (fun b hb => by simp [FP.W, hb])⟩
    rw [hn, hm]
    simp only [den]
    rw [hrun, g4]
    simp
  · exact (ok_fail h3).elim
end ops
end Go.Ev
/- Slices, places in them, parts of values. -/
namespace Go.Ev
variable {E : Env} {P : Program} {G : Nat} {s s' : HS} {p : FP} {ν : Nu} {V : Nat → Prop} {w : World}
theorem run_bound {x : SV} {y n : Nat} (h : Ok (bound x y) s n s' p) : s' = s ∧ (∀ b, ¬ p.W b) ∧ n ≤ y ∧ ∀ y' code, y ≤ y' → (Instr.sliceBound (den ν x) y' code).run P w = .ok n w := by
  unfold bound at h
  obtain ⟨i, s1, p1, p2, h1, h2, rfl⟩ := ok_bind.1 h
  obtain ⟨hi, rfl, rfl⟩ := ok_asInt.1 h1
  obtain ⟨u, s2, p3, p4, h3, h4, rfl⟩ := ok_bind.1 h2
  obtain ⟨ha, rfl, rfl⟩ := ok_asrt.1 h3
  obtain ⟨rfl, rfl, rfl⟩ := ok_pure.1 h4
  obtain ⟨a1, a2, a3⟩ := inB_eq ha
  refine ⟨rfl, by simp [FP.W], by omega, fun y' code hy => ?_⟩
  rw [hi]
  simp only [den, Instr.sliceBound, Sem.run_bind, asIntOf, Sem.run_pure, Result.andThen_ok]
  rw [if_pos ⟨a1, by omega⟩]
  rfl
theorem run_bounds {len cap : Nat} {lo hi mx : Option SV} {r : Nat × Nat × Nat} (h : Ok (boundsM len cap lo hi mx) s r s' p) (isS : Bool) (capR : Nat) (hc : cap ≤ capR) :
    s' = s ∧ (∀ b, ¬ p.W b) ∧ (Instr.sliceBounds isS len capR (lo.map (den ν)) (hi.map (den ν)) (mx.map (den ν))).run P w = .ok (r.1, r.2.1, if mx.isNone then capR else r.2.2) w := by
  unfold boundsM at h
  obtain ⟨m, s1, p1, p2, h1, h2, rfl⟩ := ok_bind.1 h
  obtain ⟨hh, s2, p3, p4, h3, h4, rfl⟩ := ok_bind.1 h2
  obtain ⟨l, s3, p5, p6, h5, h6, rfl⟩ := ok_bind.1 h4
  obtain ⟨rfl, rfl, rfl⟩ := ok_pure.1 h6
  have L : s3 = s2 ∧ (∀ b, ¬ p5.W b) ∧ ((lo = none ∧ l = 0) ∨ ∃ v, lo = some v ∧ ∀ code, (Instr.sliceBound (den ν v) hh code).run P w = .ok l w) := by
    cases lo with
    | none => obtain ⟨rfl, rfl, rfl⟩ := ok_pure.1 h5; exact ⟨rfl, by simp [FP.W], .inl ⟨rfl, rfl⟩⟩
    | some v => obtain ⟨g1, g2, _, g3⟩ := run_bound (ν := ν) (P := P) (w := w) h5; exact ⟨g1, g2, .inr ⟨v, rfl, fun code => g3 hh code (Nat.le_refl _)⟩⟩
  obtain ⟨e3, w3, L⟩ := L
  cases mx with
  | none =>
    obtain ⟨rfl, rfl, rfl⟩ := ok_pure.1 h1
    cases hi with
    | none =>
      obtain ⟨u, s4, p7, p8, h7, h8, rfl⟩ := ok_bind.1 h3
      obtain ⟨_, rfl, rfl⟩ := ok_asrt.1 h7
      obtain ⟨rfl, rfl, rfl⟩ := ok_pure.1 h8
      refine ⟨e3, fun b => by simp [FP.W, w3 b], ?_⟩
      rcases L with ⟨rfl, rfl⟩ | ⟨v, rfl, L⟩
      · simp [Instr.sliceBounds]
      · simp [Instr.sliceBounds, L]
    | some v =>
      obtain ⟨g1, g2, _, g3⟩ := run_bound (ν := ν) (P := P) (w := w) h3
      refine ⟨e3.trans g1, fun b => by simp [FP.W, w3 b, g2 b], ?_⟩
      have g3 := fun code => g3 capR code hc
      rcases L with ⟨rfl, rfl⟩ | ⟨v, rfl, L⟩
      · simp [Instr.sliceBounds, g3]
      · simp [Instr.sliceBounds, g3, L]
  | some v =>
    obtain ⟨k1, k2, k3, k4⟩ := run_bound (ν := ν) (P := P) (w := w) h1
    have k4 := fun code => k4 capR code hc
    cases hi with
    | none =>
      obtain ⟨u, s4, p7, p8, h7, h8, rfl⟩ := ok_bind.1 h3
      obtain ⟨hb, _, _⟩ := ok_asrt.1 h7
      cases hb
    | some v' =>
      obtain ⟨g1, g2, _, g3⟩ := run_bound (ν := ν) (P := P) (w := w) h3
      have g3 := fun code => g3 m code (Nat.le_refl _)
      refine ⟨e3.trans (g1.trans k1), fun b => by simp [FP.W, w3 b, g2 b, k2 b], ?_⟩
      rcases L with ⟨rfl, rfl⟩ | ⟨v, rfl, L⟩
      · simp [Instr.sliceBounds, g3, k4]
      · simp [Instr.sliceBounds, g3, k4, L]
theorem bounds_cap {len cap : Nat} {lo hi mx : Option SV} {r : Nat × Nat × Nat} (h : Ok (boundsM len cap lo hi mx) s r s' p) (hm : mx = none) : r.2.2 = cap := by
  subst hm
  unfold boundsM at h
  obtain ⟨m, s1, p1, p2, k1, k2, _⟩ := ok_bind.1 h
  obtain ⟨rfl, rfl, rfl⟩ := ok_pure.1 k1
  obtain ⟨hh, s2, p3, p4, k3, k4, _⟩ := ok_bind.1 k2
  obtain ⟨l, s3, p5, p6, k5, k6, _⟩ := ok_bind.1 k4
  obtain ⟨rfl, _, _⟩ := ok_pure.1 k6
  rfl
theorem bounds_if {len cap : Nat} {lo hi mx : Option SV} {r : Nat × Nat × Nat} (h : Ok (boundsM len cap lo hi mx) s r s' p) : (if mx.isNone then cap else r.2.2) = r.2.2 := by
  cases mx with
  | some v => rfl
  | none => simp [bounds_cap h rfl]
theorem extract_bytes (l : List UInt8) (a b : Nat) : (⟨l.toArray⟩ : ByteArray).extract a b = ⟨((l.drop a).take (b - a)).toArray⟩ := by
  apply ByteArray.ext
  rw [ByteArray.data_extract]
  apply Array.ext'
  simp only [Array.toList_extract, List.extract_eq_take_drop]
theorem beq_false {a b : Nat} (h : ¬ a = b) : Nat.beq a b = false := by
  cases hb : Nat.beq a b with
  | false => rfl
  | true => exact (h (beq_true hb)).elim
section ops
variable {ρ : Operand → SV} {o : Oper} {x : Nx}
theorem map_den (ν : Nu) (ρ : Operand → SV) (a : Option Operand) : a.map (fun y => den ν (ρ y)) = (a.map ρ).map (den ν) := by cases a <;> rfl
theorem es_slice (hE : EnvOK E P) (hR : Rel P G s ν V w) (hρ : ∀ y, Val V (ρ y)) {t : TypeId} {a : Operand} {lo hi mx : Option Operand} (ho : o.op = .slice t a lo hi mx) (h : Ok (ex_slice E ρ t a lo hi mx) s x s' p) : Goal P G s ν V w s' p (execOp (fun y => den ν (ρ y)) o) x := by
  simp only [execOp, ho, map_den]
  refine goal_val h (fun y p1 h1 => ?_)
  have hv := hρ a
  unfold sliceA at h1
  obtain ⟨d, s1, p2, p3, h2, h3, rfl⟩ := ok_bind.1 h1
  obtain ⟨hdd, rfl, rfl⟩ := ok_und.1 h2
  have hu := und_ok hE hdd
  split at h3
  · rename_i l he
    obtain ⟨u, s2, p4, p5, h4, h5, rfl⟩ := ok_bind.1 h3
    obtain ⟨hm, rfl, rfl⟩ := ok_asrt.1 h4
    obtain ⟨r, s3, p6, p7, h6, h7, rfl⟩ := ok_bind.1 h5
    obtain ⟨rfl, rfl, rfl⟩ := ok_pure.1 h7
    have hmx : mx = none := by cases mx <;> simp_all
    subst hmx
    rw [lenR_eq] at h6
    obtain ⟨rfl, g2, g3⟩ := run_bounds (ν := ν) (P := P) (w := w) h6 false l.length (Nat.le_refl _)
    refine ⟨Nat.le_refl _, ν, w, ?_, by simp [Val], post_refl hR _⟩
    have hsz : (⟨l.toArray⟩ : ByteArray).size = l.length := by simp [ByteArray.size]
    simp only [Instr.sliceAt, Instr.slice, Sem.run_bind, run_underlying hu, Result.andThen_ok, he, den, hsz, Option.map_none, Option.isSome_none, Bool.false_eq_true, if_false, Sem.run_pure]
    simp only [Option.map_none] at g3
    simp only [g3, Result.andThen_ok]
    rw [takeR_eq, dropR_eq]
    rw [extract_bytes]
  · rename_i e b z i len c he
    rw [he] at hv
    obtain ⟨ti, s2, p4, p5, h4, h5, rfl⟩ := ok_bind.1 h3
    obtain ⟨hti, rfl, rfl⟩ := ok_info.1 h4
    rcases ok_bif.1 h5 with ⟨hz, h6⟩ | ⟨_, h6⟩
    case inr => exact (ok_fail h6).elim
    have hz := beq_true hz
    obtain ⟨r, s3, p6, p7, h7, h8, rfl⟩ := ok_bind.1 h6
    obtain ⟨rfl, rfl, rfl⟩ := ok_pure.1 h8
    obtain ⟨rfl, g2, g3⟩ := run_bounds (ν := ν) (P := P) (w := w) h7 true c (Nat.le_refl _)
    refine ⟨Nat.le_refl _, ν, w, ?_, by rw [VN_self]; exact hv, post_refl hR _⟩
    have hm := bounds_if h7
    rw [hm] at g3
    simp only [Instr.sliceAt, Instr.slice, Sem.run_bind, run_underlying hu, Result.andThen_ok, he, den, Option.getD_some, g3, run_size hE hti, Sem.run_pure, hz]
    by_cases hml : r.2.2 = r.1
    · simp [hml]
    · simp only [hml, if_false, beq_false hml, cond_false, Option.map_some, Addr.add_mid, Nat.add_mul]
  · rename_i e b z i len he
    rw [he] at hv
    obtain ⟨ti, s2, p4, p5, h4, h5, rfl⟩ := ok_bind.1 h3
    obtain ⟨hti, rfl, rfl⟩ := ok_info.1 h4
    rcases ok_bif.1 h5 with ⟨hz, h5⟩ | ⟨_, h5⟩
    · obtain ⟨rfl, rfl, rfl⟩ := ok_pure.1 h5
      rw [Bool.and_eq_true] at hz
      have hi0 := beq_true hz.2
      subst hi0
      have hz := hz.1
      unfold zeroHi at hz
      split at hz
      · rename_i k n h1 h2 h3
        have hn : n = 0 := by
          have := inB_eq hz
          omega
        subst hn
        have k2 : ∃ q, Ok (boundsM 0 0 none (some (.v (.int k 0))) none) s (0, 0, 0) s q := ⟨_, rfl⟩
        obtain ⟨q, k2⟩ := k2
        obtain ⟨_, _, g3⟩ := run_bounds (ν := ν) (P := P) (w := w) k2 true (ν.κ b - 0) (Nat.zero_le _)
        have g4 : (Instr.sliceBounds true len (ν.κ b - 0) (none : Option Value) (some (.int k 0)) none).run P w = .ok (0, 0, ν.κ b - 0) w := g3
        refine ⟨Nat.le_refl _, ν, w, ?_, by rw [VN_self]; exact hv, post_refl hR _⟩
        rw [h1, h2, h3]
        simp only [Option.map_none, Option.map_some, Instr.sliceAt, Instr.slice, Sem.run_bind, run_underlying hu, Result.andThen_ok, he, den, Option.getD_none, g4, run_size hE hti, Sem.run_pure]
        simp
        intro _
        rw [Addr.add_mid]
      · cases hz
    obtain ⟨q, s3, p6, p7, h6, h7, rfl⟩ := ok_bind.1 h5
    obtain ⟨hq, rfl, rfl⟩ := ok_cells.1 h6
    obtain ⟨qi, s4, p8, p9, h8, h9, rfl⟩ := ok_bind.1 h7
    obtain ⟨hqi, rfl, rfl⟩ := ok_info.1 h8
    rcases ok_bif.1 h9 with ⟨hz, k1⟩ | ⟨_, k1⟩
    case inr => exact (ok_fail k1).elim
    simp only [Bool.and_eq_true] at hz
    obtain ⟨⟨⟨⟨z1, z2⟩, z3⟩, z4⟩, z5⟩ := hz
    have z1 := beq_true z1
    have z2 := beq_true z2
    have z3 := blt_true z3
    have z5 := ble_true z5
    rw [lenR_eq] at z5
    obtain ⟨r, s5, q1, q2, k2, k3, rfl⟩ := ok_bind.1 k1
    obtain ⟨e', l, lo'⟩ := q
    simp only at hq hqi z4 z5
    subst z4
    obtain ⟨rest, f1, f2, hA⟩ := cellsAt hR hq
    obtain ⟨i', hi', hn⟩ := hA.loose rfl
    rw [hE.ty _ _ hqi] at hi'
    injection hi' with hi'
    subst hi'
    rw [z2] at hn
    have hcap : len ≤ ν.κ b - i := by
      have : (i + len) * z ≤ ν.κ b * z := by omega
      have := Nat.le_of_mul_le_mul_right this z3
      omega
    obtain ⟨e5, g2, g3⟩ := run_bounds (ν := ν) (P := P) (w := w) k2 true (ν.κ b - i) hcap
    have hbc := bounds_cap k2
    cases hmx : mx.map ρ with
    | some v =>
      rw [hmx] at k3 g3
      obtain ⟨rfl, rfl, rfl⟩ := ok_pure.1 k3
      subst e5
      refine ⟨Nat.le_refl _, ν, w, ?_, by rw [VN_self]; exact hv, post_refl hR _⟩
      simp only [Option.isNone_some, Bool.false_eq_true, if_false] at g3
      simp only [Instr.sliceAt, Instr.slice, Sem.run_bind, run_underlying hu, Result.andThen_ok, he, den, Option.getD_none, Option.getD_some, g3, run_size hE hti, Sem.run_pure, z1]
      by_cases hml : r.2.2 = r.1
      · simp [hml]
      · simp only [hml, if_false, beq_false hml, cond_false, Option.map_some, Addr.add_mid, Nat.add_mul]
    | none =>
      rw [hmx] at k3 g3
      rcases ok_bif.1 k3 with ⟨hc, k4⟩ | ⟨_, k4⟩
      case inr => exact (ok_fail k4).elim
      obtain ⟨rfl, rfl, rfl⟩ := ok_pure.1 k4
      subst e5
      refine ⟨Nat.le_refl _, ν, w, ?_, by rw [VN_self]; exact hv, post_refl hR _⟩
      simp only [Option.isNone_none, if_true] at g3
      simp only [Instr.sliceAt, Instr.slice, Sem.run_bind, run_underlying hu, Result.andThen_ok, he, den, Option.getD_none, g3, run_size hE hti, Sem.run_pure, z1]
      rw [Bool.or_eq_true] at hc
      by_cases hml : ν.κ b - i = r.1
      · have hr0 : r.1 = 0 := by
          rcases hc with hc | hc
          · have := blt_true hc; omega
          · exact beq_true hc
        rw [if_pos hml, hr0]
        simp
      · rw [if_neg hml]
        simp only [Option.map_some, Addr.add_mid, Nat.add_mul]
        congr 2
        omega
  · rename_i e he
    obtain ⟨ti, s2, p4, p5, h4, h5, rfl⟩ := ok_bind.1 h3
    obtain ⟨hti, rfl, rfl⟩ := ok_info.1 h4
    obtain ⟨r, s5, q1, q2, k2, k3, rfl⟩ := ok_bind.1 h5
    rcases ok_bif.1 k3 with ⟨hz, k4⟩ | ⟨_, k4⟩
    case inr => exact (ok_fail k4).elim
    obtain ⟨rfl, rfl, rfl⟩ := ok_pure.1 k4
    obtain ⟨rfl, g2, g3⟩ := run_bounds (ν := ν) (P := P) (w := w) k2 true 0 (Nat.le_refl _)
    rw [bounds_if k2] at g3
    simp only [Bool.and_eq_true] at hz
    obtain ⟨⟨z1, z2⟩, z3⟩ := hz
    refine ⟨Nat.le_refl _, ν, w, ?_, by rw [VN_self, he]; simp [Val], post_refl hR _⟩
    simp only [Instr.sliceAt, Instr.slice, Sem.run_bind, run_underlying hu, Result.andThen_ok, he, den, g3, beq_true z1, beq_true z2, beq_true z3, run_size hE hti, Sem.run_pure]
    simp
  · rename_i n e b z i j he
    rw [he] at hv
    obtain ⟨ti, s2, p4, p5, h4, h5, rfl⟩ := ok_bind.1 h3
    obtain ⟨hti, rfl, rfl⟩ := ok_info.1 h4
    rcases ok_bif.1 h5 with ⟨hz, h6⟩ | ⟨_, h6⟩
    case inr => exact (ok_fail h6).elim
    have hz := beq_true hz
    obtain ⟨r, s3, p6, p7, h7, h8, rfl⟩ := ok_bind.1 h6
    obtain ⟨rfl, rfl, rfl⟩ := ok_pure.1 h8
    obtain ⟨rfl, g2, g3⟩ := run_bounds (ν := ν) (P := P) (w := w) h7 false n (Nat.le_refl _)
    rw [bounds_if h7] at g3
    refine ⟨Nat.le_refl _, ν, w, ?_, by rw [VN_self]; exact hv, post_refl hR _⟩
    simp only [Instr.sliceAt, Sem.run_bind, run_underlying hu, Result.andThen_ok, he, den, Instr.sureAddr, g3, run_size hE hti, Sem.run_pure, hz, Option.getD_some]
    by_cases hml : r.2.2 = r.1
    · simp [hml]
    · simp only [hml, if_false, beq_false hml, cond_false, Addr.add_mid, Nat.mul_one]
  · exact (ok_fail h3).elim
end ops
end Go.Ev
/- Literals of slices, fields, elements, conversions, assertions of types. -/
namespace Go.Ev
variable {E : Env} {P : Program} {G : Nat} {s s' : HS} {p : FP} {ν : Nu} {V : Nat → Prop} {w : World}
variable {ρ : Operand → SV} {o : Oper} {x : Nx}
theorem es_buildSlice (hE : EnvOK E P) (hR : Rel P G s ν V w) (hf : Fresh s s' V) (hρ : ∀ y, Val V (ρ y)) {t : TypeId} {len : Nat} {parts : Array (Nat × Operand)} (ho : o.op = .buildSlice t len parts) (h : Ok (ex_buildSlice E ρ t len parts) s x s' p) : Goal P G s ν V w s' p (execOp (fun y => den ν (ρ y)) o) x := by
  simp only [execOp, ho]
  refine goal_val h (fun y p1 h1 => ?_)
  obtain ⟨d, s1, p2, p3, h2, h3, rfl⟩ := ok_bind.1 h1
  obtain ⟨hdd, rfl, rfl⟩ := ok_und.1 h2
  have hu := und_ok hE hdd
  split at h3
  · rename_i e
    obtain ⟨ti, s4, p8, p9, h8, h9, rfl⟩ := ok_bind.1 h3
    obtain ⟨hti, rfl, rfl⟩ := ok_info.1 h8
    obtain ⟨z, s5, q1, q2, k1, k2, rfl⟩ := ok_bind.1 h9
    obtain ⟨rfl, rfl, hv, i, v, hi, hz, hd, hty⟩ := zero_get hE k1
    obtain ⟨u, s6, q3, q4, k3, k4, rfl⟩ := ok_bind.1 k2
    obtain ⟨ha, rfl, rfl⟩ := ok_asrt.1 k3
    obtain ⟨l, s7, q5, q6, k5, k6, rfl⟩ := ok_bind.1 k4
    obtain ⟨b, s8, q7, q8, k7, k8, rfl⟩ := ok_bind.1 k6
    obtain ⟨rfl, rfl, rfl⟩ := ok_pure.1 k8
    rw [hti] at hty; injection hty with hty; subst hty
    simp only [Bool.and_eq_true] at ha
    obtain ⟨⟨a1, a2⟩, a3⟩ := ha
    have a1 := blt_true a1
    rw [lenR_eq] at a2
    have a2 := beq_true a2
    have a3 := ble_true a3
    obtain ⟨g1, g2, g3, g4, g5⟩ := run_fill (ν := ν) _ _ _ _ _ _ k5
    subst g1
    have hparts : ∀ q ∈ mapR (fun q => (q.1, ρ q.2)) parts.toList, Val V q.2 := fun q hq => by
      rw [mapR_eq] at hq
      obtain ⟨q', _, rfl⟩ := List.mem_map.1 hq
      exact hρ _
    have hmany : ValL V (many len z.cells) := by
      rw [valL_iff]; intro x hx
      have := cells_val (hv V); rw [valL_iff] at this
      exact this x (many_mem hx)
    have hl : ValL V l := fill_val g5 hmany hparts
    obtain ⟨m1, m2, m3, m4, _, m5, m6⟩ := post_row (w' := w.alloc (.cells (denL ν l).toArray e)) (fz := (0, 0)) hR k7 hf hl [] 0 (by simp) (by simp) (by simp) (by simp) (by rw [List.append_nil]; rfl) rfl rfl rfl
    refine ⟨by omega, _, _, ?_, Or.inr ⟨by omega, by omega⟩, m6.mono (fun b hb => by simp [FP.W, hb])⟩
    by_cases hlen : len = 0
    · subst hlen
      have hll : l = [] := by
        have : l.length = 0 := by rw [g4]; simp [many_eq]
        exact List.eq_nil_of_length_eq_zero this
      subst hll
      have hp0 : Instr.fill (fun i => some (i * ti.size, ti.size)) #[] (parts.map fun (i, x) => (i, den ν (ρ x))).toList = some #[] := by
        rw [parts_eq]
        simpa [many_eq, denL] using g3
      simp only [Instr.buildSlice, Sem.run_bind, run_underlying hu, Result.andThen_ok, run_size hE hti]
      have hp1 : Instr.fill (fun i => some (i * ti.size, ti.size)) (Array.map (fun _ => (default : Value)) (Array.range 0)) (List.map (fun x => (x.1, den ν (ρ x.2))) parts.toList) = some #[] := by
        have e0 : Array.map (fun _ => (default : Value)) (Array.range 0) = #[] := by apply Array.ext'; simp
        rw [e0]
        simpa using hp0
      simp [hp1, den, m4, denL, Go.newRow]
    · have hrun := run_buildSlice (P := P) w t e len (parts.map fun (i, x) => (i, den ν (ρ x))) (denL ν l).toArray ti v hu hi hz (by omega) (by
        have : 0 < len * ti.size := Nat.mul_pos (by omega) a1
        omega) (by
        have hm := made_many ν v z (hd ν) len ti.size a2 a1
        have e1 : (Array.range (len * ti.size)).map (v.cells[· % v.cells.size]!) = (denL ν (many len z.cells)).toArray := by
          rw [← hm]; rfl
        rw [e1, parts_eq]
        exact g3)
      rw [hrun]
      simp [den, m4]
  · exact (ok_fail h3).elim
theorem run_part (hE : EnvOK E P) {t : TypeId} {cs : List SV} {off : Nat} {y : SV} (h : Ok (part E t cs off) s y s' p) (hv : ValL V cs) : s' = s ∧ (∀ b, ¬ p.W b) ∧ Val V y ∧ (Go.part t (denL ν cs).toArray off).run P w = .ok (den ν y) w := by
  unfold part at h
  obtain ⟨d, s1, p2, p3, h2, h3, rfl⟩ := ok_bind.1 h
  obtain ⟨hdd, rfl, rfl⟩ := ok_und.1 h2
  have hu := und_ok hE hdd
  have hag : (Go.isAgg t).run P w = .ok (aggD d) w := by
    unfold Go.isAgg
    rw [Sem.run_bind, run_underlying hu w]
    cases d <;> simp [aggD]
  rcases ok_bif.1 h3 with ⟨ha, h4⟩ | ⟨ha, h4⟩
  · obtain ⟨ti, s4, p8, p9, h8, h9, rfl⟩ := ok_bind.1 h4
    obtain ⟨hti, rfl, rfl⟩ := ok_info.1 h8
    obtain ⟨rfl, rfl, rfl⟩ := ok_pure.1 h9
    refine ⟨rfl, by simp [FP.W], ?_, ?_⟩
    · show ValL V _
      rw [takeR_eq, dropR_eq]
      exact val_sub hv (fun x hx => List.mem_of_mem_drop (List.mem_of_mem_take hx))
    · simp only [Go.part, Sem.run_bind, hag, Result.andThen_ok, ha, if_true, run_size hE hti, Sem.run_pure, den]
      congr 2
      apply Array.ext'
      rw [takeR_eq, dropR_eq]
      simp only [Array.toList_extract, List.extract_eq_take_drop, denL_eq]
      simp [List.map_take, List.map_drop]
  · cases hg : getR cs off with
    | none => rw [hg] at h4; exact (ok_fail h4).elim
    | some q =>
      rw [hg] at h4
      obtain ⟨rfl, rfl, rfl⟩ := ok_pure.1 h4
      rw [getR_eq] at hg
      refine ⟨rfl, by simp [FP.W], ?_, ?_⟩
      · rw [valL_iff] at hv
        exact hv _ (List.mem_of_getElem? hg)
      · have : (denL ν cs)[off]? = some (den ν q) := by rw [denL_get, hg]; rfl
        simp [Go.part, Sem.run_bind, hag, ha, this]
theorem es_field (hE : EnvOK E P) (hR : Rel P G s ν V w) (hρ : ∀ y, Val V (ρ y)) {t : TypeId} {a : Operand} {i : Nat} (ho : o.op = .field t a i) (h : Ok (ex_field E ρ t a i) s x s' p) : Goal P G s ν V w s' p (execOp (fun y => den ν (ρ y)) o) x := by
  simp only [execOp, ho]
  refine goal_val h (fun y p1 h1 => ?_)
  have hv := hρ a
  obtain ⟨d, s1, p2, p3, h2, h3, rfl⟩ := ok_bind.1 h1
  obtain ⟨hdd, rfl, rfl⟩ := ok_und.1 h2
  have hu := und_ok hE hdd
  split at h3
  · rename_i fs cs he
    rw [he] at hv
    cases hg : fs[i]? with
    | none => rw [hg] at h3; exact (ok_fail h3).elim
    | some fd =>
      rw [hg] at h3
      obtain ⟨rfl, g2, g3, g4⟩ := run_part (ν := ν) (V := V) (P := P) (w := w) hE h3 hv
      refine ⟨Nat.le_refl _, ν, w, ?_, by rw [VN_self]; exact g3, post_refl hR _⟩
      simp only [Instr.field, Sem.run_bind, run_underlying hu, Result.andThen_ok, hg, he, den, Go.asAgg, Sem.run_pure, g4]
  · exact (ok_fail h3).elim
theorem es_indexAddr (hE : EnvOK E P) (hR : Rel P G s ν V w) (hρ : ∀ y, Val V (ρ y)) {t : TypeId} {a ix : Operand} (ho : o.op = .indexAddr t a ix) (h : Ok (ex_indexAddr E ρ t a ix) s x s' p) : Goal P G s ν V w s' p (execOp (fun y => den ν (ρ y)) o) x := by
  simp only [execOp, ho]
  refine goal_val h (fun y p1 h1 => ?_)
  have hv := hρ a
  unfold indexAt at h1
  obtain ⟨i, s0, q1, q2, k1, k2, rfl⟩ := ok_bind.1 h1
  obtain ⟨hi, rfl, rfl⟩ := ok_asInt.1 k1
  obtain ⟨d, s1, p2, p3, h2, h3, rfl⟩ := ok_bind.1 k2
  obtain ⟨hdd, rfl, rfl⟩ := ok_und.1 h2
  have hu := und_ok hE hdd
  split at h3
  · rename_i len e b z k j he
    rw [he] at hv
    obtain ⟨u, s2, p4, p5, h4, h5, rfl⟩ := ok_bind.1 h3
    obtain ⟨ha, rfl, rfl⟩ := ok_asrt.1 h4
    obtain ⟨ti, s4, p8, p9, h8, h9, rfl⟩ := ok_bind.1 h5
    obtain ⟨hti, rfl, rfl⟩ := ok_info.1 h8
    obtain ⟨rfl, rfl, rfl⟩ := ok_pure.1 h9
    obtain ⟨a1, a2, a3⟩ := inB_eq ha
    refine ⟨Nat.le_refl _, ν, w, ?_, by rw [VN_self]; exact hv, post_refl hR _⟩
    simp only [Instr.indexAt, Sem.run_bind, hi, den, asIntOf, Sem.run_pure, Result.andThen_ok, run_underlying hu, he, Instr.sureAddr]
    simp only [a1, a2, and_self, if_true, Sem.run_bind, run_size hE hti, Result.andThen_ok, Sem.run_pure, Addr.add_mid, Nat.add_assoc]
  · rename_i e b z k len c he
    rw [he] at hv
    obtain ⟨u, s2, p4, p5, h4, h5, rfl⟩ := ok_bind.1 h3
    obtain ⟨ha, rfl, rfl⟩ := ok_asrt.1 h4
    obtain ⟨ti, s4, p8, p9, h8, h9, rfl⟩ := ok_bind.1 h5
    obtain ⟨hti, rfl, rfl⟩ := ok_info.1 h8
    rcases ok_bif.1 h9 with ⟨hz, h6⟩ | ⟨_, h6⟩
    case inr => exact (ok_fail h6).elim
    have hz := beq_true hz
    obtain ⟨rfl, rfl, rfl⟩ := ok_pure.1 h6
    obtain ⟨a1, a2, a3⟩ := inB_eq ha
    refine ⟨Nat.le_refl _, ν, w, ?_, by rw [VN_self]; exact hv, post_refl hR _⟩
    simp only [Instr.indexAt, Sem.run_bind, hi, den, asIntOf, Sem.run_pure, Result.andThen_ok, run_underlying hu, he]
    simp only [a1, a2, and_self, if_true, Sem.run_bind, run_size hE hti, Result.andThen_ok, Sem.run_pure, Addr.add_mid, hz, Nat.add_mul, Nat.add_zero]
  · exact (ok_fail h3).elim
theorem es_index (hE : EnvOK E P) (hR : Rel P G s ν V w) (hρ : ∀ y, Val V (ρ y)) {t : TypeId} {a ix : Operand} (ho : o.op = .index t a ix) (h : Ok (ex_index E ρ t a ix) s x s' p) : Goal P G s ν V w s' p (execOp (fun y => den ν (ρ y)) o) x := by
  simp only [execOp, ho]
  refine goal_val h (fun y p1 h1 => ?_)
  have hv := hρ a
  unfold indexS at h1
  obtain ⟨i, s0, q1, q2, k1, k2, rfl⟩ := ok_bind.1 h1
  obtain ⟨hi, rfl, rfl⟩ := ok_asInt.1 k1
  obtain ⟨d, s1, p2, p3, h2, h3, rfl⟩ := ok_bind.1 k2
  obtain ⟨hdd, rfl, rfl⟩ := ok_und.1 h2
  have hu := und_ok hE hdd
  split at h3
  · rename_i len e cs he
    rw [he] at hv
    obtain ⟨u, s2, p4, p5, h4, h5, rfl⟩ := ok_bind.1 h3
    obtain ⟨ha, rfl, rfl⟩ := ok_asrt.1 h4
    obtain ⟨ti, s4, p8, p9, h8, h9, rfl⟩ := ok_bind.1 h5
    obtain ⟨hti, rfl, rfl⟩ := ok_info.1 h8
    obtain ⟨a1, a2, a3⟩ := inB_eq ha
    obtain ⟨rfl, g2, g3, g4⟩ := run_part (ν := ν) (V := V) (P := P) (w := w) hE h9 hv
    refine ⟨Nat.le_refl _, ν, w, ?_, by rw [VN_self]; exact g3, post_refl hR _⟩
    simp only [Instr.index, Sem.run_bind, hi, den, asIntOf, Sem.run_pure, Result.andThen_ok, run_underlying hu, he]
    simp only [a1, a2, and_self, if_true, Sem.run_bind, run_size hE hti, Result.andThen_ok, g4]
  · rename_i l he
    obtain ⟨u, s2, p4, p5, h4, h5, rfl⟩ := ok_bind.1 h3
    obtain ⟨ha, rfl, rfl⟩ := ok_asrt.1 h4
    obtain ⟨a1, a2, a3⟩ := inB_eq ha
    cases hg : getR l i.2.toNat with
    | none => rw [hg] at h5; exact (ok_fail h5).elim
    | some q =>
      rw [hg] at h5
      obtain ⟨rfl, rfl, rfl⟩ := ok_pure.1 h5
      rw [getR_eq] at hg
      refine ⟨Nat.le_refl _, ν, w, ?_, by simp [Val], post_refl hR _⟩
      have hlt : i.2.toNat < l.length := (List.getElem?_eq_some_iff.1 hg).1
      have hsz : (⟨l.toArray⟩ : ByteArray).size = l.length := by simp [ByteArray.size]
      have hr := run_index_string (P := P) w t ⟨l.toArray⟩ i.1 i.2 hu
      rw [dif_pos ⟨a1, by rw [hsz]; omega⟩] at hr
      rw [hi, he]
      simp only [den]
      rw [hr]
      have hq := (List.getElem?_eq_some_iff.1 hg).2
      congr 3
      rw [← hq]
      rfl
  · exact (ok_fail h3).elim
end Go.Ev
/- Conversions, assertions of types. -/
namespace Go.Ev
variable {E : Env} {P : Program} {G : Nat} {s s' : HS} {p : FP} {ν : Nu} {V : Nat → Prop} {w : World}
variable {ρ : Operand → SV} {o : Oper} {x : Nx}
theorem bytesA_cons (c : SV) (cs : List SV) : bytesA (c :: cs) = (match c, bytesA cs with
    | .v (.int .u8 n), some l => bif inB n 256 then some (UInt8.ofNat n.toNat :: l) else none
    | _, _ => none) := rfl
theorem bytesA_den : ∀ {cs : List SV} {l : List UInt8}, bytesA cs = some l → denL ν cs = l.map (fun b => .int .u8 (b.toNat : Int))
  | [], l, h => by
    have h : some [] = some l := h
    injection h with h; subst h; rfl
  | c :: cs, l, h => by
    rw [bytesA_cons] at h
    split at h
    · rename_i n l' he
      cases hb : inB n 256 with
      | false => rw [hb] at h; cases h
      | true =>
        rw [hb] at h
        simp only [cond_true, Option.some.injEq] at h
        subst h
        obtain ⟨a1, a2, a3⟩ := inB_eq hb
        have hn : n.toNat < 256 := by omega
        have e1 : (((UInt8.ofNat n.toNat).toNat : Nat) : Int) = n := by
          rw [UInt8.toNat_ofNat', Nat.mod_eq_of_lt (by simpa using hn)]; omega
        simp only [denL, den, List.map_cons, bytesA_den he, e1]
    · cases h
theorem run_src (hR : Rel P G s ν V w) {size n : Nat} {x : SV} {cs : List SV} (h : Ok (srcCells size x) s (n, cs) s' p) :
    s' = s ∧ (∀ b, ¬ p.W b) ∧ (Val V x → ValL V cs) ∧ ((∃ n' c, x = .v (.slice none n' c) ∧ n' = 0 ∧ n = 0 ∧ cs = []) ∨ (∃ l, x = .str l ∧ n = l.length ∧ cs = l.map (fun b => SV.v (.int .u8 b.toNat))) ∨
      (∃ b i c, x = .slc b size i n c ∧ cs.length = n * size ∧ w.rangeAt (ν.ρ b) (i * size) (denL ν cs) ∧ (∀ v ∈ denL ν cs, one v))) := by
  unfold srcCells at h
  split at h
  · rename_i n' c
    rcases ok_bif.1 h with ⟨hc, h⟩ | ⟨_, h⟩
    · obtain ⟨h1, rfl, rfl⟩ := ok_pure.1 h
      injection h1 with h1 h2
      exact ⟨rfl, by simp [FP.W], fun _ => by rw [← h2]; simp [ValL], .inl ⟨n', c, rfl, beq_true hc, h1.symm, h2.symm⟩⟩
    · exact (ok_fail h).elim
  · rename_i l
    obtain ⟨h1, rfl, rfl⟩ := ok_pure.1 h
    injection h1 with h1 h2
    rw [lenR_eq] at h1
    rw [mapR_eq] at h2
    exact ⟨rfl, by simp [FP.W], fun _ => by rw [← h2, valL_iff]; intro y hy; obtain ⟨b, _, rfl⟩ := List.mem_map.1 hy; simp [Val], .inr (.inl ⟨l, rfl, h1.symm, h2.symm⟩)⟩
  · rename_i b z i m c
    obtain ⟨r, s1, p1, p2, h1, h2, rfl⟩ := ok_bind.1 h
    obtain ⟨hb, rfl, rfl⟩ := ok_cells.1 h1
    rcases ok_bif.1 h2 with ⟨hz, h3⟩ | ⟨_, h3⟩
    case inr => exact (ok_fail h3).elim
    have hz := beq_true hz
    subst hz
    cases hc : cut r.2.1 (i * z) (m * z) with
    | none => rw [hc] at h3; exact (ok_fail h3).elim
    | some q =>
      rw [hc] at h3
      obtain ⟨h4, rfl, rfl⟩ := ok_pure.1 h3
      injection h4 with h4 h5
      subst h4; subst h5
      obtain ⟨e, l, lo⟩ := r
      simp only at hb hc
      obtain ⟨rest, f1, f2, hA⟩ := cellsAt hR hb
      obtain ⟨hq, hlen⟩ := cut_some hc
      have hl : ValL V l := (hR.cl b _ hb).2
      have hsub : ∀ y ∈ q, y ∈ l := fun y hy => by rw [hq] at hy; exact List.mem_of_mem_drop (List.mem_of_mem_take hy)
      refine ⟨rfl, by simp [FP.W], fun _ => val_sub hl hsub, .inr (.inr ⟨b, i, c, rfl, hlen, hA.range hc, ?_⟩)⟩
      intro v hv
      rw [denL_eq] at hv
      obtain ⟨y, hy, rfl⟩ := List.mem_map.1 hv
      refine hA.one _ (List.mem_append.2 (.inl ?_))
      rw [denL_eq]
      exact List.mem_map.2 ⟨y, hsub y hy, rfl⟩
  · exact (ok_fail h).elim
theorem es_convert (hE : EnvOK E P) (hR : Rel P G s ν V w) (hf : Fresh s s' V) (hρ : ∀ y, Val V (ρ y)) {src dst : TypeId} {a : Operand} (ho : o.op = .convert src dst a) (h : Ok (ex_convert E ρ src dst a) s x s' p) : Goal P G s ν V w s' p (execOp (fun y => den ν (ρ y)) o) x := by
  simp only [execOp, ho]
  refine goal_val h (fun y p1 h1 => ?_)
  have hv := hρ a
  obtain ⟨d1, s1, p2, p3, h2, h3, rfl⟩ := ok_bind.1 h1
  obtain ⟨hd1, rfl, rfl⟩ := ok_und.1 h2
  have hu1 := und_ok hE hd1
  obtain ⟨d2, s2, p4, p5, h4, h5, rfl⟩ := ok_bind.1 h3
  obtain ⟨hd2, rfl, rfl⟩ := ok_und.1 h4
  have hu2 := und_ok hE hd2
  split at h5
  · rename_i k1 k k2 n he
    obtain ⟨rfl, rfl, rfl⟩ := ok_pure.1 h5
    refine ⟨Nat.le_refl _, ν, w, ?_, by simp [Val], post_refl hR _⟩
    rw [he]
    simp [convert, run_underlying hu1, run_underlying hu2, den, Conv.intToInt, wrapA_eq]
  · rename_i l he
    obtain ⟨rfl, rfl, rfl⟩ := ok_pure.1 h5
    refine ⟨Nat.le_refl _, ν, w, ?_, by simp [Val], post_refl hR _⟩
    rw [he]
    simp [convert, run_underlying hu1, run_underlying hu2, den]
  · rename_i e l he
    obtain ⟨d3, s3, p6, p7, h6, h7, rfl⟩ := ok_bind.1 h5
    obtain ⟨hd3, rfl, rfl⟩ := ok_und.1 h6
    have hu3 := und_ok hE hd3
    split at h7
    · obtain ⟨ti, s4, p8, p9, h8, h9, rfl⟩ := ok_bind.1 h7
      obtain ⟨hti, rfl, rfl⟩ := ok_info.1 h8
      rcases ok_bif.1 h9 with ⟨hz, k1⟩ | ⟨_, k1⟩
      case inr => exact (ok_fail k1).elim
      obtain ⟨b, s5, q1, q2, k2, k3, rfl⟩ := ok_bind.1 k1
      obtain ⟨rfl, rfl, rfl⟩ := ok_pure.1 k3
      simp only [Bool.and_eq_true] at hz
      have hz1 := beq_true hz.1
      have hrun := run_bytes_of_string (P := P) w src dst e ⟨l.toArray⟩ hu1 hu2 hu3
      have hsz : (⟨l.toArray⟩ : ByteArray).size = l.length := by simp [ByteArray.size]
      obtain ⟨cap, hcap⟩ : ∃ cap, grownCap w (⟨l.toArray⟩ : ByteArray).size 0 e = cap := ⟨_, rfl⟩
      have hge := grownCap_ge w (⟨l.toArray⟩ : ByteArray).size 0 e
      rw [hcap] at hrun hge
      rw [hsz] at hge
      rw [mapR_eq] at k2
      have hden : denL ν (l.map fun b : UInt8 => SV.v (.int .u8 (b.toNat : Int))) = l.map fun b : UInt8 => Value.int .u8 (b.toNat : Int) := by
        rw [denL_eq, List.map_map]; rfl
      have hrow : bytesRow ⟨l.toArray⟩ cap = (denL ν (l.map fun b : UInt8 => SV.v (.int .u8 (b.toNat : Int))) ++ List.replicate (cap - l.length) (Value.int .u8 0)).toArray := by
        apply Array.ext'
        rw [hden]
        simp [bytesRow, hsz]
      have hrs : (bytesRow ⟨l.toArray⟩ cap).size = cap := by rw [hrow]; simp [denL_length]; omega
      obtain ⟨g1, g2, g3, g4, g5, g6, g7⟩ := post_row (w' := w.drew.alloc (.cells (bytesRow ⟨l.toArray⟩ cap) e (cap, cap + 1))) (fz := (cap, cap + 1)) hR k2 hf
        (by rw [valL_iff]; intro y hy; obtain ⟨b, _, rfl⟩ := List.mem_map.1 hy; simp [Val]) (List.replicate (cap - l.length) (Value.int .u8 0)) cap
        (by intro y hy; rw [List.eq_of_mem_replicate hy]; rfl) (by simp) (fun _ => ⟨ti, hE.ty _ _ hti, by simp [hz1]; omega⟩) (by right; refine ⟨by simp; omega, hu3⟩)
        (by rw [hrow]; rfl) rfl rfl rfl
      refine ⟨by omega, _, _, ?_, Or.inr ⟨by omega, by omega⟩, g7.mono (fun b hb => by simp [FP.W, hb])⟩
      rw [he]
      simp only [den]
      rw [hrun, g4, hrs, hsz, g5, lenR_eq]
      simp
    · exact (ok_fail h7).elim
  · exact (ok_fail h5).elim
  · rename_i e hns
    obtain ⟨d3, s3, p6, p7, h6, h7, rfl⟩ := ok_bind.1 h5
    obtain ⟨hd3, rfl, rfl⟩ := ok_und.1 h6
    have hu3 := und_ok hE hd3
    split at h7
    · obtain ⟨r, s4, p8, p9, h8, h9, rfl⟩ := ok_bind.1 h7
      obtain ⟨n, cs⟩ := r
      cases hb : bytesA cs with
      | none => rw [hb] at h9; exact (ok_fail h9).elim
      | some l =>
        rw [hb] at h9
        obtain ⟨rfl, rfl, rfl⟩ := ok_pure.1 h9
        obtain ⟨rfl, hw, hvs, hcase⟩ := run_src hR h8
        have hden := bytesA_den (ν := ν) hb
        refine ⟨Nat.le_refl _, ν, w, ?_, by simp [Val], post_refl hR _⟩
        rcases hcase with ⟨n', c, hx, rfl, rfl, rfl⟩ | ⟨l', hx, rfl, rfl⟩ | ⟨b, i, c, hx, hlen, hrg, _⟩
        · have hl : l = [] := by
            have : denL ν ([] : List SV) = l.map (fun b => Value.int .u8 (b.toNat : Int)) := hden
            simpa [denL] using this.symm
          subst hl
          rw [hx]
          have := run_convert_bytes_nil (P := P) w src _ hu1 hu3 0 c dst hu2
          simp only [den]
          rw [this]
          rfl
        · exact (hns _ hx).elim
        · rw [hx]
          have hll : l.length = n := by
            have := congrArg List.length hden
            rw [denL_length] at this
            simp at this; omega
          have := run_convert_bytes_back (P := P) w src dst _ ⟨ν.ρ b, i, none⟩ (c.getD (ν.κ b - i)) l hu1 hu3 hu2 (fun j hj => by
            rw [Addr.add_mid]
            have := hrg j (.int .u8 (l[j].toNat : Int)) (by rw [hden, List.getElem?_map, List.getElem?_eq_getElem hj]; rfl)
            simpa using this)
          rw [hll] at this
          simp only [den, Nat.mul_one]
          exact this
    · exact (ok_fail h7).elim
  · rename_i e e' b z i len c he
    rw [he] at hv
    rcases ok_bif.1 h5 with ⟨hz, h6⟩ | ⟨_, h6⟩
    case inr => exact (ok_fail h6).elim
    have hz := beq_true hz
    subst hz
    obtain ⟨d3, s3, p6, p7, h7, h8, rfl⟩ := ok_bind.1 h6
    obtain ⟨hd3, rfl, rfl⟩ := ok_und.1 h7
    have hu3 := und_ok hE hd3
    split at h8
    · obtain ⟨r, s4, p8, p9, h9, k1, rfl⟩ := ok_bind.1 h8
      obtain ⟨hb, rfl, rfl⟩ := ok_cells.1 h9
      rcases ok_bif.1 k1 with ⟨_, k2⟩ | ⟨hlo, k2⟩
      · exact (ok_fail k2).elim
      obtain ⟨u, s5, q1, q2, k3, k4, rfl⟩ := ok_bind.1 k2
      obtain ⟨rfl, rfl, rfl⟩ := ok_pure.1 k4
      obtain ⟨_, ht, rfl, rfl⟩ := ok_put.1 k3
      have hee : e' = e := by rw [hd1] at hd2; injection hd2 with hd2; injection hd2 with hd2; exact hd2.symm
      have hu3' : P.underlying e' = some (.int .u8) := by rw [hee]; exact hu3
      obtain ⟨e2, l, lo⟩ := r
      simp only [Bool.or_eq_false_iff] at hb hlo ht k3 ⊢
      obtain ⟨hlo, he2⟩ := hlo
      have UE : P.underlying e2 = some (.int .u8) := by
        have : e2 = e := beq_true (by simpa using he2)
        rw [this]; exact hu3
      subst hlo
      obtain ⟨rest, f1, f2, hA⟩ := cellsAt hR hb
      have hrest := hA.tight rfl
      subst hrest
      have hsz : (denL ν l).toArray.size = l.length := by simp [denL_length]
      have hA0 := hA.heap
      rw [List.append_nil] at hA0
      obtain ⟨w', hw'⟩ : ∃ w', w.freeze ⟨ν.ρ b, l.length, none⟩ 1 = w' := ⟨_, rfl⟩
      have hh : w'.heap = w.heap.modify (ν.ρ b) fun
          | .cells c elem (lo, hi) => .cells c elem (if lo == hi then (l.length, l.length + 1) else (min lo l.length, max hi (l.length + 1)))
          | o => o := by rw [← hw']; rfl
      refine ⟨Nat.le_refl _, ν, w', ?_, val_mono (fun b hb => Or.inl hb) _ hv, (post_put hR hb ht (ao := .cells e2 l false)
        (r := .cells (denL ν l).toArray e2 (if f1 == f2 then (l.length, l.length + 1) else (min f1 l.length, max f2 (l.length + 1)))) (hR.cl b _ hb).2 ?_ (p := .w b) rfl ?_ ?_ ?_ ?_ ?_ ?_).mono (fun b hb => by simp [FP.W] at hb ⊢; exact hb)⟩
      · rw [he]
        have hshape : w.shape? (ν.ρ b) = some (e2, l.length) := by simp [World.shape?, hA0, denL_length]
        have hm : (markStringish ⟨ν.ρ b, i * z, none⟩).run P w = .ok () w' := by
          unfold markStringish
          simp only [Sem.run_bind, run_shape, Result.andThen_ok, hshape]
          rw [run_freeze, hw']
        simp [convert, run_underlying hu1, run_underlying hu3, den, hm]
      · refine ⟨[], _, _, by rw [List.append_nil], hA.one, ?_, fun _ => rfl, fun h => by cases h⟩
        have hfree := hA.free
        rw [List.length_append, denL_length] at hfree ⊢
        have hue : P.underlying e2 = some (.int .u8) := UE
        split
        · right; exact ⟨by simp, hue⟩
        · rename_i hne
          have hne : ¬ f1 = f2 := by simpa using hne
          right
          refine ⟨?_, hue⟩
          simp at hfree ⊢
          omega
      · rw [hh]; simp
      · rw [hh, Array.getElem?_modify, if_pos rfl, hA0]; rfl
      · intro k hk; rw [hh, Array.getElem?_modify, if_neg (Ne.symm hk)]
      · rw [← hw']; rfl
      · rw [← hw']; rfl
      · rw [← hw']; rfl
    · exact (ok_fail h8).elim
  · rename_i t b z i j he
    obtain ⟨ob, s3, p6, p7, h6, h7, rfl⟩ := ok_bind.1 h5
    obtain ⟨hb, rfl, rfl⟩ := ok_get.1 h6
    split at h7
    · rename_i e l
      obtain ⟨ti, s4, p8, p9, h8, h9, rfl⟩ := ok_bind.1 h7
      obtain ⟨hti, rfl, rfl⟩ := ok_info.1 h8
      obtain ⟨u, s5, q1, q2, k2, k3, rfl⟩ := ok_bind.1 h9
      obtain ⟨hz, rfl, rfl⟩ := ok_asrt.1 k2
      obtain ⟨rfl, rfl, rfl⟩ := ok_pure.1 k3
      rw [Bool.and_eq_true] at hz
      have hz1 := blt_true hz.1
      have hz2 := blt_true hz.2
      rw [lenR_eq] at hz2
      obtain ⟨rest, f1, f2, hA⟩ := cellsAt hR hb
      have hrest := hA.tight rfl
      subst hrest
      have hA0 := hA.heap
      rw [List.append_nil] at hA0
      have hsh : w.shape? (ν.ρ b) = some (e, l.length) := by simp [World.shape?, hA0, denL_length]
      refine ⟨Nat.le_refl _, ν, w, ?_, val_mono (fun b hb => Or.inl hb) _ (by rw [← he]; exact hv), post_refl hR _⟩
      rw [he]
      simp only [den]
      exact Lib.run_to_unsafe _ _ hu1 hu2 (hE.ty _ _ hti) (by omega) hsh hz2
    · exact (ok_fail h7).elim
  · rename_i t b z i j he
    obtain ⟨ob, s3, p6, p7, h6, h7, rfl⟩ := ok_bind.1 h5
    obtain ⟨hb, rfl, rfl⟩ := ok_get.1 h6
    split at h7
    · rename_i e l
      obtain ⟨ti, s4, p8, p9, h8, h9, rfl⟩ := ok_bind.1 h7
      obtain ⟨hti, rfl, rfl⟩ := ok_info.1 h8
      obtain ⟨te, s6, q3, q4, k4, k5, rfl⟩ := ok_bind.1 h9
      obtain ⟨hte, rfl, rfl⟩ := ok_info.1 k4
      obtain ⟨u, s5, q1, q2, k2, k3, rfl⟩ := ok_bind.1 k5
      obtain ⟨hz, rfl, rfl⟩ := ok_asrt.1 k2
      obtain ⟨rfl, rfl, rfl⟩ := ok_pure.1 k3
      rw [hE.prog, lenR_eq] at hz
      obtain ⟨rest, f1, f2, hA⟩ := cellsAt hR hb
      have hrest := hA.tight rfl
      subst hrest
      have hA0 := hA.heap
      rw [List.append_nil] at hA0
      have hsh : w.shape? (ν.ρ b) = some (e, l.length) := by simp [World.shape?, hA0, denL_length]
      have hce : P.cellsOf e = te.size := by simp [Program.cellsOf, hE.ty _ _ hte]
      refine ⟨Nat.le_refl _, ν, w, ?_, val_mono (fun b hb => Or.inl hb) _ (by rw [← he]; exact hv), post_refl hR _⟩
      rw [he]
      simp only [den]
      exact Lib.run_from_unsafe _ _ hu1 hu2 (hE.ty _ _ hti) hsh (by rw [hce]; exact hz)
    · exact (ok_fail h7).elim
  · rename_i k n _ _ _ _ he
    obtain ⟨rfl, g2, g3, g4⟩ := run_plain (P := P) (w := w) (ν := ν) (V := V) hE h5
    refine ⟨Nat.le_refl _, ν, w, ?_, by rw [VN_self]; exact g4, post_refl hR _⟩
    rw [he]
    exact g3
  · exact (ok_fail h5).elim
end Go.Ev
