/- A range over a function that is gone through to its end: what the iterator owes ('SeqAll'), what the body owes; the body may write memory of its own making, a map among it. -/
import Derived.RangeFuncNested
import Derived.RangeFuncBound
import Derived.RangeFuncCalls
import Derived.RangeFuncLeaves
import Derived.RangeFuncBox
import Derived.Shelf.Abstract
import Derived.Shelf.RegionOpen
import Derived.OwnWalkIn
import Derived.TacticsInMore
import Derived.LoopNIn
import Derived.LoopIn
import Derived.Test.YtbfieomjobbhoaaGreatDoorMN02
namespace Go.Proofs.YtbfieomjobbhoaaGreatDoor
open Go.RowKit

/-- what holds on whatever is laid besides -/
def UpTo {β : Type} (J : β → World → Prop) : Prop := ∀ s W W', J s W → Up W W' → J s W'
/-- .. and on whatever turn of a block of type T from B on -/
def AbT {β : Type} (T : TypeId) (B : Nat) (J : β → World → Prop) : Prop := ∀ s (W W' : World) (r : Nat) (cs : Array Value) (fz : Nat × Nat), J s W → B ≤ r → W.heap[r]? = some (Obj.cells cs T fz) → W.grownBy W' (some r) → J s W'
/-- an iterator that gives all of a list, if no round says no -/
def SeqAll {α : Type} (F : Fence) (n : Nat) (P : Program) (g : Nat) (lb : Array Value) (encs : α → Array Value) (Kp : World → World → Prop) (all : List α) (T : TypeId) (w : World) : Prop :=
  ∀ (l : Nat) (J : Nat → World → Prop) (W : World), Up w W → UpTo J → AbT T W.heap.size J →
    (∀ k x W1, all[k]? = some x → J k W1 → YieldAt F (n - 1) P l (encs x) W1 fun e W' => e = .returned (.bool true) ∧ J (k + 1) W' ∧ Kp W1 W') →
    J 0 W → CallsIn F n P g (#[.func (.yield l) #[] #[]] ++ lb) W fun e W' => (∃ v, e = .returned v) ∧ J all.length W'
/-- how a round may be left: on its end alone; the two blocks at D are as they were -/
def twoPost (D : Nat) (Kp : World → World → Prop) (I : World → Prop) (W : World) : Exit → Act → World → Prop
  | .normal, _, W' => (∀ k, D ≤ k → k < D + 2 → W'.heap[k]? = W.heap[k]?) ∧ Kp W W' ∧ I W'
  | _, _, _ => False

theorem wpIn_rangeFunc_all {F : Fence} {n : Nat} {P : Program} {α : Type} {g : Operand} {ps : Array Tmp} {assign body : Code} {Q : Exit → Act → World → Prop} {a : Act} {w : World}
    (hro : F.round = none) (h1 : 1 ≤ n) {gf : Nat} {lb : Array Value} (hg : a.eval g = .func (.func gf) #[] lb) (hFg : F.fn gf) (eg : ∀ args w, (callFunc gf args).run P w = .ok (.enter gf args) w)
    {encs : α → Array Value} {Kp : World → World → Prop} {all : List α} {T : TypeId} (hseq : SeqAll F (n - 1) P gf lb encs Kp all T w)
    (hKt : ∀ {A B C : World}, Kp A B → Kp B C → Kp A C) (hKb : ∀ (W : World) (l : Nat) (o o' : Obj), w.heap.size ≤ l → l < w.heap.size + 2 → W.heap[l]? = some o → o.isCells = false → Kp W (W.putObj l o')) (hps : ∀ x, (encs x).size = ps.size)
    (I : Nat → World → Prop) (hI1 : ∀ s (W : World) k (o' : Obj), w.heap.size ≤ k → k < w.heap.size + 2 → (∃ o, W.heap[k]? = some o ∧ o.isCells = false) → I s W → I s (W.putObj k o')) (hI2 : UpTo I) (hI3 : AbT T (w.heap.size + 2) I)
    (h0 : I 0 w) (a₁ : α → Act)
    (hassign : ∀ (l : Nat) (x : α) (W : World) (K : Act → World → Prop), K (a₁ x) W →
      assign.wpIn (F.inRound l) (n - 1 - 1) P (Exit.then K (fun _ _ _ => False)) { tmps := (ps.zip (encs x)).foldl (fun t (p, v) => t.setIfInBounds p v) a.tmps, defers := [] } W)
    (hbody : ∀ (l : Nat) (k : Nat) (x : α) (W : World), all[k]? = some x → I k W → w.heap.size + 2 ≤ W.heap.size → body.wpIn (F.inRound l) (n - 1 - 1) P (twoPost w.heap.size Kp (I (k + 1)) W) (a₁ x) W)
    (hdone : ∀ (W : World), I all.length W → W.heap[w.heap.size]? = some (.deferred (some [])) → Q .normal { a with defers := { target := .collected w.heap.size, args := #[] } :: a.defers } W) :
    (Code.rangeFunc g ps assign body).wpIn F n P Q a w := by
  refine wpIn_rangeFunc ?_;intro fn hfn;rw [hro];obtain ⟨rec, hrec⟩ : ∃ rec : LoopState → Option Code → Loop, rec = fun st pe => { state := st, pending := pe, fn, tmps := a.tmps, params := ps, assign, body, defers := w.heap.size } := ⟨_, rfl⟩;obtain ⟨W1, hW1⟩ : ∃ W1, (w.alloc (.deferred (some []))).alloc (.loop (rec .ready none)) = W1 := ⟨_, rfl⟩;have hsz1 : W1.heap.size = w.heap.size + 2 := by rw [← hW1]; simp
  have hL1 : W1.heap[w.heap.size + 1]? = some (.loop (rec .ready none)) := by
    rw [← hW1]; have := World.alloc_heap_new (w.alloc (.deferred (some []))) (.loop (rec .ready none)); rwa [World.size_alloc] at this
  have hK1 : W1.heap[w.heap.size]? = some (.deferred (some [])) := by
    rw [← hW1]; exact (Below.heap_alloc _ _ _ (by simp)).trans (World.alloc_heap_new w _)
  have hu1 : Up w W1 := by rw [← hW1]; exact ((Up.refl w).alloc _).alloc _
  refine ⟨w.heap.size + 1, [{ target := .collected w.heap.size, args := #[] }], W1, { target := .fn (.func gf) lb, args := #[.func (.yield (w.heap.size + 1)) #[] #[]] }, W1, gf,
    #[.func (.yield (w.heap.size + 1)) #[] #[]] ++ lb, W1, ?_, ?_, ?_, ?_, fun _ => h1, ?_⟩
  · rw [← hW1, hrec]; exact run_enterLoop_outer _ _ _ _ _
  · simp only [resolve, hg];simp [go_sem]
  · intro f' hf'; simp [Target.leads] at hf'; subst hf'; exact hFg
  · simp [invoke, go_sem, eg]
  · refine (hseq (w.heap.size + 1)
      (fun k W => I k W ∧ W.heap[w.heap.size + 1]? = some (.loop (rec .ready none)) ∧ W.heap[w.heap.size]? = some (.deferred (some [])))
      W1 hu1
      (fun s A B hs hu => ⟨hI2 s A B hs.1 hu, hu.obj hs.2.1, hu.obj hs.2.2⟩)
      (fun s A B r cs fz hs hr hc hg => ⟨hI3 s A B r cs fz hs.1 (by omega) hc hg, (hg.block _ (Array.getElem?_eq_some_iff.1 hs.2.1).1 (by intro e; cases e; omega)).trans hs.2.1, (hg.block _ (Array.getElem?_eq_some_iff.1 hs.2.2).1 (by intro e; cases e; omega)).trans hs.2.2⟩)
      ?_ ⟨hI2 _ _ _ h0 hu1, hL1, hK1⟩).mono ?_
    · rintro k x W hx ⟨hi, hl, hk⟩;have hlt : w.heap.size + 1 < W.heap.size := (Array.getElem?_eq_some_iff.1 hl).1;have hy := run_yield (P := P) (args := encs x) hl (by rw [hrec]; exact hps x);rw [hrec] at hy;refine ⟨fn, _, assign, body, hy, roundIn_of_wpIn hfn (hassign _ x W _ ⟨_, run_beginRound hl (by rw [hrec]), ?_⟩)⟩;have hl2 : (W.putObj (w.heap.size + 1) (.loop { rec .ready none with state := .busy })).heap[w.heap.size + 1]? = some (.loop { rec .ready none with state := .busy }) := World.putObj_heap_same hlt;have hk2 : (W.putObj (w.heap.size + 1) (.loop { rec .ready none with state := .busy })).heap[w.heap.size]? = some (.deferred (some [])) := (World.putObj_heap_other (by omega)).trans hk;have hw2 : Kp W (W.putObj (w.heap.size + 1) (.loop { rec .ready none with state := .busy })) := hKb _ _ _ _ (by omega) (by omega) hl rfl;refine wpIn_mono (hbody _ k x _ hx (hI1 _ _ _ _ (by omega) (by omega) ⟨_, hl, rfl⟩ hi) (by simp; omega)) ?_;rintro e a3 W3 hp;cases e with
      | normal =>
        obtain ⟨hk3, hkp3, hi3⟩ := hp;have hl3 := (hk3 (w.heap.size + 1) (by omega) (by omega)).trans hl2;have hd3 := (hk3 w.heap.size (by omega) (by omega)).trans hk2;have hlt3 := (Array.getElem?_eq_some_iff.1 hl3).1;have hr := run_endRound (P := P) none hl3;rw [hrec] at hr;refine ⟨_, _, hr, rfl, ⟨hI1 _ _ _ _ (by omega) (by omega) ⟨_, hl3, rfl⟩ hi3, ?_, (World.putObj_heap_other (by omega)).trans hd3⟩, hKt (hKt hw2 hkp3) (hKb _ _ _ _ (by omega) (by omega) hl3 rfl)⟩;rw [hrec];exact World.putObj_heap_same hlt3
      | ret => exact hp.elim
      | exit id => exact hp.elim
      | goto t => exact hp.elim
      | panic ch => exact hp.elim
      | outgrown => exact hp.elim
    · rintro e W2 ⟨⟨v, rfl⟩, hi, hl, hk⟩;exact ⟨none, _, by have := run_endLoop (P := P) hl (by rw [hrec]; simp); rw [hrec] at this; exact this, hdone _ (hI1 _ _ _ _ (by omega) (by omega) ⟨_, hl, rfl⟩ hi) ((World.putObj_heap_other (by omega)).trans hk)⟩
/-- what an iterator over boxed values wants kept: the boxes, all below n₀, whatever blocks of type T -/
structure KeepB (T : TypeId) (n₀ : Nat) (Bs : List Nat) (W W' : World) : Prop where
  size : W.heap.size ≤ W'.heap.size
  cell : ∀ p : Addr, p.block < n₀ ∨ p.block ∈ Bs → W'.cell? p = W.cell? p
  own : ∀ (r : Nat) (cs : Array Value) (fz : Nat × Nat), W.heap[r]? = some (Obj.cells cs T fz) → W'.heap[r]? = some (Obj.cells cs T fz)
theorem keepB_t {T : TypeId} {n₀ : Nat} {Bs : List Nat} {X Y Z : World} (h : KeepB T n₀ Bs X Y) (k : KeepB T n₀ Bs Y Z) : KeepB T n₀ Bs X Z :=
  ⟨Nat.le_trans h.size k.size, fun p hp => (k.cell p hp).trans (h.cell p hp), fun r cs fz hr => k.own r cs fz (h.own r cs fz hr)⟩
theorem keepB_b {T : TypeId} {n₀ : Nat} {Bs : List Nat} (W : World) (l : Nat) (o o' : Obj) (h1 : n₀ ≤ l) (h2 : ∀ x ∈ Bs, x ≠ l) (hl : W.heap[l]? = some o) (ho : o.isCells = false) : KeepB T n₀ Bs W (W.putObj l o') := by
  have hg := grownBy_putObj' W l o';refine ⟨hg.size, fun p hp => ?_, fun r cs fz hr => ?_⟩
  · unfold World.cell?;have : (W.putObj l o').heap[p.block]? = W.heap[p.block]? := World.putObj_heap_other (by
      rcases hp with hp | hp
      · omega
      · exact h2 _ hp)
    rw [this]
  · refine (World.putObj_heap_other (fun e => ?_)).trans hr;subst e;rw [hl] at hr; cases hr; cases ho
theorem keepB_up {T : TypeId} {n₀ : Nat} {Bs : List Nat} {W W' : World} (h : Up W W') (h1 : n₀ ≤ W.heap.size) (h2 : ∀ x ∈ Bs, x < W.heap.size) : KeepB T n₀ Bs W W' :=
  ⟨h.le, fun p hp => h.cellq (by rcases hp with hp | hp; · omega
                                 · exact h2 _ hp), fun r cs fz hr => h.obj hr⟩
theorem keepB_grown {T t : TypeId} {n₀ b : Nat} {Bs : List Nat} {W W' : World} {cs : Array Value} {fz : Nat × Nat} (h : W.grownBy W' (some b)) (hb : W.heap[b]? = some (.cells cs t fz)) (ht : t ≠ T) (h0 : n₀ ≤ W.heap.size) (h1 : n₀ ≤ b) (h2 : ∀ x ∈ Bs, x ≠ b ∧ x < W.heap.size) : KeepB T n₀ Bs W W' := by
  refine ⟨h.size, fun p hp => ?_, fun r cs' fz' hr => ?_⟩
  · unfold World.cell?;have hx : p.block ≠ b ∧ p.block < W.heap.size := by
      rcases hp with hp | hp
      · omega
      · exact h2 _ hp
    rw [h.block p.block hx.2 (by intro e; injection e with e; exact hx.1 e)]
  · refine (h.block r (Array.getElem?_eq_some_iff.1 hr).1 (fun e => ?_)).trans hr;injection e with e;subst e;rw [hb] at hr;injection hr with hr;injection hr with _ hr _;exact ht hr
theorem grown_set (W : World) (b : Nat) (v : Value) : W.grownBy (W.setCell ⟨b, 0, none⟩ v) (some b) :=
  ⟨rfl, rfl, rfl, by simp, fun j _ hne => Below.heap_setCell W ⟨b, 0, none⟩ v j (fun e => hne (by rw [e]))⟩
/-- 'append(s, x)' onto a slice of the call's own, in a round: x has just been laid -/
theorem app_oneIn {F : Fence} {nF : Nat} {P : Program} (w : World) {ops : Array Oper} {rest : List Oper} {o : Oper} {a : Act} {Q : Exit → Act → World → Prop} (hgd : o.guard = none) (s x : Operand) (t : TypeId)
    (ho : o.op = .call { callee := .builtin .append, args := #[s, x], argTypes := #[t, t] })
    (base : Nat) (e : TypeId) (i : TypeInfo) (z : Value) (size bytes : Nat) (ht : P.underlying t = some (.slice e)) (hi : P.info? e = some i) (hz : i.zero = some z)
    (hsize : i.size = size) (hby : i.bytes = bytes) (hzs : z.cells.size = size) (hsz : 0 < size)
    (v : Value) (n : Nat) (xs : List Value) (hown : w.ownsRow base e size v n xs) (hs : a.eval s = v)
    (cs : Array Value) (hx : a.eval x = .slice (some ⟨w.heap.size, 0, none⟩) 1 1) (hcs : cs.size = size) (h1 : ∀ u ∈ cs.toList, u.oneCell' = true)
    (hn : n + 1 ≤ 1000000) (hb1 : bytes ≤ 1000) (hbase : base ≤ w.heap.size)
    (h : ∀ g' cap' w', w'.ownsRow base e size (.slice (some ⟨g', 0, none⟩) (n + 1) cap') (n + 1) (xs ++ cs.toList) → base ≤ g' → Below base w w' → (∀ T n₀ Bs, T ≠ e → n₀ ≤ base → (∀ x ∈ Bs, x < base) → KeepB T n₀ Bs w w') → wpListIn F nF P ops Q rest (a.put o.dst (.slice (some ⟨g', 0, none⟩) (n + 1) cap')) w') :
    wpListIn F nF P ops Q (o :: rest) a (w.alloc (.cells cs e)) := by
  have hle : (n + 1) * bytes ≤ 140737488355328 := by
    have := Nat.mul_le_mul hn hb1; omega
  refine wpListIn_append_own _ hgd s x t ho base e i z size bytes ht hi hz hsize hby hzs hsz v n xs hs (hown.alloc _) ⟨w.heap.size, 0, none⟩ 1 1 cs.toList hx (by simpa using hcs) ?_ h1 (by unfold maxLen; omega) hle (by simp; omega) ?_
  · intro j u hu;have hadd : (⟨w.heap.size, 0, none⟩ : Addr).add j = ⟨w.heap.size, j, none⟩ := by unfold Addr.add; split <;> simp_all
    rw [hadd, cell_of_row _ w.heap.size j cs e (0, 0) (heap_alloc_new w _)];simpa using hu
  · intro v' w' h2 h3 _;have hg : w.grownBy w' v.ownBlock := ⟨h3.os, h3.tape, h3.output, Nat.le_trans (by simp) h3.size, fun k hk hne => (h3.block k (by simp; omega) hne).trans (Below.heap_alloc w _ k hk)⟩;obtain ⟨g', cap', rfl⟩ := ownsRow_succ h2;have hg' : base ≤ g' := (h2.lt g' rfl).1;refine h g' cap' w' h2 hg' ((Below.refl base w).grown hg hbase (fun k hk => (hown.lt k hk).1)) (fun T n₀ Bs hT hn0 hB => ?_);rcases hown.2 with ⟨rfl, _⟩ | ⟨g, cap, cur, rfl, hgb, hgh, _⟩
    · have hup : Up w w' := Up.of ((Below.refl w.heap.size w).grown hg (Nat.le_refl _) (fun k hk => by cases hk));exact keepB_up hup (by omega) (fun x hx => by have := hB x hx; omega)
    · exact keepB_grown (b := g) hg hgh (fun e => hT e.symm) (by omega) (by omega) (fun x hx => by have := hB x hx; omega)
/-- the same, as a step of a region that draws its order, in a round -/
theorem stepIn_app_one {F : Fence} {nF : Nat} {P : Program} (w : World) {ops : Array Oper} {o : Oper} {a : Act} {K : Act → World → Prop} {Q : Exit → Act → World → Prop} {E : Prop} (hgd : o.guard = none) (s x : Operand) (t : TypeId)
    (ho : o.op = .call { callee := .builtin .append, args := #[s, x], argTypes := #[t, t] })
    (base : Nat) (e : TypeId) (i : TypeInfo) (z : Value) (size bytes : Nat) (ht : P.underlying t = some (.slice e)) (hi : P.info? e = some i) (hz : i.zero = some z)
    (hsize : i.size = size) (hby : i.bytes = bytes) (hzs : z.cells.size = size) (hsz : 0 < size)
    (v : Value) (n : Nat) (xs : List Value) (hown : w.ownsRow base e size v n xs) (hs : a.eval s = v)
    (cs : Array Value) (hx : a.eval x = .slice (some ⟨w.heap.size, 0, none⟩) 1 1) (hcs : cs.size = size) (h1 : ∀ u ∈ cs.toList, u.oneCell' = true)
    (hn : n + 1 ≤ 1000000) (hb1 : bytes ≤ 1000) (hbase : base ≤ w.heap.size)
    (h : ∀ g' cap' w' row, w'.ownsRow base e size (.slice (some ⟨g', 0, none⟩) (n + 1) cap') (n + 1) (xs ++ cs.toList) → base ≤ g' → Below base w w' → (∀ T n₀ Bs, T ≠ e → n₀ ≤ base → (∀ x ∈ Bs, x < base) → KeepB T n₀ Bs w w') → w.grownBy w' row → (∀ r, row = some r → ∃ cur fz, w.heap[r]? = some (.cells cur e fz)) → K (a.put o.dst (.slice (some ⟨g', 0, none⟩) (n + 1) cap')) w') :
    if Region.wanted o (yielded ops a.tmps) = true then Oper.wpIn F nF P o a (w.alloc (.cells cs e)) K Q else E := by
  have hw : Region.wanted o (yielded ops a.tmps) = true := by simp [Region.wanted, hgd]
  rw [if_pos hw];have hle : (n + 1) * bytes ≤ 140737488355328 := by
    have := Nat.mul_le_mul hn hb1; omega
  have hcells : ∀ j u, cs.toList[j]? = some u → (w.alloc (.cells cs e)).cell? ((⟨w.heap.size, 0, none⟩ : Addr).add j) = some u := by
    intro j u hu;have hadd : (⟨w.heap.size, 0, none⟩ : Addr).add j = ⟨w.heap.size, j, none⟩ := by unfold Addr.add; split <;> simp_all
    rw [hadd, cell_of_row _ w.heap.size j cs e (0, 0) (heap_alloc_new w _)];simpa using hu
  obtain ⟨v', w', hrun, h2, h3, _⟩ := run_append_own (P := P) (w.alloc (.cells cs e)) base t o.type e i z size bytes ht hi hz hsize hby hzs hsz v n xs (hown.alloc _) ⟨w.heap.size, 0, none⟩ 1 1 cs.toList (by simpa using hcs) hcells h1 (by unfold maxLen; omega) hle (by simp; omega);unfold Oper.wpIn;refine ⟨by simp [Oper.about, ho, resolve, Target.leads, Sem.run_pure], ?_⟩;rw [Oper.semAt_plain F _ _ (by rw [ho]; intro c hc'; cases hc')];simp [execOp, ho, resolve, invoke, builtin, hs, hx, hrun, Result.andThen];have hg : w.grownBy w' v.ownBlock := ⟨h3.os, h3.tape, h3.output, Nat.le_trans (by simp) h3.size, fun k hk hne => (h3.block k (by simp; omega) hne).trans (Below.heap_alloc w _ k hk)⟩;obtain ⟨g', cap', rfl⟩ := ownsRow_succ h2;have hg' : base ≤ g' := (h2.lt g' rfl).1;refine h g' cap' w' v.ownBlock h2 hg' ((Below.refl base w).grown hg hbase (fun k hk => (hown.lt k hk).1)) (fun T n₀ Bs hT hn0 hB => ?_) hg (fun r hr => ?_)
  · rcases hown.2 with ⟨rfl, _⟩ | ⟨g, cap, cur, rfl, hgb, hgh, _⟩
    · have hup : Up w w' := Up.of ((Below.refl w.heap.size w).grown hg (Nat.le_refl _) (fun k hk => by cases hk));exact keepB_up hup (by omega) (fun x hx => by have := hB x hx; omega)
    · exact keepB_grown (b := g) hg hgh (fun e => hT e.symm) (by omega) (by omega) (fun x hx => by have := hB x hx; omega)
  · rcases hown.2 with ⟨rfl, _⟩ | ⟨g, cap, cur, rfl, hgb, hgh, _⟩
    · cases hr
    · injection hr with hr;have hr : g = r := hr;subst hr;exact ⟨cur, _, hgh⟩
end Go.Proofs.YtbfieomjobbhoaaGreatDoor
