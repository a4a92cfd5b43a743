/- What all walks share: the world behind a call ('Up'), the facts on package-level variables ('Gl'). -/
import Derived.Test.YtbfieomjobbhoaaGreatDoorProg
import Derived.Test.YtbfieomjobbhoaaGreatDoorMN01
import Derived.WalkKit
import Derived.WalkSpells
import Derived.WalkLawsBesides
import Derived.WalkSmall
import Derived.Lib.Hide
import Derived.Lib.LaidTab
import Derived.Shelf.Unicode.DecodeSlow
import Derived.Deep.QuietTactic
import Derived.BigQuiet
import Derived.OrdersHeld
import Derived.Deep.RegionHeld
import Derived.Deep.RegionHeld3
import Derived.Deep.LoopGhost
import Derived.Sort.Grow
import Derived.IntWalk
import Derived.Deep.DeepCutAuto
namespace Go.Proofs.YtbfieomjobbhoaaGreatDoor
open Go.RowKit

/-- Of what was there nothing has turned. -/
def Up (w w' : World) : Prop := Below w.heap.size w w'
theorem Up.refl (w : World) : Up w w := Below.refl _ _
theorem Up.trans {a b c : World} (h : Up a b) (k : Up b c) : Up a c := Below.trans h (Below.mono k h.size)
theorem Up.drew {a b : World} (h : Up a b) : Up a b.drew := Below.drew h
theorem Up.drewN {a b : World} (h : Up a b) (n : Nat) : Up a (b.drewN n) := below_drewN h n
theorem Up.alloc {a b : World} (h : Up a b) (o : Obj) : Up a (b.alloc o) := Below.alloc h h.size o
theorem Up.set {a b : World} (h : Up a b) {p : Addr} (hp : a.heap.size ≤ p.block) (v : Value) : Up a (b.setCell p v) := Below.setCell h hp v
theorem Up.below {a b : World} (h : Up a b) : Below a.heap.size a b := h
theorem Up.of {a b : World} (h : Below a.heap.size a b) : Up a b := h
theorem Up.le {a b : World} (h : Up a b) : a.heap.size ≤ b.heap.size := h.size
theorem Up.cell {a b : World} (h : Up a b) {p : Addr} {v : Value} (hv : a.cell? p = some v) : b.cell? p = some v :=
  (Below.cell h (World.block_lt_of_cell? a p hv)).trans hv
theorem Up.cellq {a b : World} (h : Up a b) {p : Addr} (hp : p.block < a.heap.size) : b.cell? p = a.cell? p := Below.cell h hp
theorem Up.frozen {a b : World} (h : Up a b) {p : Addr} (hp : p.block < a.heap.size) : b.frozen? p = a.frozen? p := Below.frozen h hp
theorem Up.block {a b : World} (h : Up a b) {k : Nat} (hk : k < a.heap.size) : b.heap[k]? = a.heap[k]? := Below.block h k hk
theorem Up.obj {a b : World} (h : Up a b) {k : Nat} {o : Obj} (hk : a.heap[k]? = some o) : b.heap[k]? = some o := by
  rw [h.block (Array.getElem?_eq_some_iff.1 hk).1]; exact hk
theorem Up.grow {a b : World} (h : Up a b) (n : Nat) (os : Array Obj) : Up a (Go.Sort.grow (b.drewN n) os) :=
  h.trans ⟨rfl, rfl, rfl, by show b.heap.size ≤ (b.heap ++ os).size; rw [Array.size_append]; omega, fun k hk => by
    show (b.heap ++ os)[k]? = _
    rw [Array.getElem?_append_left hk]⟩

/-- What the package-level variables hold. -/
structure Gl (w : World) : Prop where
  pow10 : Lib.TabIs Tryz.prog w "internal/strconv.uint64pow10" .u64 Lib.pow10Tab
  errSyntax : ∃ tp p, w.var? Tryz.prog "strconv.ErrSyntax" = some #[.iface tp p]
  errRange : ∃ tp p, w.var? Tryz.prog "strconv.ErrRange" = some #[.iface tp p]
  utf8 : Lib.Utf8Tabs 1 2 w
theorem var_lt {P : Program} {w : World} {n : String} {g : Nat} {cs : Array Value} (hg : P.globalNamed n = some g) (h : w.var? P n = some cs) : g < w.heap.size := by
  unfold World.var? at h;simp only [hg, Option.bind_some] at h;rcases Nat.lt_or_ge g w.heap.size with h' | h'
  · exact h'
  · simp [Array.getElem?_eq_none h'] at h
theorem var_up {P : Program} {w w' : World} {n : String} {g : Nat} {cs : Array Value} (hg : P.globalNamed n = some g) (hu : Up w w') (h : w.var? P n = some cs) : w'.var? P n = some cs :=
  var?_below hu hg (var_lt hg h) h
theorem g_pow10 : Tryz.prog.globalNamed "internal/strconv.uint64pow10" = some 5 := by kernel_rfl
theorem g_syn : Tryz.prog.globalNamed "strconv.ErrSyntax" = some 3 := by kernel_rfl
theorem g_rng : Tryz.prog.globalNamed "strconv.ErrRange" = some 4 := by kernel_rfl
theorem Gl.up {w w' : World} (h : Gl w) (hu : Up w w') : Gl w' :=
  ⟨var_up g_pow10 hu h.pow10,
   let ⟨tp, p, e⟩ := h.errSyntax; ⟨tp, p, var_up g_syn hu e⟩,
   let ⟨tp, p, e⟩ := h.errRange; ⟨tp, p, var_up g_rng hu e⟩,
   ⟨fun c hc => hu.cell (h.utf8.1 c hc), fun i hi => ⟨hu.cell (h.utf8.2 i hi).1, hu.cell (h.utf8.2 i hi).2⟩⟩⟩
theorem Gl.drew {w : World} (h : Gl w) : Gl w.drew := h.up (Up.refl w).drew

/-- An equation of endings. -/
theorem ret_int {k : IntKind} {a b : Int} (h : a = b) : Ending.returned (.int k a) = .returned (.int k b) := by rw [h]
theorem ret_bool {a b : Bool} (h : a = b) : Ending.returned (.bool a) = .returned (.bool b) := by rw [h]
theorem ret_two {a b c d : Value} (h : a = c) (k : b = d) : Ending.returned (.tuple #[a, b]) = .returned (.tuple #[c, d]) := by rw [h, k]
theorem mixed : Tryz.prog.follows .mixedOrders = true := by kernel_rfl

/-- 'append(s, x)' onto a slice of the call's own: x has just been laid. -/
theorem app_one {P : Program} (w : World) {ops : Array Oper} {rest : List Oper} {o : Oper} {a : Act} {Q : Exit → Act → World → Prop} (hgd : o.guard = none) (s x : Operand) (t : TypeId)
    (ho : o.op = .call { callee := .builtin .append, args := #[s, x], argTypes := #[t, t] })
    (base : Nat) (e : TypeId) (i : TypeInfo) (z : Value) (size bytes : Nat) (ht : P.underlying t = some (.slice e)) (hi : P.info? e = some i) (hz : i.zero = some z)
    (hsize : i.size = size) (hby : i.bytes = bytes) (hzs : z.cells.size = size) (hsz : 0 < size)
    (v : Value) (n : Nat) (xs : List Value) (hown : w.ownsRow base e size v n xs) (hs : a.eval s = v)
    (cs : Array Value) (hx : a.eval x = .slice (some ⟨w.heap.size, 0, none⟩) 1 1) (hcs : cs.size = size) (h1 : ∀ u ∈ cs.toList, u.oneCell' = true)
    (hn : n + 1 ≤ 1000000) (hb1 : bytes ≤ 1000) (hbase : base ≤ w.heap.size)
    (h : ∀ v' w', w'.ownsRow base e size v' (n + 1) (xs ++ cs.toList) → w.grownBy w' v.ownBlock → Below base w w' → wpList P ops Q rest (a.put o.dst v') w') :
    wpList P ops Q (o :: rest) a (w.alloc (.cells cs e)) := by
  have hle : (n + 1) * bytes ≤ 140737488355328 := by
    have := Nat.mul_le_mul hn hb1; omega
  refine wpList_append_own _ hgd s x t ho base e i z size bytes ht hi hz hsize hby hzs hsz v n xs hs (hown.alloc _) ⟨w.heap.size, 0, none⟩ 1 1 cs.toList hx (by simpa using hcs) ?_ h1 (by unfold maxLen; omega) hle (by simp; omega) ?_
  · intro j u hu;have hadd : (⟨w.heap.size, 0, none⟩ : Addr).add j = ⟨w.heap.size, j, none⟩ := by unfold Addr.add; split <;> simp_all
    rw [hadd, cell_of_row _ w.heap.size j cs e (0, 0) (heap_alloc_new w _)];simpa using hu
  · intro v' w' h2 h3 _;have hg : w.grownBy w' v.ownBlock := ⟨h3.os, h3.tape, h3.output, Nat.le_trans (by simp) h3.size, fun k hk hne => (h3.block k (by simp; omega) hne).trans (Below.heap_alloc w _ k hk)⟩;exact h v' w' h2 hg ((Below.refl base w).grown hg hbase (fun k hk => (hown.lt k hk).1))
theorem Up.base {a b c : World} {base : Nat} (h : Up a b) (hb : a.heap.size ≤ base) (k : Below base b c) : Up a c := Below.trans h (Below.mono k hb)
theorem tz1 {α : Type} (l : List α) (i : Nat) (a : α) : l.toArray.setIfInBounds i a = (l.set i a).toArray := List.setIfInBounds_toArray l i a
theorem tz2 {α : Type} {x : α} {xs : List α} {a : α} : (x :: xs).set 0 a = a :: xs := List.set_cons_zero
theorem tz3 {α : Type} {x : α} {xs : List α} {i : Nat} {a : α} : (x :: xs).set (i + 1) a = x :: xs.set i a := List.set_cons_succ
/-- taking an operation of a region that draws its order first: one that is not run, or one that is run -/
theorem tk {P : Program} {md : Region.Mode} {ops : Array Oper} {Q : Exit → Act → World → Prop} {S : World → Prop} (i : Nat) {d o t p af g} {v : Value} {fuel : Nat} {listed : Array Bool} {a : Act} {w : World} (hi : ops[i]? = some (Oper.mk d o t p af g))
    (h : wpAnyH P md ops Q S fuel (listed.setIfInBounds i true) (a.put d v) w)
    (hy : (Region.wanted (Oper.mk d o t p af g) (yielded ops a.tmps) = true ∧ ∀ w, S w → (execOp a.eval (Oper.mk d o t p af g)).run P w = .ok (.value v) w) ∨ (Region.wanted (Oper.mk d o t p af g) (yielded ops a.tmps) = false ∧ v = undef) := by first | exact Or.inr ⟨by rfl, rfl⟩ | (refine Or.inl ⟨by rfl, ?_⟩; intro w hSw; (try dsimp only at hSw); go_simp; first | done | with_reducible rfl))
    (hS : S w := by assumption) (hs : Region.noSelect ops = true := by kernel_rfl) (hf : Region.free md ops listed i = true := by kernel_rfl) (hr : (Region.ready md ops listed).contains i = true := by kernel_rfl)
    (hQ : ∀ c a w, Q (.panic c) (a.put d v) w → Q (.panic c) a w := by exact fun _ _ _ h => h) : wpAnyH P md ops Q S (fuel + 1) listed a w :=
  wpAnyH_take hi hs hf hr hQ hy hS h
/-- the one operation that comes up next -/
theorem rd1 {P : Program} {md : Region.Mode} {ops : Array Oper} {Q : Exit → Act → World → Prop} {S : World → Prop} (i : Nat) {d o t p af g} {fuel : Nat} {listed : Array Bool} {a : Act} {w : World} (ho : ops[i]? = some (Oper.mk d o t p af g))
    (h : ∀ K' : Act → World → Prop, Shut (∀ a w, S w → (S w → wpAnyH P md ops Q S fuel (listed.setIfInBounds i true) a w) → K' a w) → if Region.wanted (Oper.mk d o t p af g) (yielded ops a.tmps) = true then Oper.wp P (Oper.mk d o t p af g) a w K' Q else K' (a.put (Oper.mk d o t p af g).dst undef) w)
    (hr : Region.ready md ops listed = [i] := by kernel_rfl) : wpAnyH P md ops Q S (fuel + 1) listed a w := wpAnyH_ready hr (by simp) (AllReadyH.cons ho h AllReadyH.nil)
/-- two -/
theorem rd2 {P : Program} {md : Region.Mode} {ops : Array Oper} {Q : Exit → Act → World → Prop} {S : World → Prop} (i j : Nat) {d o t p af g d2 o2 t2 p2 af2 g2} {fuel : Nat} {listed : Array Bool} {a : Act} {w : World} (ho : ops[i]? = some (Oper.mk d o t p af g)) (hp : ops[j]? = some (Oper.mk d2 o2 t2 p2 af2 g2))
    (h : ∀ K' : Act → World → Prop, Shut (∀ a w, S w → (S w → wpAnyH P md ops Q S fuel (listed.setIfInBounds i true) a w) → K' a w) → if Region.wanted (Oper.mk d o t p af g) (yielded ops a.tmps) = true then Oper.wp P (Oper.mk d o t p af g) a w K' Q else K' (a.put (Oper.mk d o t p af g).dst undef) w)
    (k : ∀ K' : Act → World → Prop, Shut (∀ a w, S w → (S w → wpAnyH P md ops Q S fuel (listed.setIfInBounds j true) a w) → K' a w) → if Region.wanted (Oper.mk d2 o2 t2 p2 af2 g2) (yielded ops a.tmps) = true then Oper.wp P (Oper.mk d2 o2 t2 p2 af2 g2) a w K' Q else K' (a.put (Oper.mk d2 o2 t2 p2 af2 g2).dst undef) w)
    (hr : Region.ready md ops listed = [i, j] := by kernel_rfl) : wpAnyH P md ops Q S (fuel + 1) listed a w := wpAnyH_ready hr (by simp) (AllReadyH.cons ho h (AllReadyH.cons hp k AllReadyH.nil))
end Go.Proofs.YtbfieomjobbhoaaGreatDoor
/- A world in which some blocks alone have turned. -/
namespace Go.Proofs.YtbfieomjobbhoaaGreatDoor
open Go.RowKit Go.Gz
structure Tw (S : List Nat) (w w' : World) : Prop where
  os : w'.os = w.os
  tape : w'.tape = w.tape
  output : w'.output = w.output
  size : w.heap.size ≤ w'.heap.size
  block : ∀ q, q < w.heap.size → q ∉ S → w'.heap[q]? = w.heap[q]?
theorem Tw.refl (S : List Nat) (w : World) : Tw S w w := ⟨rfl, rfl, rfl, Nat.le_refl _, fun _ _ _ => rfl⟩
theorem Tw.trans {S : List Nat} {a b c : World} (h : Tw S a b) (k : Tw S b c) : Tw S a c :=
  ⟨k.os.trans h.os, k.tape.trans h.tape, k.output.trans h.output, Nat.le_trans h.size k.size, fun q hq hn => (k.block q (Nat.lt_of_lt_of_le hq h.size) hn).trans (h.block q hq hn)⟩
theorem Tw.mono {S T : List Nat} {a b : World} (h : Tw S a b) (hs : ∀ q ∈ S, q ∈ T) : Tw T a b :=
  ⟨h.os, h.tape, h.output, h.size, fun q hq hn => h.block q hq (fun e => hn (hs q e))⟩
theorem Tw.grown {S : List Nat} {a b : World} {m : Nat} (g : a.grownBy b (some m)) (hm : m ∈ S) : Tw S a b :=
  ⟨g.os, g.tape, g.output, g.size, fun q hq hn => g.block q hq (by simp only [ne_eq, Option.some.injEq]; intro e; exact hn (by rw [e]; exact hm))⟩
theorem Tw.set {S : List Nat} {a b : World} (h : Tw S a b) {B : Nat} (hB : B ∈ S) (o : Nat) (v : Value) : Tw S a (b.setCell ⟨B, o, none⟩ v) :=
  ⟨h.os, h.tape, h.output, by simpa using h.size, fun q hq hn => (heap_setCell_other _ _ _ _ (fun e => hn (by rw [show q = B from e]; exact hB))).trans (h.block q hq hn)⟩
theorem Tw.alloc {S : List Nat} {a b : World} (h : Tw S a b) (o : Obj) : Tw S a (b.alloc o) :=
  ⟨h.os, h.tape, h.output, Nat.le_trans h.size ((Up.refl b).alloc o).size, fun q hq hn => ((((Up.refl b).alloc o)).block (Nat.lt_of_lt_of_le hq h.size)).trans (h.block q hq hn)⟩
theorem Tw.drew {S : List Nat} {a b : World} (h : Tw S a b) : Tw S a b.drew :=
  ⟨h.os, h.tape, h.output, h.size, h.block⟩
theorem Tw.up {S : List Nat} {a b : World} (h : Up a b) : Tw S a b := ⟨h.os, h.tape, h.output, h.size, fun _ hq _ => h.block hq⟩
theorem Up.tw {S : List Nat} {w a b : World} (h : Up w a) (t : Tw S a b) (hS : ∀ q ∈ S, w.heap.size ≤ q) : Up w b :=
  ⟨t.os.trans h.os, t.tape.trans h.tape, t.output.trans h.output, Nat.le_trans h.size t.size, fun k hk => (t.block k (Nat.lt_of_lt_of_le hk h.le) (fun e => by have := hS k e; omega)).trans (h.block hk)⟩
theorem Tw.obj {S : List Nat} {a b : World} (h : Tw S a b) {k : Nat} {o : Obj} (hk : a.heap[k]? = some o) (hn : k ∉ S) : b.heap[k]? = some o := by
  rw [h.block k (Array.getElem?_eq_some_iff.1 hk).1 hn]; exact hk
end Go.Proofs.YtbfieomjobbhoaaGreatDoor
