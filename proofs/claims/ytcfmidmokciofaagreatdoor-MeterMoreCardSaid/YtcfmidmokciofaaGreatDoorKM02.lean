/- What all walks share: the world behind a call ('Up'), the facts on package-level variables ('Gl'). -/
import Derived.Test.YtcfmidmokciofaaGreatDoorProg
import Derived.Test.YtcfmidmokciofaaGreatDoorKM01
import Derived.WalkKit
import Derived.WalkSpells
import Derived.WalkLawsBesides
import Derived.WalkSmall
import Derived.Lib.Hide
import Derived.Lib.LaidTab
import Derived.Shelf.Unicode.DecodeSlow
import Derived.Deep.QuietTactic
import Derived.BigQuiet
import Derived.OrdersHeld
import Derived.Deep.RegionHeld
import Derived.Deep.RegionHeld3
import Derived.Deep.LoopGhost
import Derived.Sort.Grow
import Derived.IntWalk
import Derived.Deep.DeepCutAuto
namespace Go.Proofs.YtcfmidmokciofaaGreatDoor
open Go.RowKit

/-- Of what was there nothing has turned. -/
def Up (w w' : World) : Prop := Below w.heap.size w w'
theorem Up.refl (w : World) : Up w w := Below.refl _ _
theorem Up.trans {a b c : World} (h : Up a b) (k : Up b c) : Up a c := Below.trans h (Below.mono k h.size)
theorem Up.drew {a b : World} (h : Up a b) : Up a b.drew := Below.drew h
theorem Up.drewN {a b : World} (h : Up a b) (n : Nat) : Up a (b.drewN n) := below_drewN h n
theorem Up.alloc {a b : World} (h : Up a b) (o : Obj) : Up a (b.alloc o) := Below.alloc h h.size o
theorem Up.set {a b : World} (h : Up a b) {p : Addr} (hp : a.heap.size ≤ p.block) (v : Value) : Up a (b.setCell p v) := Below.setCell h hp v
theorem Up.below {a b : World} (h : Up a b) : Below a.heap.size a b := h
theorem Up.of {a b : World} (h : Below a.heap.size a b) : Up a b := h
theorem Up.le {a b : World} (h : Up a b) : a.heap.size ≤ b.heap.size := h.size
theorem Up.cell {a b : World} (h : Up a b) {p : Addr} {v : Value} (hv : a.cell? p = some v) : b.cell? p = some v :=
  (Below.cell h (World.block_lt_of_cell? a p hv)).trans hv
theorem Up.cellq {a b : World} (h : Up a b) {p : Addr} (hp : p.block < a.heap.size) : b.cell? p = a.cell? p := Below.cell h hp
theorem Up.frozen {a b : World} (h : Up a b) {p : Addr} (hp : p.block < a.heap.size) : b.frozen? p = a.frozen? p := Below.frozen h hp
theorem Up.block {a b : World} (h : Up a b) {k : Nat} (hk : k < a.heap.size) : b.heap[k]? = a.heap[k]? := Below.block h k hk
theorem Up.obj {a b : World} (h : Up a b) {k : Nat} {o : Obj} (hk : a.heap[k]? = some o) : b.heap[k]? = some o := by
  rw [h.block (Array.getElem?_eq_some_iff.1 hk).1]; exact hk
theorem Up.grow {a b : World} (h : Up a b) (n : Nat) (os : Array Obj) : Up a (Go.Sort.grow (b.drewN n) os) :=
  h.trans ⟨rfl, rfl, rfl, by show b.heap.size ≤ (b.heap ++ os).size; rw [Array.size_append]; omega, fun k hk => by
    show (b.heap ++ os)[k]? = _
    rw [Array.getElem?_append_left hk]⟩

/-- What the package-level variables hold. -/
structure Gl (w : World) : Prop where
  pow10 : Lib.TabIs Tryz.prog w "internal/strconv.uint64pow10" .u64 Lib.pow10Tab
  errSyntax : ∃ tp p, w.var? Tryz.prog "strconv.ErrSyntax" = some #[.iface tp p]
  errRange : ∃ tp p, w.var? Tryz.prog "strconv.ErrRange" = some #[.iface tp p]
  utf8 : Lib.Utf8Tabs 1 2 w
theorem var_lt {P : Program} {w : World} {n : String} {g : Nat} {cs : Array Value} (hg : P.globalNamed n = some g) (h : w.var? P n = some cs) : g < w.heap.size := by
  unfold World.var? at h
  simp only [hg, Option.bind_some] at h
  rcases Nat.lt_or_ge g w.heap.size with h' | h'
  · exact h'
  · simp [Array.getElem?_eq_none h'] at h
theorem var_up {P : Program} {w w' : World} {n : String} {g : Nat} {cs : Array Value} (hg : P.globalNamed n = some g) (hu : Up w w') (h : w.var? P n = some cs) : w'.var? P n = some cs :=
  var?_below hu hg (var_lt hg h) h
theorem g_pow10 : Tryz.prog.globalNamed "internal/strconv.uint64pow10" = some 5 := by kernel_rfl
theorem g_syn : Tryz.prog.globalNamed "strconv.ErrSyntax" = some 3 := by kernel_rfl
theorem g_rng : Tryz.prog.globalNamed "strconv.ErrRange" = some 4 := by kernel_rfl
theorem Gl.up {w w' : World} (h : Gl w) (hu : Up w w') : Gl w' :=
  ⟨var_up g_pow10 hu h.pow10,
   let ⟨tp, p, e⟩ := h.errSyntax; ⟨tp, p, var_up g_syn hu e⟩,
   let ⟨tp, p, e⟩ := h.errRange; ⟨tp, p, var_up g_rng hu e⟩,
   ⟨fun c hc => hu.cell (h.utf8.1 c hc), fun i hi => ⟨hu.cell (h.utf8.2 i hi).1, hu.cell (h.utf8.2 i hi).2⟩⟩⟩
theorem Gl.drew {w : World} (h : Gl w) : Gl w.drew := h.up (Up.refl w).drew

/-- An equation of endings. -/
theorem ret_int {k : IntKind} {a b : Int} (h : a = b) : Ending.returned (.int k a) = .returned (.int k b) := by rw [h]
theorem ret_bool {a b : Bool} (h : a = b) : Ending.returned (.bool a) = .returned (.bool b) := by rw [h]
theorem ret_str {a b : List UInt8} (h : a = b) : Ending.returned (.string ⟨a.toArray⟩) = .returned (.string ⟨b.toArray⟩) := by rw [h]
theorem ret_two {a b c d : Value} (h : a = c) (k : b = d) : Ending.returned (.tuple #[a, b]) = .returned (.tuple #[c, d]) := by rw [h, k]
theorem ret_three {a b c d x y : Value} (h : a = c) (k : b = d) (l : x = y) : Ending.returned (.tuple #[a, b, x]) = .returned (.tuple #[c, d, y]) := by rw [h, k, l]
theorem str_eq {a b : List UInt8} (h : a = b) : Value.string ⟨a.toArray⟩ = .string ⟨b.toArray⟩ := by rw [h]
theorem int_eq {k : IntKind} {a b : Int} (h : a = b) : Value.int k a = .int k b := by rw [h]
theorem bool_eq {a b : Bool} (h : a = b) : Value.bool a = .bool b := by rw [h]
theorem mixed : Tryz.prog.follows .mixedOrders = true := by kernel_rfl

/-- 'append(s, x)' onto a slice of the call's own: x has just been laid. -/
theorem app_one {P : Program} (w : World) {ops : Array Oper} {rest : List Oper} {o : Oper} {a : Act} {Q : Exit → Act → World → Prop} (hgd : o.guard = none) (s x : Operand) (t : TypeId)
    (ho : o.op = .call { callee := .builtin .append, args := #[s, x], argTypes := #[t, t] })
    (base : Nat) (e : TypeId) (i : TypeInfo) (z : Value) (size bytes : Nat) (ht : P.underlying t = some (.slice e)) (hi : P.info? e = some i) (hz : i.zero = some z)
    (hsize : i.size = size) (hby : i.bytes = bytes) (hzs : z.cells.size = size) (hsz : 0 < size)
    (v : Value) (n : Nat) (xs : List Value) (hown : w.ownsRow base e size v n xs) (hs : a.eval s = v)
    (cs : Array Value) (hx : a.eval x = .slice (some ⟨w.heap.size, 0, none⟩) 1 1) (hcs : cs.size = size) (h1 : ∀ u ∈ cs.toList, u.oneCell' = true)
    (hn : n + 1 ≤ 1000000) (hb1 : bytes ≤ 1000) (hbase : base ≤ w.heap.size)
    (h : ∀ v' w', w'.ownsRow base e size v' (n + 1) (xs ++ cs.toList) → w.grownBy w' v.ownBlock → Below base w w' → wpList P ops Q rest (a.put o.dst v') w') :
    wpList P ops Q (o :: rest) a (w.alloc (.cells cs e)) := by
  have hle : (n + 1) * bytes ≤ 140737488355328 := by
    have := Nat.mul_le_mul hn hb1; omega
  refine wpList_append_own _ hgd s x t ho base e i z size bytes ht hi hz hsize hby hzs hsz v n xs hs (hown.alloc _) ⟨w.heap.size, 0, none⟩ 1 1 cs.toList hx (by simpa using hcs) ?_ h1 (by unfold maxLen; omega) hle (by simp; omega) ?_
  · intro j u hu
    have hadd : (⟨w.heap.size, 0, none⟩ : Addr).add j = ⟨w.heap.size, j, none⟩ := by unfold Addr.add; split <;> simp_all
    rw [hadd, cell_of_row _ w.heap.size j cs e (0, 0) (heap_alloc_new w _)]
    simpa using hu
  · intro v' w' h2 h3 _
    have hg : w.grownBy w' v.ownBlock := ⟨h3.os, h3.tape, h3.output, Nat.le_trans (by simp) h3.size, fun k hk hne => (h3.block k (by simp; omega) hne).trans (Below.heap_alloc w _ k hk)⟩
    exact h v' w' h2 hg ((Below.refl base w).grown hg hbase (fun k hk => (hown.lt k hk).1))
theorem Up.base {a b c : World} {base : Nat} (h : Up a b) (hb : a.heap.size ≤ base) (k : Below base b c) : Up a c := Below.trans h (Below.mono k hb)
theorem tz1 {α : Type} (l : List α) (i : Nat) (a : α) : l.toArray.setIfInBounds i a = (l.set i a).toArray := List.setIfInBounds_toArray l i a
theorem tz2 {α : Type} {x : α} {xs : List α} {a : α} : (x :: xs).set 0 a = a :: xs := List.set_cons_zero
theorem tz3 {α : Type} {x : α} {xs : List α} {i : Nat} {a : α} : (x :: xs).set (i + 1) a = x :: xs.set i a := List.set_cons_succ
/-- taking an operation of a region that draws its order first: one that is not run, or one that is run -/
theorem tk {P : Program} {md : Region.Mode} {ops : Array Oper} {Q : Exit → Act → World → Prop} {S : World → Prop} (i : Nat) {d o t p af g} {v : Value} {fuel : Nat} {listed : Array Bool} {a : Act} {w : World} (hi : ops[i]? = some (Oper.mk d o t p af g))
    (h : wpAnyH P md ops Q S fuel (listed.setIfInBounds i true) (a.put d v) w)
    (hy : (Region.wanted (Oper.mk d o t p af g) (yielded ops a.tmps) = true ∧ ∀ w, S w → (execOp a.eval (Oper.mk d o t p af g)).run P w = .ok (.value v) w) ∨ (Region.wanted (Oper.mk d o t p af g) (yielded ops a.tmps) = false ∧ v = undef) := by first | exact Or.inr ⟨by rfl, rfl⟩ | (refine Or.inl ⟨by rfl, ?_⟩; intro w hSw; (try dsimp only at hSw); go_simp; first | done | with_reducible rfl))
    (hS : S w := by assumption) (hs : Region.noSelect ops = true := by kernel_rfl) (hf : Region.free md ops listed i = true := by kernel_rfl) (hr : (Region.ready md ops listed).contains i = true := by kernel_rfl)
    (hQ : ∀ c a w, Q (.panic c) (a.put d v) w → Q (.panic c) a w := by exact fun _ _ _ h => h) : wpAnyH P md ops Q S (fuel + 1) listed a w :=
  wpAnyH_take hi hs hf hr hQ hy hS h
/-- the one operation that comes up next -/
theorem rd1 {P : Program} {md : Region.Mode} {ops : Array Oper} {Q : Exit → Act → World → Prop} {S : World → Prop} (i : Nat) {d o t p af g} {fuel : Nat} {listed : Array Bool} {a : Act} {w : World} (ho : ops[i]? = some (Oper.mk d o t p af g))
    (h : ∀ K' : Act → World → Prop, Shut (∀ a w, S w → (S w → wpAnyH P md ops Q S fuel (listed.setIfInBounds i true) a w) → K' a w) → if Region.wanted (Oper.mk d o t p af g) (yielded ops a.tmps) = true then Oper.wp P (Oper.mk d o t p af g) a w K' Q else K' (a.put (Oper.mk d o t p af g).dst undef) w)
    (hr : Region.ready md ops listed = [i] := by kernel_rfl) : wpAnyH P md ops Q S (fuel + 1) listed a w := wpAnyH_ready hr (by simp) (AllReadyH.cons ho h AllReadyH.nil)
/-- two -/
theorem rd2 {P : Program} {md : Region.Mode} {ops : Array Oper} {Q : Exit → Act → World → Prop} {S : World → Prop} (i j : Nat) {d o t p af g d2 o2 t2 p2 af2 g2} {fuel : Nat} {listed : Array Bool} {a : Act} {w : World} (ho : ops[i]? = some (Oper.mk d o t p af g)) (hp : ops[j]? = some (Oper.mk d2 o2 t2 p2 af2 g2))
    (h : ∀ K' : Act → World → Prop, Shut (∀ a w, S w → (S w → wpAnyH P md ops Q S fuel (listed.setIfInBounds i true) a w) → K' a w) → if Region.wanted (Oper.mk d o t p af g) (yielded ops a.tmps) = true then Oper.wp P (Oper.mk d o t p af g) a w K' Q else K' (a.put (Oper.mk d o t p af g).dst undef) w)
    (k : ∀ K' : Act → World → Prop, Shut (∀ a w, S w → (S w → wpAnyH P md ops Q S fuel (listed.setIfInBounds j true) a w) → K' a w) → if Region.wanted (Oper.mk d2 o2 t2 p2 af2 g2) (yielded ops a.tmps) = true then Oper.wp P (Oper.mk d2 o2 t2 p2 af2 g2) a w K' Q else K' (a.put (Oper.mk d2 o2 t2 p2 af2 g2).dst undef) w)
    (hr : Region.ready md ops listed = [i, j] := by kernel_rfl) : wpAnyH P md ops Q S (fuel + 1) listed a w := wpAnyH_ready hr (by simp) (AllReadyH.cons ho h (AllReadyH.cons hp k AllReadyH.nil))
end Go.Proofs.YtcfmidmokciofaaGreatDoor
/- Walk: route.pieces. -/
namespace Go.Proofs.YtcfmidmokciofaaGreatDoor
open Go.RowKit Go.Gz

def strV (s : Bs) : Value := .string ⟨s.toArray⟩
theorem infoS : (Tryz.prog.info? 9).map (fun i => (i.zero, i.size, i.bytes)) = some (some (.string ⟨#[]⟩), 1, 16) := by kernel_rfl
/-- a slice of texts of the call's own, from block B on -/
def OwnS (w : World) (B : Nat) (v : Value) (ls : List Bs) : Prop := w.ownsRow B 9 1 v ls.length (ls.map strV)
theorem OwnS.up {w w' : World} {B : Nat} {v : Value} {ls : List Bs} (h : OwnS w B v ls) (hu : Up w w') : OwnS w' B v ls := by
  refine World.ownsRow.kept (row := none) h ⟨hu.os, hu.tape, hu.output, hu.size, fun k hk _ => hu.block hk⟩ ?_
  cases v.ownBlock <;> simp
theorem OwnS.form {w : World} {B : Nat} {v : Value} {ls : List Bs} (h : OwnS w B v ls) : (v = .slice none 0 0 ∧ ls = []) ∨ ∃ g cap, v = .slice (some ⟨g, 0, none⟩) ls.length cap ∧ B ≤ g ∧ g < w.heap.size ∧ ls.length ≤ cap := by
  rcases h.2 with ⟨h1, h2⟩ | ⟨g, cap, cur, h1, h2, h3, h4, _⟩
  · exact .inl ⟨h1, List.length_eq_zero_iff.1 h2⟩
  · exact .inr ⟨g, cap, h1, h2, (Array.getElem?_eq_some_iff.1 h3).1, h4⟩
theorem OwnS.at {w : World} {B g cap : Nat} {ls : List Bs} (h : OwnS w B (.slice (some ⟨g, 0, none⟩) ls.length cap) ls) (j : Nat) (hj : j < ls.length) : w.cell? ⟨g, j, none⟩ = some (.string ⟨(ls.getD j []).toArray⟩) := by
  rw [World.ownsRow.cellAt h j (by omega)]
  simp [hj, strV, List.getD]

theorem results_tmp4 {fn : Func} {t u v x : Tmp} (h : fn.results = #[.tmp t, .tmp u, .tmp v, .tmp x]) (tmps : Array Value) (P : Program) (w : World) :
    (results fn tmps).run P w = .ok (.tuple #[tmps.getD t undef, tmps.getD u undef, tmps.getD v undef, tmps.getD x undef]) w := by simp [results, h]
theorem own_base {w : World} {B B' : Nat} {e : TypeId} {size n : Nat} {v : Value} {xs : List Value} (hB : B' ≤ B) (h : w.ownsRow B e size v n xs) : w.ownsRow B' e size v n xs := by
  obtain ⟨h1, h2⟩ := h
  refine ⟨h1, ?_⟩
  rcases h2 with h2 | ⟨g, cap, cur, a, b, c⟩
  · exact .inl h2
  · exact .inr ⟨g, cap, cur, a, Nat.le_trans hB b, c⟩
def PieRel (w : World) (l : Bs) (k : Nat) (v : Value) (wr : World) : Prop := ∃ ls : List Bs, ls.length ≤ 3 ∧ (∀ s ∈ ls, s.length ≤ k) ∧
  pieces (l.drop k) ls = pieces l [] ∧ OwnS wr (w.heap.size + 1) v ls ∧ Up w wr ∧ wr.heap[w.heap.size]? = some (.stringIter ⟨l.toArray⟩ k)
def PieEnd (w : World) (l : Bs) (e : Ending) (w' : World) : Prop := Up w w' ∧
  match pieces l [] with
  | none => ∃ v x d, e = .returned (.tuple #[v, x, d, .bool false])
  | some (ls, ext, dot) => ∃ v, e = .returned (.tuple #[v, .string ⟨ext.toArray⟩, .bool dot, .bool true]) ∧ OwnS w' w.heap.size v ls
set_option maxRecDepth 100000 in
set_option maxHeartbeats 2000000 in
theorem pieces_any (l : Bs) (hl : l.length ≤ 64) (w : World) :
    Calls Tryz.prog 169 #[.string ⟨l.toArray⟩] w (PieEnd w l) := by
  obtain ⟨i0, hi, hz0, hz1, hz2⟩ := info_parts infoS
  go_enter Tryz.func169, Tryz.ntmps169
  go_wp2
  go_loopg [2] l.length (fun gk v wr => ∃ k, k + gk = l.length ∧ PieRel w l k v wr)
  case atStart => exact ⟨0, by omega, [], by simp, by simp, by simp, World.ownsRow_nil _ _ _ _, (Up.refl w).alloc _, World.iter_heap _ _ _⟩
  case round =>
    obtain ⟨k, hk, ls, h3, hs, hp, hown, hu, hit⟩ := hrel
    have HP := Lib.hid hp
    have HS := Lib.hid hs
    have HO := Lib.hid hown
    have HI := Lib.hid hit
    have HU := Lib.hid hu
    by_cases hlt : k < l.length
    · have hdr : l.drop k = l[k] :: l.drop (k + 1) := List.drop_eq_getElem_cons hlt
      rw [hdr] at hp
      generalize hc : l[k] = c at hp hdr
      by_cases ha : c.toNat < 128
      · have hn0 := fun ty => Lib.run_next_ascii_at (P := Tryz.prog) wr w.heap.size ⟨l.toArray⟩ k ty hit (by rw [size_mk]; exact hlt) (by show l[k].toNat < 128; rw [hc]; exact ha)
        have hn : ∀ ty, (Instr.next (.pointer (some ⟨w.heap.size, 0, none⟩)) true ty).run Tryz.prog wr = .ok (.tuple #[.bool true, .int .i64 k, .int .i32 (c.toNat : Int)]) (wr.iterAt w.heap.size ⟨l.toArray⟩ (k + 1)) := by
          intro ty; rw [hn0 ty]; show Result.ok (Value.tuple #[.bool true, .int .i64 k, .int .i32 (l[k].toNat : Int)]) _ = _; rw [hc]
        clear hn0
        have hu2 : Up w (wr.iterAt w.heap.size ⟨l.toArray⟩ (k + 1)) := Lib.below_iterAt hu (Nat.le_refl _) _ _
        have ho2 : OwnS (wr.iterAt w.heap.size ⟨l.toArray⟩ (k + 1)) (w.heap.size + 1) u2 ls := ownsRow_iterAt hown (by omega) _ _
        have hi2 : (wr.iterAt w.heap.size ⟨l.toArray⟩ (k + 1)).heap[w.heap.size]? = some (.stringIter ⟨l.toArray⟩ (k + 1)) := Lib.iterAt_heap _ _ _ _ _ hit
        have hsz : (wr.iterAt w.heap.size ⟨l.toArray⟩ (k + 1)).heap.size = wr.heap.size := Lib.iterAt_size _ _ _ _
        generalize wr.iterAt w.heap.size ⟨l.toArray⟩ (k + 1) = w2 at *
        have HO2 := Lib.hid ho2
        have HC := Lib.hid hc
        clear hc
        have HI2 := Lib.hid hi2
        have HU2 := Lib.hid hu2
        have HLT : w.heap.size < w2.heap.size := (Array.getElem?_eq_some_iff.1 hi2).1
        clear ho2 hi2 hu2 hsz hown hit hs hu hdr
        by_cases h47 : c = 47
        · subst h47
          by_cases hl3 : ls.length < 3
          · have HP' := Lib.hid ((pieces_slash (r := l.drop (k + 1)) hl3).symm.trans hp)
            have hln : (ls.length : Int) < 3 := by omega
            clear hp
            rcases HO2.out.form with ⟨rfl, hls⟩ | ⟨g, cap, rfl, hg1, hg2, hcap⟩
            case' inl => clear hls
            all_goals
              go_wp2_with (at_builtin; (refine app_one w2 rfl _ _ 23 rfl (w.heap.size + 1) 9 i0 _ 1 16 Tryz.underlying23 hi hz0 hz1 hz2 rfl (by decide) _ _ _ HO2.out rfl #[.string ⟨#[]⟩] rfl rfl (by simp [Value.oneCell']) (by omega) (by omega) (by omega) ?_); intro v3 w3 ho3 hg3 hb3)
              go_roundg (gk - 1)
              case measure => omega
              case rel => exact ⟨k + 1, by omega, ls ++ [[]], by simp; omega, by
                  intro s hm
                  rcases List.mem_append.1 hm with h | h
                  · have := HS.out s h; omega
                  · simp at h; subst h; simp, HP'.out, by simpa [OwnS, strV] using ho3, HU2.out.base (by omega) hb3, (hb3.block _ (by omega)).trans HI2.out⟩
          · have hpn : pieces l [] = none := by
              rw [← hp, pieces_bad (by simp [hl3]) (by decide) (by simp)]
            have HN := Lib.hid hpn
            clear hp hpn
            have e3 : ls.length = 3 := by omega
            rcases HO2.out.form with ⟨rfl, hls⟩ | ⟨g, cap, rfl, hg1, hg2, hcap⟩
            · rw [hls] at e3; simp at e3
            rw [e3] at HO2 ⊢
            clear hl3 hcap
            go_wp2_with fail
            refine bodyPost_ret (results_tmp4 rfl _ _ _) rfl ⟨HU2.out, ?_⟩
            rw [HN.out]
            exact ⟨_, _, _, rfl⟩
        · have b47 : ((c.toNat : Int) == 47) = false := by
            rw [beq_eq_false_iff_ne]; intro e; exact h47 (UInt8.toNat.inj (by show c.toNat = 47; omega))
          rcases HO2.out.form with ⟨rfl, hls⟩ | ⟨g, cap, rfl, hg1, hg2, hcap⟩
          · subst hls
            have HN := Lib.hid (hp.symm.trans (pieces_nil h47))
            clear hp h47
            go_wp2_with fail
            refine bodyPost_ret (results_tmp4 rfl _ _ _) rfl ⟨HU2.out, ?_⟩
            rw [HN.out]
            exact ⟨_, _, _, rfl⟩
          by_cases hne : ls = []
          · subst hne
            have HN := Lib.hid (hp.symm.trans (pieces_nil h47))
            clear hp h47
            go_wp2_with fail
            refine bodyPost_ret (results_tmp4 rfl _ _ _) rfl ⟨HU2.out, ?_⟩
            rw [HN.out]
            exact ⟨_, _, _, rfl⟩
          have hlen : 0 < ls.length := List.length_pos_iff.2 hne
          have b0 : ((ls.length : Int) == 0) = false := by rw [beq_eq_false_iff_ne]; omega
          by_cases hd : dig c = true
          · have HP' := Lib.hid ((pieces_num (r := l.drop (k + 1)) hne hd).symm.trans hp)
            obtain ⟨hc1', hc2'⟩ := (dig_iff c).1 hd
            have hc1 : (48 : Int) ≤ (c.toNat : Int) := by omega
            have hc2 : (c.toNat : Int) ≤ 57 := by omega
            clear hc1' hc2'
            obtain ⟨m, hm⟩ : ∃ m, ls.length = m + 1 := ⟨ls.length - 1, by omega⟩
            have hcell := HO2.out.at m (by omega)
            have hfz := World.ownsRow.frozenAt HO2.out m
            have HS2 := Lib.hid (HO2.out.stored m (strV (ls.getLastD [] ++ [c])))
            have hx : ls.getD m [] = ls.getLastD [] := by rw [getLastD_at ls hne, hm]; rfl
            have hxl : (ls.getLastD []).length ≤ 64 := by
              have : ls.getLastD [] ∈ ls := by rw [← hx]; unfold List.getD; rw [List.getElem?_eq_getElem (by omega)]; exact List.getElem_mem _
              have := HS.out _ this; omega
            rw [hx] at hcell
            rw [hm] at hcap
            clear b0
            have b0 : ((m : Int) + 1 == 0) = false := by rw [beq_eq_false_iff_ne]; omega
            rw [hm]
            have hm3 : m ≤ 2 := by omega
            obtain ⟨cl, hcl⟩ : ∃ cl : Bs, cl = [c] := ⟨_, rfl⟩
            have henc : Utf8.encode (c.toNat : Int) = ⟨cl.toArray⟩ := by rw [hcl]; exact enc_ascii c ha
            have hcl1 : cl.length ≤ 1 := by rw [hcl]; simp
            have HCL := Lib.hid hcl
            clear hcl
            have HX := Lib.hid hx
            have HM := Lib.hid hm
            have HNE := Lib.hid hne
            generalize ls.getLastD [] = x at *
            clear hp hd hx hne hlen hm h47
            go_wp2_with fail
            go_roundg (gk - 1)
            case measure => omega
            case rel =>
              obtain ⟨ho3, hg3⟩ := HS2.out
              have hset : ls.dropLast ++ [x ++ [c]] = ls.set m (x ++ [c]) := by rw [set_last _ _ HNE.out, HM.out]; rfl
              have hstr : strV (x ++ [c]) = .string ⟨(x ++ cl).toArray⟩ := by rw [HCL.out]; rfl
              have hlen : (ls.set m (x ++ [c])).length = m + 1 := by rw [List.length_set]; exact HM.out
              refine ⟨k + 1, by omega, ls.dropLast ++ [x ++ [c]], by rw [hset, hlen]; omega, ?_, HP'.out, ?_, ?_, ?_⟩
              · intro s hm
                rcases List.mem_append.1 hm with h | h
                · have := HS.out s ((List.dropLast_sublist ls).subset h); omega
                · simp at h; subst h
                  have : x ∈ ls := by rw [← HX.out]; unfold List.getD; rw [List.getElem?_eq_getElem (by rw [HM.out]; omega)]; exact List.getElem_mem _
                  have := HS.out _ this
                  simp; omega
              · rw [hset]
                unfold OwnS
                rw [hlen, List.map_set]
                rw [HM.out, hstr] at ho3
                rw [hstr]
                exact ho3
              · rw [hstr] at hg3
                exact Up.base HU2.out (show w.heap.size ≤ w.heap.size + 1 by omega) ((Below.refl _ _).setCell hg1 _)
              · rw [← HI2.out]
                exact Below.heap_setCell _ _ _ _ (by simp; omega)
          · have hd' : dig c = false := by simpa using hd
            have hcc : (c.toNat : Int) < 48 ∨ 57 < (c.toNat : Int) := by
              rcases Nat.lt_or_ge c.toNat 48 with g | g
              · exact .inl (by omega)
              · rcases Nat.lt_or_ge 57 c.toNat with g2 | g2
                · exact .inr (by omega)
                · exact absurd ((dig_iff c).2 ⟨g, g2⟩) hd
            obtain ⟨m, hm⟩ : ∃ m, ls.length = m + 1 := ⟨ls.length - 1, by omega⟩
            have hm3 : m ≤ 2 := by omega
            have b0 : ((m : Int) + 1 == 0) = false := by rw [beq_eq_false_iff_ne]; omega
            by_cases hdot : c = 46 ∧ m = 2
            · obtain ⟨rfl, rfl⟩ := hdot
              have HN := Lib.hid (hp.symm.trans (pieces_dot (by omega)))
              have HM := Lib.hid hm
              rw [hm]
              clear hp hd hd' hcc hm b0 b47 h47 hne hlen hcap
              have hk1 : (k : Int) + 1 ≤ (l.length : Int) := by omega
              have hk0 : (0 : Int) ≤ (k : Int) + 1 := by omega
              have hw1 : IntKind.i64.wrap ((k : Int) + 1) = (k : Int) + 1 := IntWalk.i64_in _ (by omega)
              go_wp2_with fail
              go_quiet (fail)
              go_wp2_with fail
              refine bodyPost_ret (results_tmp4 rfl _ _ _) rfl ⟨HU2.out.drewN _, ?_⟩
              rw [HN.out]
              refine ⟨_, by rw [← extract_mk]; rfl, ?_⟩
              have ho := HO2.out.1
              have ho2 := HO2.out
              unfold OwnS at ho2 ⊢
              rw [HM.out] at ho2 ⊢
              exact own_base (by omega) ho2
            · have hpn : pieces l [] = none := by
                rw [← hp, pieces_bad (by simp [h47]) hd' (by intro h; exact hdot ⟨h.1, by omega⟩)]
              have HN := Lib.hid hpn
              rw [hm]
              have hb46 : ((c.toNat : Int) == 46) = false ∨ ((m : Int) + 1 == 3) = false := by
                by_cases e : c = 46
                · right; rw [beq_eq_false_iff_ne]; intro e2; exact hdot ⟨e, by omega⟩
                · left; rw [beq_eq_false_iff_ne]; intro e2; exact e (UInt8.toNat.inj (by show c.toNat = 46; omega))
              clear hp hd hd' hm hpn hdot h47 hne hlen hcap
              rcases hcc with hcc | hcc
              all_goals
                rcases hb46 with hb46 | hb46
                all_goals
                  go_wp2_with fail
                  all_goals
                    refine bodyPost_ret (results_tmp4 rfl _ _ _) rfl ⟨HU2.out, ?_⟩
                    rw [HN.out]
                    exact ⟨_, _, _, rfl⟩
      · have hn0 := fun ty => Lib.run_next_any_at (P := Tryz.prog) wr w.heap.size ⟨l.toArray⟩ k ty hit (by rw [size_mk]; exact hlt)
        have hg := get_mk l k hlt
        rw [hc] at hg
        have hr := Go.Gz.decode_high ⟨l.toArray⟩ k (by rw [hg]; omega)
        have hu2 := fun j => (Lib.below_iterAt hu (Nat.le_refl _) ⟨l.toArray⟩ j : Up w (wr.iterAt w.heap.size ⟨l.toArray⟩ j))
        have hpn : pieces l [] = none := by
          rw [← hp]
          refine pieces_bad (by intro h; rw [h.1] at ha; exact ha (by decide)) ?_ (by intro h; rw [h.1] at ha; exact ha (by decide))
          unfold dig; simp; omega
        have HN := Lib.hid hpn
        generalize (Utf8.decode ⟨l.toArray⟩ k).1 = r at hn0 hr
        generalize (Utf8.decode ⟨l.toArray⟩ k).2 = rw at hn0
        have hu3 := hu2 (k + rw)
        generalize wr.iterAt w.heap.size ⟨l.toArray⟩ (k + rw) = w2 at hn0 hu3
        have HU2 := Lib.hid hu3
        have b47 : ((r : Int) == 47) = false := by rw [beq_eq_false_iff_ne]; omega
        have b46 : ((r : Int) == 46) = false := by rw [beq_eq_false_iff_ne]; omega
        have b57 : ¬ (r : Int) ≤ 57 := by omega
        have b48 : (48 : Int) ≤ r := by omega
        rcases hown.form with ⟨rfl, hls⟩ | ⟨g, cap, rfl, hg1, hg2, hcap⟩
        · clear hp hs hown hit hpn hu hdr hc ha hr hu2 hu3 hls
          go_wp2_with fail
          refine bodyPost_ret (results_tmp4 rfl _ _ _) rfl ⟨HU2.out, ?_⟩
          rw [HN.out]
          exact ⟨_, _, _, rfl⟩
        · clear hp hs hown hit hpn hu hdr hc ha hr hu2 hu3 hcap
          by_cases h0 : ls.length = 0
          · rw [h0]
            clear h0
            go_wp2_with fail
            refine bodyPost_ret (results_tmp4 rfl _ _ _) rfl ⟨HU2.out, ?_⟩
            rw [HN.out]
            exact ⟨_, _, _, rfl⟩
          · have b0 : ((ls.length : Int) == 0) = false := by rw [beq_eq_false_iff_ne]; omega
            go_wp2_with fail
            refine bodyPost_ret (results_tmp4 rfl _ _ _) rfl ⟨HU2.out, ?_⟩
            rw [HN.out]
            exact ⟨_, _, _, rfl⟩
    · have hn := fun ty => Lib.run_next_end_at (P := Tryz.prog) wr w.heap.size ⟨l.toArray⟩ k ty hit (by rw [size_mk]; exact hlt)
      have hpe : pieces l [] = if ls.length = 3 then some (ls, [], false) else none := by
        rw [← hp, List.drop_eq_nil_of_le (by omega)]; rfl
      have HE := Lib.hid hpe
      rcases hown.form with ⟨rfl, rfl⟩ | ⟨g, cap, rfl, hg1, hg2, hcap⟩
      · clear hp hs hown hit hpe hu
        go_wp2_with fail
        refine bodyPost_ret (results_tmp4 rfl _ _ _) rfl ⟨HU.out, ?_⟩
        rw [HE.out]
        exact ⟨_, _, _, rfl⟩
      · by_cases hl3 : ls.length = 3
        · clear hp hs hown hit hpe hu
          have H3 := Lib.hid hl3
          rw [if_pos hl3] at HE
          rw [hl3]
          clear hl3 hcap
          go_wp2_with fail
          refine bodyPost_ret (results_tmp4 rfl _ _ _) rfl ⟨HU.out, ?_⟩
          rw [HE.out]
          refine ⟨_, rfl, ?_⟩
          have ho2 := HO.out
          unfold OwnS at ho2 ⊢
          rw [H3.out] at ho2 ⊢
          exact own_base (by omega) ho2
        · have hb : ((ls.length : Int) == 3) = false := by rw [beq_eq_false_iff_ne]; omega
          clear hp hs hown hit hpe hu
          go_wp2_with fail
          refine bodyPost_ret (results_tmp4 rfl _ _ _) rfl ⟨HU.out, ?_⟩
          rw [HE.out, if_neg hl3]
          exact ⟨_, _, _, rfl⟩
end Go.Proofs.YtcfmidmokciofaaGreatDoor
/- A world in which some blocks alone have turned. -/
namespace Go.Proofs.YtcfmidmokciofaaGreatDoor
open Go.RowKit Go.Gz
structure Tw (S : List Nat) (w w' : World) : Prop where
  os : w'.os = w.os
  tape : w'.tape = w.tape
  output : w'.output = w.output
  size : w.heap.size ≤ w'.heap.size
  block : ∀ q, q < w.heap.size → q ∉ S → w'.heap[q]? = w.heap[q]?
theorem Tw.refl (S : List Nat) (w : World) : Tw S w w := ⟨rfl, rfl, rfl, Nat.le_refl _, fun _ _ _ => rfl⟩
theorem Tw.trans {S : List Nat} {a b c : World} (h : Tw S a b) (k : Tw S b c) : Tw S a c :=
  ⟨k.os.trans h.os, k.tape.trans h.tape, k.output.trans h.output, Nat.le_trans h.size k.size, fun q hq hn => (k.block q (Nat.lt_of_lt_of_le hq h.size) hn).trans (h.block q hq hn)⟩
theorem Tw.mono {S T : List Nat} {a b : World} (h : Tw S a b) (hs : ∀ q ∈ S, q ∈ T) : Tw T a b :=
  ⟨h.os, h.tape, h.output, h.size, fun q hq hn => h.block q hq (fun e => hn (hs q e))⟩
theorem Tw.grown {S : List Nat} {a b : World} {m : Nat} (g : a.grownBy b (some m)) (hm : m ∈ S) : Tw S a b :=
  ⟨g.os, g.tape, g.output, g.size, fun q hq hn => g.block q hq (by simp only [ne_eq, Option.some.injEq]; intro e; exact hn (by rw [e]; exact hm))⟩
theorem Tw.set {S : List Nat} {a b : World} (h : Tw S a b) {B : Nat} (hB : B ∈ S) (o : Nat) (v : Value) : Tw S a (b.setCell ⟨B, o, none⟩ v) :=
  ⟨h.os, h.tape, h.output, by simpa using h.size, fun q hq hn => (heap_setCell_other _ _ _ _ (fun e => hn (by rw [show q = B from e]; exact hB))).trans (h.block q hq hn)⟩
theorem Tw.alloc {S : List Nat} {a b : World} (h : Tw S a b) (o : Obj) : Tw S a (b.alloc o) :=
  ⟨h.os, h.tape, h.output, Nat.le_trans h.size ((Up.refl b).alloc o).size, fun q hq hn => ((((Up.refl b).alloc o)).block (Nat.lt_of_lt_of_le hq h.size)).trans (h.block q hq hn)⟩
theorem Tw.drew {S : List Nat} {a b : World} (h : Tw S a b) : Tw S a b.drew :=
  ⟨h.os, h.tape, h.output, h.size, h.block⟩
theorem Tw.up {S : List Nat} {a b : World} (h : Up a b) : Tw S a b := ⟨h.os, h.tape, h.output, h.size, fun _ hq _ => h.block hq⟩
theorem Up.tw {S : List Nat} {w a b : World} (h : Up w a) (t : Tw S a b) (hS : ∀ q ∈ S, w.heap.size ≤ q) : Up w b :=
  ⟨t.os.trans h.os, t.tape.trans h.tape, t.output.trans h.output, Nat.le_trans h.size t.size, fun k hk => (t.block k (Nat.lt_of_lt_of_le hk h.le) (fun e => by have := hS k e; omega)).trans (h.block hk)⟩
theorem Tw.obj {S : List Nat} {a b : World} (h : Tw S a b) {k : Nat} {o : Obj} (hk : a.heap[k]? = some o) (hn : k ∉ S) : b.heap[k]? = some o := by
  rw [h.block k (Array.getElem?_eq_some_iff.1 hk).1 hn]; exact hk
end Go.Proofs.YtcfmidmokciofaaGreatDoor
/- Walks: the curve (curve.Side, quarters, number, turn, Place). -/
namespace Go.Proofs.YtcfmidmokciofaaGreatDoor
open Go.RowKit Go.Gz

set_option maxHeartbeats 400000 in
theorem side_any (z : Int) (w : World) :
    Calls Tryz.prog 172 #[.int .i64 z] w fun e w' => e = .returned (.int .i64 (sideV z)) ∧ w = w' := by
  by_cases h0 : z < 0
  · have hs : sideV z = 0 := by unfold sideV; rw [if_neg (by omega)]
    rw [hs]
    clear hs
    go_enter Tryz.func172, Tryz.ntmps172
    go_wp2
    go_ret
    exact ⟨rfl, rfl⟩
  by_cases h1 : 26 < z
  · have hs : sideV z = 0 := by unfold sideV; rw [if_neg (by omega)]
    rw [hs]
    clear hs
    go_enter Tryz.func172, Tryz.ntmps172
    go_wp2
    go_ret
    exact ⟨rfl, rfl⟩
  · have hs : sideV z = ((2 ^ z.toNat : Nat) : Int) := by unfold sideV; rw [if_pos (by omega)]
    have hp := two_pow_le26 (z := z.toNat) (by omega)
    have hw : wrap64 (2 ^ z.toNat) = ((2 ^ z.toNat : Nat) : Int) := by
      have e : ((2 : Int) ^ z.toNat) = ((2 ^ z.toNat : Nat) : Int) := by simp
      rw [e]; generalize 2 ^ z.toNat = p at hp; unfold wrap64; omega
    rw [hs]
    have HW := Lib.hid hw
    clear hs hp hw
    go_enter Tryz.func172, Tryz.ntmps172
    go_wp2
    go_ret
    exact ⟨ret_int HW.out, rfl⟩

def quartersV : Value := .agg #[.int .u64 0, .int .u64 0, .bool true, .bool false, .int .u64 0, .int .u64 1, .bool false, .bool false, .int .u64 1, .int .u64 1, .bool false, .bool false, .int .u64 1, .int .u64 0, .bool true, .bool true]
set_option maxHeartbeats 400000 in
theorem quarters_any (w : World) :
    Calls Tryz.prog 173 #[] w fun e w' => e = .returned quartersV ∧ Up w w' := by
  go_enter Tryz.func173, Tryz.ntmps173
  go_wp2
  exact bodyPost_ret (v := quartersV) (by simp [results, Tryz.results173, go_sem, quartersV]) rfl ⟨rfl, (Up.refl w).alloc _⟩

/-- the quarter of two binary digits -/
def quadN (x y : Nat) : Nat := if x = 0 then (if y = 0 then 0 else 1) else (if y = 0 then 3 else 2)
set_option maxHeartbeats 400000 in
theorem qnumber_any (x y : Nat) (hx : x < 2) (hy : y < 2) (w : World) :
    Calls Tryz.prog 174 #[.int .u64 x, .int .u64 y] w fun e w' => e = .returned (.int .u64 (quadN x y)) ∧ Up w w' := by
  obtain rfl | rfl : x = 0 ∨ x = 1 := by omega
  all_goals
    obtain rfl | rfl : y = 0 ∨ y = 1 := by omega
    all_goals
      go_enter Tryz.func174, Tryz.ntmps174
      go_wp2
      go_ret
      exact ⟨rfl, (Up.refl w).alloc _⟩

theorem number_i (x y : Nat) (X Y K : Int) (hX : X = x) (hY : Y = y) (hK : (quadN x y : Int) = K) (hx : x < 2) (hy : y < 2) (w : World) :
    Calls Tryz.prog 174 #[.int .u64 X, .int .u64 Y] w fun e w' => e = .returned (.int .u64 K) ∧ Up w w' := by
  subst hX hY hK; exact qnumber_any x y hx hy w
set_option maxHeartbeats 1000000 in
theorem turn_any (qx qy : Int) (sw mi : Bool) (x y m : Nat) (hx : x < 18446744073709551616) (hy : y < 18446744073709551616) (hm : m ≤ 26) (w : World) :
    Calls Tryz.prog 175 #[.agg #[.int .u64 qx, .int .u64 qy, .bool sw, .bool mi], .int .u64 x, .int .u64 y, .int .i64 m] w
      fun e w' => e = .returned (.tuple #[.int .u64 (turnX sw mi m x y), .int .u64 (turnY sw mi m x y)]) ∧ Up w w' := by
  have hp := two_pow_le26 hm
  have hp0 : 1 ≤ 2 ^ m := Nat.two_pow_pos m
  have ex := and_low x m hx hm
  have ey := and_low y m hy hm
  have lx := Nat.mod_lt x hp0
  have ly := Nat.mod_lt y hp0
  have ep : IntKind.u64.wrap (2 ^ m) = ((2 ^ m : Nat) : Int) := by
    have e : ((2 : Int) ^ m) = ((2 ^ m : Nat) : Int) := by simp
    rw [e, IntKind.wrap_u64]; omega
  generalize hP : 2 ^ m = P at *
  generalize hxr : x % P = xr at *
  generalize hyr : y % P = yr at *
  have HP := Lib.hid hP
  have HX := Lib.hid hxr
  have HY := Lib.hid hyr
  clear hP hxr hyr
  cases sw
  all_goals
    cases mi
    all_goals
      go_enter Tryz.func175, Tryz.ntmps175
      go_wp2
      go_ret2
      refine ⟨ret_two (int_eq ?_) (int_eq ?_), (Up.refl w).alloc _⟩ <;> (simp only [turnX, turnY, HP.out, HX.out, HY.out, if_true, if_false, Bool.false_eq_true]; try omega)
theorem turn_i (qx qy : Int) (sw mi : Bool) (x y m : Nat) (tx ty : Nat) (h1 : turnX sw mi m x y = tx) (h2 : turnY sw mi m x y = ty) (hx : x < 18446744073709551616) (hy : y < 18446744073709551616) (hm : m ≤ 26) (w : World) :
    Calls Tryz.prog 175 #[.agg #[.int .u64 qx, .int .u64 qy, .bool sw, .bool mi], .int .u64 x, .int .u64 y, .int .i64 m] w
      fun e w' => e = .returned (.tuple #[.int .u64 tx, .int .u64 ty]) ∧ Up w w' := by
  subst h1 h2; exact turn_any qx qy sw mi x y m hx hy hm w
end Go.Proofs.YtcfmidmokciofaaGreatDoor
/- Walk: curve.Place. -/
namespace Go.Proofs.YtcfmidmokciofaaGreatDoor
open Go.RowKit Go.Gz

def quartersA : Array Value := #[.int .u64 0, .int .u64 0, .bool true, .bool false, .int .u64 0, .int .u64 1, .bool false, .bool false, .int .u64 1, .int .u64 1, .bool false, .bool false, .int .u64 1, .int .u64 0, .bool true, .bool true]
/-- what the loop holds when gk digits are to come -/
def PRel (w : World) (z B H : Nat) (gk : Nat) (a b d i : Value) (wr : World) : Prop := ∃ x y dd k : Nat, k + gk = z ∧ i = .int .i64 k ∧ a = .int .u64 x ∧ b = .int .u64 y ∧ d = .int .u64 dd ∧ x < 2 ^ gk ∧ y < 2 ^ gk ∧
  dd * 4 ^ gk + hil gk x y = H ∧ Up w wr ∧ w.heap.size ≤ B ∧ wr.heap[B]? = some (.cells quartersA 281 (0, 0))
set_option maxHeartbeats 4000000 in
theorem place_ok (z x y : Nat) (hz : z ≤ 26) (hx : x < 2 ^ z) (hy : y < 2 ^ z) (w : World) :
    Calls Tryz.prog 114 #[.int .i64 z, .int .i64 x, .int .i64 y] w fun e w' => e = .returned (.tuple #[.int .u64 (hil z x y), .int .i64 0]) ∧ Up w w' := by
  have hp := two_pow_le26 hz
  have hp0 : 1 ≤ 2 ^ z := Nat.two_pow_pos z
  have hs : sideV z = ((2 ^ z : Nat) : Int) := by unfold sideV; rw [if_pos (by omega)]; simp
  have HL := Lib.hid (Nat.lt_of_lt_of_le (hil_lt z x y hx hy) (four_pow_le27 (z := z) (by omega)))
  generalize hH : hil z x y = H at *
  have HH := Lib.hid hH
  have HX := Lib.hid hx
  have HY := Lib.hid hy
  clear hH
  generalize hP : 2 ^ z = P at hp hp0 hs hx hy
  have HP := Lib.hid hP
  clear hP
  have hx' : (x : Int) < P := by omega
  have hy' : (y : Int) < P := by omega
  have hb : ((P : Int) == 0) = false := by rw [beq_eq_false_iff_ne]; omega
  have S := fun w => Lib.hid (side_any z w)
  rw [hs] at S
  clear hs
  go_enter Tryz.func114, Tryz.ntmps114
  go_wp2_with (first | (go_at_call 172; refine (S _).out.mono ?_; rintro e w1 ⟨rfl, rfl⟩) | (go_at_call 173; refine (quarters_any _).mono ?_; rintro e w1 ⟨rfl, hu1⟩; unfold quartersV))
  go_loopg [10, 11, 12, 44] z (fun gk a b d i wr => PRel w z w1.heap.size H gk a b d i wr)
  case atStart => exact ⟨x, y, 0, 0, by omega, rfl, rfl, rfl, rfl, HX.out, HY.out, by rw [HH.out]; omega, hu1.alloc _, hu1.le, heap_alloc_new _ _⟩
  case round =>
    obtain ⟨x, y, dd, k, hk, rfl, rfl, rfl, rfl, hx1, hy1, hh, hu, hle, hblk⟩ := hrel
    by_cases hg : gk = 0
    · subst hg
      obtain rfl : k = z := by omega
      have HHH := Lib.hid hh
      clear hh hblk
      go_wp2_with fail
      go_ret2
      have hh := HHH.out
      simp only [hil, Nat.pow_zero, Nat.mul_one, Nat.add_zero] at hh
      exact ⟨ret_two (int_eq (by omega)) rfl, hu⟩
    · obtain ⟨m, rfl⟩ : ∃ m, gk = m + 1 := ⟨gk - 1, by omega⟩
      have hm : m ≤ 26 := by omega
      have hd : (z : Int) - 1 - (k : Int) = (m : Int) := by omega
      have h2 : 2 ^ (m + 1) = 2 * 2 ^ m := by rw [Nat.pow_succ]; omega
      have bx := bit_at x m (by omega) hm
      have by' := bit_at y m (by omega) hm
      have XL := Lib.hid hx1
      have YL := Lib.hid hy1
      have HHH := Lib.hid hh
      have HB := Lib.hid hblk
      have ML := Lib.hid hm
      have hddle : dd ≤ 18014398509481984 := by
        have := HL.out
        have h4 : 1 ≤ 4 ^ (m + 1) := Nat.pos_of_ne_zero (by simp)
        have := Nat.mul_le_mul_left dd h4
        omega
      clear h2 hx1 hy1 hh hblk hm hg
      by_cases hX : 2 ^ m ≤ x
      · by_cases hY : 2 ^ m ≤ y
        · have hxb : bits BinOp.and IntKind.u64 ((x : Int) / 2 ^ m) 1 = 1 := by rw [bx, if_pos hX]
          have hyb : bits BinOp.and IntKind.u64 ((y : Int) / 2 ^ m) 1 = 1 := by rw [by', if_pos hY]
          obtain ⟨nd, hnd⟩ : ∃ nd : Nat, nd = 4 * dd + 2 := ⟨_, rfl⟩
          have hor : bits BinOp.or IntKind.u64 ((dd : Int) * 4) 2 = (nd : Int) := by rw [hnd]; exact or_two' dd 2 (by omega) (by omega)
          have A := fun w => Lib.hid (number_i 1 1 1 1 2 rfl rfl rfl (by omega) (by omega) w)
          have T := fun qx qy w => Lib.hid (turn_any qx qy false false x y m (by have := XL.out; have := two_pow_le26 ML.out; rw [Nat.pow_succ] at *; omega) (by have := YL.out; have := two_pow_le26 ML.out; rw [Nat.pow_succ] at *; omega) ML.out w)
          have HX := Lib.hid hX
          have HY := Lib.hid hY
          have ST := Lib.hid (step11 HX.out (by have := XL.out; rw [Nat.pow_succ] at this; omega) HY.out (by have := YL.out; rw [Nat.pow_succ] at this; omega))
          have LX := Lib.hid (turnX_lt false false m x y)
          have LY := Lib.hid (turnY_lt false false m x y)
          generalize turnX false false m x y = tx at T ST LX
          generalize turnY false false m x y = ty at T ST LY
          have ND := Lib.hid hnd
          clear hX hY bx by' hnd
          go_wp2_with fail
          go_region_held3 (fun w' => Up w w' ∧ w'.heap[w1.heap.size]? = some (.cells quartersA 281 (0, 0))) (first | exact ⟨hu.drew, HB.out⟩ | exact ⟨(hu.drew).trans hu3, hu3.obj HB.out⟩) (first | (go_at_call 174; refine (A _).out.mono ?_; rintro e w3 ⟨rfl, hu3⟩))
          have hu4 : Up w w3 := (hu.drew).trans hu3
          have hb4 := hu3.obj (k := w1.heap.size) HB.out
          have c0 : w3.cell? ⟨w1.heap.size, 8, none⟩ = some (.int .u64 1) := cell_of_row w3 w1.heap.size 8 quartersA _ _ hb4
          have c1 : w3.cell? ⟨w1.heap.size, 9, none⟩ = some (.int .u64 1) := cell_of_row w3 w1.heap.size 9 quartersA _ _ hb4
          have c2 : w3.cell? ⟨w1.heap.size, 10, none⟩ = some (.bool false) := cell_of_row w3 w1.heap.size 10 quartersA _ _ hb4
          have c3 : w3.cell? ⟨w1.heap.size, 11, none⟩ = some (.bool false) := cell_of_row w3 w1.heap.size 11 quartersA _ _ hb4
          have HB4 := Lib.hid hb4
          clear hb4
          go_wp2_with fail
          refine (T _ _ _).out.mono ?_
          rintro e w5 ⟨rfl, hu5⟩
          go_wp2_with fail
          go_roundg m
          case measure => omega
          case rel => exact ⟨tx, ty, nd, k + 1, by omega, by go_num, rfl, rfl, rfl, LX.out, LY.out, by rw [ND.out]; exact acc_step (by rw [← ST.out]; exact HHH.out), hu4.trans hu5, hle, hu5.obj HB4.out⟩
        · have hxb : bits BinOp.and IntKind.u64 ((x : Int) / 2 ^ m) 1 = 1 := by rw [bx, if_pos hX]
          have hyb : bits BinOp.and IntKind.u64 ((y : Int) / 2 ^ m) 1 = 0 := by rw [by', if_neg hY]
          obtain ⟨nd, hnd⟩ : ∃ nd : Nat, nd = 4 * dd + 3 := ⟨_, rfl⟩
          have hor : bits BinOp.or IntKind.u64 ((dd : Int) * 4) 3 = (nd : Int) := by rw [hnd]; exact or_two' dd 3 (by omega) (by omega)
          have A := fun w => Lib.hid (number_i 1 0 1 0 3 rfl rfl rfl (by omega) (by omega) w)
          have T := fun qx qy w => Lib.hid (turn_any qx qy true true x y m (by have := XL.out; have := two_pow_le26 ML.out; rw [Nat.pow_succ] at *; omega) (by have := YL.out; have := two_pow_le26 ML.out; rw [Nat.pow_succ] at *; omega) ML.out w)
          have HX := Lib.hid hX
          have HY := Lib.hid hY
          have ST := Lib.hid (step10 HX.out (by have := XL.out; rw [Nat.pow_succ] at this; omega) HY.out)
          have LX := Lib.hid (turnX_lt true true m x y)
          have LY := Lib.hid (turnY_lt true true m x y)
          generalize turnX true true m x y = tx at T ST LX
          generalize turnY true true m x y = ty at T ST LY
          have ND := Lib.hid hnd
          clear hX hY bx by' hnd
          go_wp2_with fail
          go_region_held3 (fun w' => Up w w' ∧ w'.heap[w1.heap.size]? = some (.cells quartersA 281 (0, 0))) (first | exact ⟨hu.drew, HB.out⟩ | exact ⟨(hu.drew).trans hu3, hu3.obj HB.out⟩) (first | (go_at_call 174; refine (A _).out.mono ?_; rintro e w3 ⟨rfl, hu3⟩))
          have hu4 : Up w w3 := (hu.drew).trans hu3
          have hb4 := hu3.obj (k := w1.heap.size) HB.out
          have c0 : w3.cell? ⟨w1.heap.size, 12, none⟩ = some (.int .u64 1) := cell_of_row w3 w1.heap.size 12 quartersA _ _ hb4
          have c1 : w3.cell? ⟨w1.heap.size, 13, none⟩ = some (.int .u64 0) := cell_of_row w3 w1.heap.size 13 quartersA _ _ hb4
          have c2 : w3.cell? ⟨w1.heap.size, 14, none⟩ = some (.bool true) := cell_of_row w3 w1.heap.size 14 quartersA _ _ hb4
          have c3 : w3.cell? ⟨w1.heap.size, 15, none⟩ = some (.bool true) := cell_of_row w3 w1.heap.size 15 quartersA _ _ hb4
          have HB4 := Lib.hid hb4
          clear hb4
          go_wp2_with fail
          refine (T _ _ _).out.mono ?_
          rintro e w5 ⟨rfl, hu5⟩
          go_wp2_with fail
          go_roundg m
          case measure => omega
          case rel => exact ⟨tx, ty, nd, k + 1, by omega, by go_num, rfl, rfl, rfl, LX.out, LY.out, by rw [ND.out]; exact acc_step (by rw [← ST.out]; exact HHH.out), hu4.trans hu5, hle, hu5.obj HB4.out⟩
      · by_cases hY : 2 ^ m ≤ y
        · have hxb : bits BinOp.and IntKind.u64 ((x : Int) / 2 ^ m) 1 = 0 := by rw [bx, if_neg hX]
          have hyb : bits BinOp.and IntKind.u64 ((y : Int) / 2 ^ m) 1 = 1 := by rw [by', if_pos hY]
          obtain ⟨nd, hnd⟩ : ∃ nd : Nat, nd = 4 * dd + 1 := ⟨_, rfl⟩
          have hor : bits BinOp.or IntKind.u64 ((dd : Int) * 4) 1 = (nd : Int) := by rw [hnd]; exact or_two' dd 1 (by omega) (by omega)
          have A := fun w => Lib.hid (number_i 0 1 0 1 1 rfl rfl rfl (by omega) (by omega) w)
          have T := fun qx qy w => Lib.hid (turn_any qx qy false false x y m (by have := XL.out; have := two_pow_le26 ML.out; rw [Nat.pow_succ] at *; omega) (by have := YL.out; have := two_pow_le26 ML.out; rw [Nat.pow_succ] at *; omega) ML.out w)
          have HX := Lib.hid hX
          have HY := Lib.hid hY
          have ST := Lib.hid (step01 HX.out HY.out (by have := YL.out; rw [Nat.pow_succ] at this; omega))
          have LX := Lib.hid (turnX_lt false false m x y)
          have LY := Lib.hid (turnY_lt false false m x y)
          generalize turnX false false m x y = tx at T ST LX
          generalize turnY false false m x y = ty at T ST LY
          have ND := Lib.hid hnd
          clear hX hY bx by' hnd
          go_wp2_with fail
          go_region_held3 (fun w' => Up w w' ∧ w'.heap[w1.heap.size]? = some (.cells quartersA 281 (0, 0))) (first | exact ⟨hu.drew, HB.out⟩ | exact ⟨(hu.drew).trans hu3, hu3.obj HB.out⟩) (first | (go_at_call 174; refine (A _).out.mono ?_; rintro e w3 ⟨rfl, hu3⟩))
          have hu4 : Up w w3 := (hu.drew).trans hu3
          have hb4 := hu3.obj (k := w1.heap.size) HB.out
          have c0 : w3.cell? ⟨w1.heap.size, 4, none⟩ = some (.int .u64 0) := cell_of_row w3 w1.heap.size 4 quartersA _ _ hb4
          have c1 : w3.cell? ⟨w1.heap.size, 5, none⟩ = some (.int .u64 1) := cell_of_row w3 w1.heap.size 5 quartersA _ _ hb4
          have c2 : w3.cell? ⟨w1.heap.size, 6, none⟩ = some (.bool false) := cell_of_row w3 w1.heap.size 6 quartersA _ _ hb4
          have c3 : w3.cell? ⟨w1.heap.size, 7, none⟩ = some (.bool false) := cell_of_row w3 w1.heap.size 7 quartersA _ _ hb4
          have HB4 := Lib.hid hb4
          clear hb4
          go_wp2_with fail
          refine (T _ _ _).out.mono ?_
          rintro e w5 ⟨rfl, hu5⟩
          go_wp2_with fail
          go_roundg m
          case measure => omega
          case rel => exact ⟨tx, ty, nd, k + 1, by omega, by go_num, rfl, rfl, rfl, LX.out, LY.out, by rw [ND.out]; exact acc_step (by rw [← ST.out]; exact HHH.out), hu4.trans hu5, hle, hu5.obj HB4.out⟩
        · have hxb : bits BinOp.and IntKind.u64 ((x : Int) / 2 ^ m) 1 = 0 := by rw [bx, if_neg hX]
          have hyb : bits BinOp.and IntKind.u64 ((y : Int) / 2 ^ m) 1 = 0 := by rw [by', if_neg hY]
          obtain ⟨nd, hnd⟩ : ∃ nd : Nat, nd = 4 * dd + 0 := ⟨_, rfl⟩
          have hor : bits BinOp.or IntKind.u64 ((dd : Int) * 4) 0 = (nd : Int) := by rw [hnd]; exact or_two' dd 0 (by omega) (by omega)
          have A := fun w => Lib.hid (number_i 0 0 0 0 0 rfl rfl rfl (by omega) (by omega) w)
          have T := fun qx qy w => Lib.hid (turn_any qx qy true false x y m (by have := XL.out; have := two_pow_le26 ML.out; rw [Nat.pow_succ] at *; omega) (by have := YL.out; have := two_pow_le26 ML.out; rw [Nat.pow_succ] at *; omega) ML.out w)
          have HX := Lib.hid hX
          have HY := Lib.hid hY
          have ST := Lib.hid (step00 HX.out HY.out)
          have LX := Lib.hid (turnX_lt true false m x y)
          have LY := Lib.hid (turnY_lt true false m x y)
          generalize turnX true false m x y = tx at T ST LX
          generalize turnY true false m x y = ty at T ST LY
          have ND := Lib.hid hnd
          clear hX hY bx by' hnd
          go_wp2_with fail
          go_region_held3 (fun w' => Up w w' ∧ w'.heap[w1.heap.size]? = some (.cells quartersA 281 (0, 0))) (first | exact ⟨hu.drew, HB.out⟩ | exact ⟨(hu.drew).trans hu3, hu3.obj HB.out⟩) (first | (go_at_call 174; refine (A _).out.mono ?_; rintro e w3 ⟨rfl, hu3⟩))
          have hu4 : Up w w3 := (hu.drew).trans hu3
          have hb4 := hu3.obj (k := w1.heap.size) HB.out
          have c0 : w3.cell? ⟨w1.heap.size, 0, none⟩ = some (.int .u64 0) := cell_of_row w3 w1.heap.size 0 quartersA _ _ hb4
          have c1 : w3.cell? ⟨w1.heap.size, 1, none⟩ = some (.int .u64 0) := cell_of_row w3 w1.heap.size 1 quartersA _ _ hb4
          have c2 : w3.cell? ⟨w1.heap.size, 2, none⟩ = some (.bool true) := cell_of_row w3 w1.heap.size 2 quartersA _ _ hb4
          have c3 : w3.cell? ⟨w1.heap.size, 3, none⟩ = some (.bool false) := cell_of_row w3 w1.heap.size 3 quartersA _ _ hb4
          have HB4 := Lib.hid hb4
          clear hb4
          go_wp2_with fail
          refine (T _ _ _).out.mono ?_
          rintro e w5 ⟨rfl, hu5⟩
          go_wp2_with fail
          go_roundg m
          case measure => omega
          case rel => exact ⟨tx, ty, nd, k + 1, by omega, by go_num, rfl, rfl, rfl, LX.out, LY.out, by rw [ND.out]; exact acc_step (by rw [← ST.out]; exact HHH.out), hu4.trans hu5, hle, hu5.obj HB4.out⟩
end Go.Proofs.YtcfmidmokciofaaGreatDoor
/- Walks: curve.Place at all, tileid.base, tileid.ID. -/
namespace Go.Proofs.YtcfmidmokciofaaGreatDoor
open Go.RowKit Go.Gz

set_option maxHeartbeats 1000000 in
theorem place_any (z x y : Int) (w : World) :
    Calls Tryz.prog 114 #[.int .i64 z, .int .i64 x, .int .i64 y] w fun e w' => e = .returned (.tuple #[.int .u64 (placeV z x y), .int .i64 (placeE z x y)]) ∧ Up w w' := by
  by_cases hz : z < 0 ∨ 26 < z
  · have hs : sideV z = 0 := by unfold sideV; rw [if_neg (by omega)]
    have hE : placeE z x y = 2 := by unfold placeE; rw [if_pos hz]
    have hV : placeV z x y = 0 := by unfold placeV; rw [hE]; rfl
    have S := fun w => Lib.hid (side_any z w)
    rw [hs] at S
    rw [hE, hV]
    clear hs hE hV hz
    go_enter Tryz.func114, Tryz.ntmps114
    go_wp2_with (first | (go_at_call 172; refine (S _).out.mono ?_; rintro e w1 ⟨rfl, rfl⟩))
    go_ret2
    exact ⟨rfl, Up.refl _⟩
  obtain ⟨zn, rfl⟩ : ∃ n : Nat, z = n := ⟨z.toNat, by omega⟩
  have hz26 : zn ≤ 26 := by omega
  by_cases hr : x < 0 ∨ y < 0 ∨ ((2 ^ zn : Nat) : Int) ≤ x ∨ ((2 ^ zn : Nat) : Int) ≤ y
  · have hp := two_pow_le26 hz26
    have hp0 : 1 ≤ 2 ^ zn := Nat.two_pow_pos zn
    have hs : sideV zn = ((2 ^ zn : Nat) : Int) := by unfold sideV; rw [if_pos (by omega)]; simp
    have hE : placeE zn x y = 8 := by unfold placeE; rw [if_neg hz, Int.toNat_natCast, if_pos hr]
    have hV : placeV zn x y = 0 := by unfold placeV; rw [hE]; rfl
    have S := fun w => Lib.hid (side_any zn w)
    rw [hs] at S
    rw [hE, hV]
    clear hs hE hV hz
    generalize 2 ^ zn = P at *
    have hb : ((P : Int) == 0) = false := by rw [beq_eq_false_iff_ne]; omega
    by_cases h1 : x < 0
    · clear hr
      go_enter Tryz.func114, Tryz.ntmps114
      go_wp2_with (first | (go_at_call 172; refine (S _).out.mono ?_; rintro e w1 ⟨rfl, rfl⟩))
      go_ret2
      exact ⟨rfl, Up.refl _⟩
    by_cases h2 : y < 0
    · clear hr
      go_enter Tryz.func114, Tryz.ntmps114
      go_wp2_with (first | (go_at_call 172; refine (S _).out.mono ?_; rintro e w1 ⟨rfl, rfl⟩))
      go_ret2
      exact ⟨rfl, Up.refl _⟩
    by_cases h3 : (P : Int) ≤ x
    · clear hr
      go_enter Tryz.func114, Tryz.ntmps114
      go_wp2_with (first | (go_at_call 172; refine (S _).out.mono ?_; rintro e w1 ⟨rfl, rfl⟩))
      go_ret2
      exact ⟨rfl, Up.refl _⟩
    have h4 : (P : Int) ≤ y := by omega
    clear hr
    go_enter Tryz.func114, Tryz.ntmps114
    go_wp2_with (first | (go_at_call 172; refine (S _).out.mono ?_; rintro e w1 ⟨rfl, rfl⟩))
    go_ret2
    exact ⟨rfl, Up.refl _⟩
  · obtain ⟨xn, rfl⟩ : ∃ n : Nat, x = n := ⟨x.toNat, by omega⟩
    obtain ⟨yn, rfl⟩ : ∃ n : Nat, y = n := ⟨y.toNat, by omega⟩
    have hE : placeE zn xn yn = 0 := by unfold placeE; rw [if_neg hz, Int.toNat_natCast, if_neg hr]
    have hV : placeV zn xn yn = hil zn xn yn := by unfold placeV; rw [if_pos hE]; simp
    rw [hE, hV]
    exact place_ok zn xn yn hz26 (by omega) (by omega) w

set_option maxHeartbeats 400000 in
theorem base_any (z : Nat) (hz : z ≤ 27) (w : World) :
    Calls Tryz.prog 115 #[.int .i64 z] w fun e w' => e = .returned (.int .u64 (baseN z)) ∧ w = w' := by
  have h4 := four_pow_le27 hz
  have hb := baseN_eq z
  have hw : IntKind.u64.wrap (2 ^ (2 * z)) = ((4 ^ z : Nat) : Int) := by
    have e : ((2 : Int) ^ (2 * z)) = ((4 ^ z : Nat) : Int) := by rw [Int.pow_mul]; simp
    rw [e, IntKind.wrap_u64]; generalize 4 ^ z = p at *; omega
  generalize 4 ^ z = p at *
  generalize baseN z = q at *
  have HB := Lib.hid hb
  clear hb
  have h1 : 1 ≤ p := by have := HB.out; omega
  go_enter Tryz.func115, Tryz.ntmps115
  go_wp2
  go_ret
  exact ⟨ret_int (by have := HB.out; omega), rfl⟩

theorem idV_bad {z x y : Int} (h : placeE z x y ≠ 0) : idV z x y = 0 := by unfold idV; rw [if_neg h]
theorem placeV_bad {z x y : Int} (h : placeE z x y ≠ 0) : placeV z x y = 0 := by unfold placeV; rw [if_neg h]
theorem place_good {z x y : Int} (h : placeE z x y = 0) : 0 ≤ z ∧ z ≤ 26 ∧ 0 ≤ x ∧ 0 ≤ y ∧ x < (2 ^ z.toNat : Nat) ∧ y < (2 ^ z.toNat : Nat) := by
  unfold placeE at h
  split at h
  · simp at h
  · split at h
    · simp at h
    · omega
theorem placeV_lt (z x y : Int) : placeV z x y < 18014398509481984 := by
  by_cases h : placeE z x y = 0
  · obtain ⟨h1, h2, h3, h4, h5, h6⟩ := place_good h
    unfold placeV; rw [if_pos h]
    exact Nat.lt_of_lt_of_le (hil_lt z.toNat x.toNat y.toNat (by omega) (by omega)) (four_pow_le27 (by omega))
  · rw [placeV_bad h]; omega
theorem idV_eq {z x y : Int} (h : placeE z x y = 0) : idV z x y = baseN z.toNat + placeV z x y := by unfold idV placeV; rw [if_pos h, if_pos h]
set_option maxHeartbeats 400000 in
theorem id_any (z x y : Int) (w : World) :
    Calls Tryz.prog 61 #[.agg #[.int .i64 z, .int .i64 x, .int .i64 y]] w fun e w' => e = .returned (.tuple #[.int .u64 (idV z x y), .int .i64 (placeE z x y)]) ∧ Up w w' := by
  have A := fun w => Lib.hid (place_any z x y w)
  by_cases h : placeE z x y = 0
  · have hz := place_good h
    have hl := placeV_lt z x y
    have hI := idV_eq h
    rw [h] at A
    rw [h]
    obtain ⟨zn, rfl⟩ : ∃ n : Nat, z = n := ⟨z.toNat, by omega⟩
    simp only [Int.toNat_natCast] at hI
    have B := fun w => Lib.hid (base_any zn (by omega) w)
    have hb := baseN_eq zn
    have h4 := four_pow_le27 (z := zn) (by omega)
    have hbl : baseN zn < 18014398509481984 := by omega
    generalize baseN zn = bn at *
    generalize placeV zn x y = pv at *
    have HI := Lib.hid hI
    clear hI hb h4 hz h
    go_enter Tryz.func61, Tryz.ntmps61
    go_wp2_with (first | (go_at_call 114; refine (A _).out.mono ?_; rintro e w1 ⟨rfl, hu⟩; have hc1 := hu.cell (p := ⟨w.heap.size, 0, none⟩) (v := .int .i64 zn) (by simp)) | (go_at_call 115; refine (B _).out.mono ?_; rintro e w2 ⟨rfl, rfl⟩))
    go_ret2
    exact ⟨ret_two (int_eq (by rw [HI.out]; omega)) rfl, ((Up.refl w).alloc _).trans hu⟩
  · rw [idV_bad h]
    rw [placeV_bad h] at A
    have hb : (placeE z x y == 0) = false := by rw [beq_eq_false_iff_ne]; exact h
    have hb' : (placeE z x y != 0) = true := by rw [bne_iff_ne]; exact h
    generalize placeE z x y = pe at *
    clear h
    go_enter Tryz.func61, Tryz.ntmps61
    go_wp2_with (first | (go_at_call 114; refine (A _).out.mono ?_; rintro e w1 ⟨rfl, hu⟩))
    go_ret2
    exact ⟨rfl, ((Up.refl w).alloc _).trans hu⟩
end Go.Proofs.YtcfmidmokciofaaGreatDoor
