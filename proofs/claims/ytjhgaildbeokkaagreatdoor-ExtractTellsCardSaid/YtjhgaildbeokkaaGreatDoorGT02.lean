/- What all walks share: the world behind a call ('Up'), the facts on package-level variables ('Gl'). -/
import Derived.Test.YtjhgaildbeokkaaGreatDoorProg
import Derived.Test.YtjhgaildbeokkaaGreatDoorGT01
import Derived.WalkKit
import Derived.WalkSpells
import Derived.WalkLawsBesides
import Derived.WalkSmall
import Derived.Lib.Hide
import Derived.Lib.LaidTab
import Derived.Shelf.Unicode.DecodeSlow
import Derived.Deep.QuietTactic
import Derived.BigQuiet
import Derived.OrdersHeld
import Derived.Deep.RegionHeld
import Derived.Deep.RegionHeld3
import Derived.Deep.LoopGhost
import Derived.Sort.Grow
import Derived.IntWalk
import Derived.Deep.DeepCutAuto
namespace Go.Proofs.YtjhgaildbeokkaaGreatDoor
open Go.RowKit

/-- Of what was there nothing has turned. -/
def Up (w w' : World) : Prop := Below w.heap.size w w'
theorem Up.refl (w : World) : Up w w := Below.refl _ _
theorem Up.trans {a b c : World} (h : Up a b) (k : Up b c) : Up a c := Below.trans h (Below.mono k h.size)
theorem Up.drew {a b : World} (h : Up a b) : Up a b.drew := Below.drew h
theorem Up.drewN {a b : World} (h : Up a b) (n : Nat) : Up a (b.drewN n) := below_drewN h n
theorem Up.alloc {a b : World} (h : Up a b) (o : Obj) : Up a (b.alloc o) := Below.alloc h h.size o
theorem Up.set {a b : World} (h : Up a b) {p : Addr} (hp : a.heap.size ≤ p.block) (v : Value) : Up a (b.setCell p v) := Below.setCell h hp v
theorem Up.below {a b : World} (h : Up a b) : Below a.heap.size a b := h
theorem Up.of {a b : World} (h : Below a.heap.size a b) : Up a b := h
theorem Up.le {a b : World} (h : Up a b) : a.heap.size ≤ b.heap.size := h.size
theorem Up.cell {a b : World} (h : Up a b) {p : Addr} {v : Value} (hv : a.cell? p = some v) : b.cell? p = some v :=
  (Below.cell h (World.block_lt_of_cell? a p hv)).trans hv
theorem Up.cellq {a b : World} (h : Up a b) {p : Addr} (hp : p.block < a.heap.size) : b.cell? p = a.cell? p := Below.cell h hp
theorem Up.frozen {a b : World} (h : Up a b) {p : Addr} (hp : p.block < a.heap.size) : b.frozen? p = a.frozen? p := Below.frozen h hp
theorem Up.block {a b : World} (h : Up a b) {k : Nat} (hk : k < a.heap.size) : b.heap[k]? = a.heap[k]? := Below.block h k hk
theorem Up.obj {a b : World} (h : Up a b) {k : Nat} {o : Obj} (hk : a.heap[k]? = some o) : b.heap[k]? = some o := by
  rw [h.block (Array.getElem?_eq_some_iff.1 hk).1]; exact hk
theorem Up.grow {a b : World} (h : Up a b) (n : Nat) (os : Array Obj) : Up a (Go.Sort.grow (b.drewN n) os) :=
  h.trans ⟨rfl, rfl, rfl, by show b.heap.size ≤ (b.heap ++ os).size; rw [Array.size_append]; omega, fun k hk => by
    show (b.heap ++ os)[k]? = _
    rw [Array.getElem?_append_left hk]⟩

/-- What the package-level variables hold. -/
structure Gl (w : World) : Prop where
  pow10 : Lib.TabIs Tryz.prog w "internal/strconv.uint64pow10" .u64 Lib.pow10Tab
  errSyntax : ∃ tp p, w.var? Tryz.prog "strconv.ErrSyntax" = some #[.iface tp p]
  errRange : ∃ tp p, w.var? Tryz.prog "strconv.ErrRange" = some #[.iface tp p]
  utf8 : Lib.Utf8Tabs 1 2 w
theorem var_lt {P : Program} {w : World} {n : String} {g : Nat} {cs : Array Value} (hg : P.globalNamed n = some g) (h : w.var? P n = some cs) : g < w.heap.size := by
  unfold World.var? at h;simp only [hg, Option.bind_some] at h;rcases Nat.lt_or_ge g w.heap.size with h' | h'
  · exact h'
  · simp [Array.getElem?_eq_none h'] at h
theorem var_up {P : Program} {w w' : World} {n : String} {g : Nat} {cs : Array Value} (hg : P.globalNamed n = some g) (hu : Up w w') (h : w.var? P n = some cs) : w'.var? P n = some cs :=
  var?_below hu hg (var_lt hg h) h
theorem g_pow10 : Tryz.prog.globalNamed "internal/strconv.uint64pow10" = some 5 := by kernel_rfl
theorem g_syn : Tryz.prog.globalNamed "strconv.ErrSyntax" = some 3 := by kernel_rfl
theorem g_rng : Tryz.prog.globalNamed "strconv.ErrRange" = some 4 := by kernel_rfl
theorem Gl.up {w w' : World} (h : Gl w) (hu : Up w w') : Gl w' :=
  ⟨var_up g_pow10 hu h.pow10,
   let ⟨tp, p, e⟩ := h.errSyntax; ⟨tp, p, var_up g_syn hu e⟩,
   let ⟨tp, p, e⟩ := h.errRange; ⟨tp, p, var_up g_rng hu e⟩,
   ⟨fun c hc => hu.cell (h.utf8.1 c hc), fun i hi => ⟨hu.cell (h.utf8.2 i hi).1, hu.cell (h.utf8.2 i hi).2⟩⟩⟩
theorem Gl.drew {w : World} (h : Gl w) : Gl w.drew := h.up (Up.refl w).drew

/-- An equation of endings. -/
theorem ret_int {k : IntKind} {a b : Int} (h : a = b) : Ending.returned (.int k a) = .returned (.int k b) := by rw [h]
theorem ret_bool {a b : Bool} (h : a = b) : Ending.returned (.bool a) = .returned (.bool b) := by rw [h]
theorem ret_str {a b : List UInt8} (h : a = b) : Ending.returned (.string ⟨a.toArray⟩) = .returned (.string ⟨b.toArray⟩) := by rw [h]
theorem ret_two {a b c d : Value} (h : a = c) (k : b = d) : Ending.returned (.tuple #[a, b]) = .returned (.tuple #[c, d]) := by rw [h, k]
theorem ret_three {a b c d x y : Value} (h : a = c) (k : b = d) (l : x = y) : Ending.returned (.tuple #[a, b, x]) = .returned (.tuple #[c, d, y]) := by rw [h, k, l]
theorem str_eq {a b : List UInt8} (h : a = b) : Value.string ⟨a.toArray⟩ = .string ⟨b.toArray⟩ := by rw [h]
theorem int_eq {k : IntKind} {a b : Int} (h : a = b) : Value.int k a = .int k b := by rw [h]
theorem bool_eq {a b : Bool} (h : a = b) : Value.bool a = .bool b := by rw [h]
theorem mixed : Tryz.prog.follows .mixedOrders = true := by kernel_rfl

/-- 'append(s, x)' onto a slice of the call's own: x has just been laid. -/
theorem app_one {P : Program} (w : World) {ops : Array Oper} {rest : List Oper} {o : Oper} {a : Act} {Q : Exit → Act → World → Prop} (hgd : o.guard = none) (s x : Operand) (t : TypeId)
    (ho : o.op = .call { callee := .builtin .append, args := #[s, x], argTypes := #[t, t] })
    (base : Nat) (e : TypeId) (i : TypeInfo) (z : Value) (size bytes : Nat) (ht : P.underlying t = some (.slice e)) (hi : P.info? e = some i) (hz : i.zero = some z)
    (hsize : i.size = size) (hby : i.bytes = bytes) (hzs : z.cells.size = size) (hsz : 0 < size)
    (v : Value) (n : Nat) (xs : List Value) (hown : w.ownsRow base e size v n xs) (hs : a.eval s = v)
    (cs : Array Value) (hx : a.eval x = .slice (some ⟨w.heap.size, 0, none⟩) 1 1) (hcs : cs.size = size) (h1 : ∀ u ∈ cs.toList, u.oneCell' = true)
    (hn : n + 1 ≤ 1000000) (hb1 : bytes ≤ 1000) (hbase : base ≤ w.heap.size)
    (h : ∀ v' w', w'.ownsRow base e size v' (n + 1) (xs ++ cs.toList) → w.grownBy w' v.ownBlock → Below base w w' → wpList P ops Q rest (a.put o.dst v') w') :
    wpList P ops Q (o :: rest) a (w.alloc (.cells cs e)) := by
  have hle : (n + 1) * bytes ≤ 140737488355328 := by
    have := Nat.mul_le_mul hn hb1; omega
  refine wpList_append_own _ hgd s x t ho base e i z size bytes ht hi hz hsize hby hzs hsz v n xs hs (hown.alloc _) ⟨w.heap.size, 0, none⟩ 1 1 cs.toList hx (by simpa using hcs) ?_ h1 (by unfold maxLen; omega) hle (by simp; omega) ?_
  · intro j u hu;have hadd : (⟨w.heap.size, 0, none⟩ : Addr).add j = ⟨w.heap.size, j, none⟩ := by unfold Addr.add; split <;> simp_all
    rw [hadd, cell_of_row _ w.heap.size j cs e (0, 0) (heap_alloc_new w _)];simpa using hu
  · intro v' w' h2 h3 _;have hg : w.grownBy w' v.ownBlock := ⟨h3.os, h3.tape, h3.output, Nat.le_trans (by simp) h3.size, fun k hk hne => (h3.block k (by simp; omega) hne).trans (Below.heap_alloc w _ k hk)⟩;exact h v' w' h2 hg ((Below.refl base w).grown hg hbase (fun k hk => (hown.lt k hk).1))
theorem Up.base {a b c : World} {base : Nat} (h : Up a b) (hb : a.heap.size ≤ base) (k : Below base b c) : Up a c := Below.trans h (Below.mono k hb)
theorem tz1 {α : Type} (l : List α) (i : Nat) (a : α) : l.toArray.setIfInBounds i a = (l.set i a).toArray := List.setIfInBounds_toArray l i a
theorem tz2 {α : Type} {x : α} {xs : List α} {a : α} : (x :: xs).set 0 a = a :: xs := List.set_cons_zero
theorem tz3 {α : Type} {x : α} {xs : List α} {i : Nat} {a : α} : (x :: xs).set (i + 1) a = x :: xs.set i a := List.set_cons_succ
/-- taking an operation of a region that draws its order first: one that is not run, or one that is run -/
theorem tk {P : Program} {md : Region.Mode} {ops : Array Oper} {Q : Exit → Act → World → Prop} {S : World → Prop} (i : Nat) {d o t p af g} {v : Value} {fuel : Nat} {listed : Array Bool} {a : Act} {w : World} (hi : ops[i]? = some (Oper.mk d o t p af g))
    (h : wpAnyH P md ops Q S fuel (listed.setIfInBounds i true) (a.put d v) w)
    (hy : (Region.wanted (Oper.mk d o t p af g) (yielded ops a.tmps) = true ∧ ∀ w, S w → (execOp a.eval (Oper.mk d o t p af g)).run P w = .ok (.value v) w) ∨ (Region.wanted (Oper.mk d o t p af g) (yielded ops a.tmps) = false ∧ v = undef) := by first | exact Or.inr ⟨by rfl, rfl⟩ | (refine Or.inl ⟨by rfl, ?_⟩; intro w hSw; (try dsimp only at hSw); go_simp; first | done | with_reducible rfl))
    (hS : S w := by assumption) (hs : Region.noSelect ops = true := by kernel_rfl) (hf : Region.free md ops listed i = true := by kernel_rfl) (hr : (Region.ready md ops listed).contains i = true := by kernel_rfl)
    (hQ : ∀ c a w, Q (.panic c) (a.put d v) w → Q (.panic c) a w := by exact fun _ _ _ h => h) : wpAnyH P md ops Q S (fuel + 1) listed a w :=
  wpAnyH_take hi hs hf hr hQ hy hS h
/-- the one operation that comes up next -/
theorem rd1 {P : Program} {md : Region.Mode} {ops : Array Oper} {Q : Exit → Act → World → Prop} {S : World → Prop} (i : Nat) {d o t p af g} {fuel : Nat} {listed : Array Bool} {a : Act} {w : World} (ho : ops[i]? = some (Oper.mk d o t p af g))
    (h : ∀ K' : Act → World → Prop, Shut (∀ a w, S w → (S w → wpAnyH P md ops Q S fuel (listed.setIfInBounds i true) a w) → K' a w) → if Region.wanted (Oper.mk d o t p af g) (yielded ops a.tmps) = true then Oper.wp P (Oper.mk d o t p af g) a w K' Q else K' (a.put (Oper.mk d o t p af g).dst undef) w)
    (hr : Region.ready md ops listed = [i] := by kernel_rfl) : wpAnyH P md ops Q S (fuel + 1) listed a w := wpAnyH_ready hr (by simp) (AllReadyH.cons ho h AllReadyH.nil)
/-- two -/
theorem rd2 {P : Program} {md : Region.Mode} {ops : Array Oper} {Q : Exit → Act → World → Prop} {S : World → Prop} (i j : Nat) {d o t p af g d2 o2 t2 p2 af2 g2} {fuel : Nat} {listed : Array Bool} {a : Act} {w : World} (ho : ops[i]? = some (Oper.mk d o t p af g)) (hp : ops[j]? = some (Oper.mk d2 o2 t2 p2 af2 g2))
    (h : ∀ K' : Act → World → Prop, Shut (∀ a w, S w → (S w → wpAnyH P md ops Q S fuel (listed.setIfInBounds i true) a w) → K' a w) → if Region.wanted (Oper.mk d o t p af g) (yielded ops a.tmps) = true then Oper.wp P (Oper.mk d o t p af g) a w K' Q else K' (a.put (Oper.mk d o t p af g).dst undef) w)
    (k : ∀ K' : Act → World → Prop, Shut (∀ a w, S w → (S w → wpAnyH P md ops Q S fuel (listed.setIfInBounds j true) a w) → K' a w) → if Region.wanted (Oper.mk d2 o2 t2 p2 af2 g2) (yielded ops a.tmps) = true then Oper.wp P (Oper.mk d2 o2 t2 p2 af2 g2) a w K' Q else K' (a.put (Oper.mk d2 o2 t2 p2 af2 g2).dst undef) w)
    (hr : Region.ready md ops listed = [i, j] := by kernel_rfl) : wpAnyH P md ops Q S (fuel + 1) listed a w := wpAnyH_ready hr (by simp) (AllReadyH.cons ho h (AllReadyH.cons hp k AllReadyH.nil))
end Go.Proofs.YtjhgaildbeokkaaGreatDoor
/- Walks: the curve (curve.Side, quarters, number, turn, Place). -/
namespace Go.Proofs.YtjhgaildbeokkaaGreatDoor
open Go.RowKit Go.Gz

set_option maxHeartbeats 400000 in
theorem side_any (z : Int) (w : World) :
    Calls Tryz.prog 231 #[.int .i64 z] w fun e w' => e = .returned (.int .i64 (sideV z)) ∧ w = w' := by
  by_cases h0 : z < 0
  · have hs : sideV z = 0 := by unfold sideV; rw [if_neg (by omega)]
    rw [hs];clear hs;go_enter Tryz.func231, Tryz.ntmps231;go_wp2
    go_ret;exact ⟨rfl, rfl⟩
  by_cases h1 : 26 < z
  · have hs : sideV z = 0 := by unfold sideV; rw [if_neg (by omega)]
    rw [hs];clear hs;go_enter Tryz.func231, Tryz.ntmps231;go_wp2
    go_ret;exact ⟨rfl, rfl⟩
  · have hs : sideV z = ((2 ^ z.toNat : Nat) : Int) := by unfold sideV; rw [if_pos (by omega)]
    have hp := two_pow_le26 (z := z.toNat) (by omega);have hw : wrap64 (2 ^ z.toNat) = ((2 ^ z.toNat : Nat) : Int) := by
      have e : ((2 : Int) ^ z.toNat) = ((2 ^ z.toNat : Nat) : Int) := by simp
      rw [e]; generalize 2 ^ z.toNat = p at hp; unfold wrap64; omega
    rw [hs];have HW := Lib.hid hw;clear hs hp hw;go_enter Tryz.func231, Tryz.ntmps231;go_wp2
    go_ret;exact ⟨ret_int HW.out, rfl⟩
def quartersV : Value := .agg #[.int .u64 0, .int .u64 0, .bool true, .bool false, .int .u64 0, .int .u64 1, .bool false, .bool false, .int .u64 1, .int .u64 1, .bool false, .bool false, .int .u64 1, .int .u64 0, .bool true, .bool true]
set_option maxHeartbeats 400000 in
theorem quarters_any (w : World) :
    Calls Tryz.prog 290 #[] w fun e w' => e = .returned quartersV ∧ Up w w' := by
  go_enter Tryz.func290, Tryz.ntmps290;go_wp2
  exact bodyPost_ret (v := quartersV) (by simp [results, Tryz.results290, go_sem, quartersV]) rfl ⟨rfl, (Up.refl w).alloc _⟩

/-- the quarter of two binary digits -/
def quadN (x y : Nat) : Nat := if x = 0 then (if y = 0 then 0 else 1) else (if y = 0 then 3 else 2)
set_option maxHeartbeats 400000 in
theorem qnumber_any (x y : Nat) (hx : x < 2) (hy : y < 2) (w : World) :
    Calls Tryz.prog 356 #[.int .u64 x, .int .u64 y] w fun e w' => e = .returned (.int .u64 (quadN x y)) ∧ Up w w' := by
  obtain rfl | rfl : x = 0 ∨ x = 1 := by omega
  all_goals
    obtain rfl | rfl : y = 0 ∨ y = 1 := by omega
    all_goals
      go_enter Tryz.func356, Tryz.ntmps356;go_wp2
      go_ret;exact ⟨rfl, (Up.refl w).alloc _⟩

theorem number_i (x y : Nat) (X Y K : Int) (hX : X = x) (hY : Y = y) (hK : (quadN x y : Int) = K) (hx : x < 2) (hy : y < 2) (w : World) :
    Calls Tryz.prog 356 #[.int .u64 X, .int .u64 Y] w fun e w' => e = .returned (.int .u64 K) ∧ Up w w' := by
  subst hX hY hK; exact qnumber_any x y hx hy w
set_option maxHeartbeats 1000000 in
theorem turn_any (qx qy : Int) (sw mi : Bool) (x y m : Nat) (hx : x < 18446744073709551616) (hy : y < 18446744073709551616) (hm : m ≤ 26) (w : World) :
    Calls Tryz.prog 291 #[.agg #[.int .u64 qx, .int .u64 qy, .bool sw, .bool mi], .int .u64 x, .int .u64 y, .int .i64 m] w
      fun e w' => e = .returned (.tuple #[.int .u64 (turnX sw mi m x y), .int .u64 (turnY sw mi m x y)]) ∧ Up w w' := by
  have hp := two_pow_le26 hm;have hp0 : 1 ≤ 2 ^ m := Nat.two_pow_pos m;have ex := and_low x m hx hm;have ey := and_low y m hy hm;have lx := Nat.mod_lt x hp0;have ly := Nat.mod_lt y hp0;have ep : IntKind.u64.wrap (2 ^ m) = ((2 ^ m : Nat) : Int) := by
    have e : ((2 : Int) ^ m) = ((2 ^ m : Nat) : Int) := by simp
    rw [e, IntKind.wrap_u64]; omega
  generalize hP : 2 ^ m = P at *;generalize hxr : x % P = xr at *;generalize hyr : y % P = yr at *;have HP := Lib.hid hP;have HX := Lib.hid hxr;have HY := Lib.hid hyr;clear hP hxr hyr;cases sw;all_goals
    cases mi;all_goals
      go_enter Tryz.func291, Tryz.ntmps291;go_wp2
      go_ret2
      refine ⟨ret_two (int_eq ?_) (int_eq ?_), (Up.refl w).alloc _⟩ <;> (simp only [turnX, turnY, HP.out, HX.out, HY.out, if_true, if_false, Bool.false_eq_true]; try omega)
theorem turn_i (qx qy : Int) (sw mi : Bool) (x y m : Nat) (tx ty : Nat) (h1 : turnX sw mi m x y = tx) (h2 : turnY sw mi m x y = ty) (hx : x < 18446744073709551616) (hy : y < 18446744073709551616) (hm : m ≤ 26) (w : World) :
    Calls Tryz.prog 291 #[.agg #[.int .u64 qx, .int .u64 qy, .bool sw, .bool mi], .int .u64 x, .int .u64 y, .int .i64 m] w
      fun e w' => e = .returned (.tuple #[.int .u64 tx, .int .u64 ty]) ∧ Up w w' := by
  subst h1 h2; exact turn_any qx qy sw mi x y m hx hy hm w
end Go.Proofs.YtjhgaildbeokkaaGreatDoor
/- Walk: curve.Place. -/
namespace Go.Proofs.YtjhgaildbeokkaaGreatDoor
open Go.RowKit Go.Gz

def quartersA : Array Value := #[.int .u64 0, .int .u64 0, .bool true, .bool false, .int .u64 0, .int .u64 1, .bool false, .bool false, .int .u64 1, .int .u64 1, .bool false, .bool false, .int .u64 1, .int .u64 0, .bool true, .bool true]
/-- what the loop holds when gk digits are to come -/
def PRel (w : World) (z B H : Nat) (gk : Nat) (a b d i : Value) (wr : World) : Prop := ∃ x y dd k : Nat, k + gk = z ∧ i = .int .i64 k ∧ a = .int .u64 x ∧ b = .int .u64 y ∧ d = .int .u64 dd ∧ x < 2 ^ gk ∧ y < 2 ^ gk ∧
  dd * 4 ^ gk + hil gk x y = H ∧ Up w wr ∧ w.heap.size ≤ B ∧ wr.heap[B]? = some (.cells quartersA 416 (0, 0))
set_option maxHeartbeats 4000000 in
theorem place_ok (z x y : Nat) (hz : z ≤ 26) (hx : x < 2 ^ z) (hy : y < 2 ^ z) (w : World) :
    Calls Tryz.prog 335 #[.int .i64 z, .int .i64 x, .int .i64 y] w fun e w' => e = .returned (.tuple #[.int .u64 (hil z x y), .int .i64 0]) ∧ Up w w' := by
  have hp := two_pow_le26 hz;have hp0 : 1 ≤ 2 ^ z := Nat.two_pow_pos z;have hs : sideV z = ((2 ^ z : Nat) : Int) := by unfold sideV; rw [if_pos (by omega)]; simp
  have HL := Lib.hid (Nat.lt_of_lt_of_le (hil_lt z x y hx hy) (four_pow_le27 (z := z) (by omega)));generalize hH : hil z x y = H at *;have HH := Lib.hid hH;have HX := Lib.hid hx;have HY := Lib.hid hy;clear hH;generalize hP : 2 ^ z = P at hp hp0 hs hx hy;have HP := Lib.hid hP;clear hP;have hx' : (x : Int) < P := by omega
  have hy' : (y : Int) < P := by omega
  have hb : ((P : Int) == 0) = false := by rw [beq_eq_false_iff_ne]; omega
  have S := fun w => Lib.hid (side_any z w);rw [hs] at S;clear hs;go_enter Tryz.func335, Tryz.ntmps335;go_wp2_with (first | (go_at_call 231; refine (S _).out.mono ?_; rintro e w1 ⟨rfl, rfl⟩) | (go_at_call 290; refine (quarters_any _).mono ?_; rintro e w1 ⟨rfl, hu1⟩; unfold quartersV))
  go_loopg [10, 11, 12, 44] z (fun gk a b d i wr => PRel w z w1.heap.size H gk a b d i wr)
  case atStart => exact ⟨x, y, 0, 0, by omega, rfl, rfl, rfl, rfl, HX.out, HY.out, by rw [HH.out]; omega, hu1.alloc _, hu1.le, heap_alloc_new _ _⟩
  case round =>
    obtain ⟨x, y, dd, k, hk, rfl, rfl, rfl, rfl, hx1, hy1, hh, hu, hle, hblk⟩ := hrel;by_cases hg : gk = 0
    · subst hg;obtain rfl : k = z := by omega
      have HHH := Lib.hid hh;clear hh hblk;go_wp2_with fail;go_ret2
      have hh := HHH.out;simp only [hil, Nat.pow_zero, Nat.mul_one, Nat.add_zero] at hh;exact ⟨ret_two (int_eq (by omega)) rfl, hu⟩
    · obtain ⟨m, rfl⟩ : ∃ m, gk = m + 1 := ⟨gk - 1, by omega⟩;have hm : m ≤ 26 := by omega
      have hd : (z : Int) - 1 - (k : Int) = (m : Int) := by omega
      have h2 : 2 ^ (m + 1) = 2 * 2 ^ m := by rw [Nat.pow_succ]; omega
      have bx := bit_at x m (by omega) hm;have by' := bit_at y m (by omega) hm;have XL := Lib.hid hx1;have YL := Lib.hid hy1;have HHH := Lib.hid hh;have HB := Lib.hid hblk;have ML := Lib.hid hm;have hddle : dd ≤ 18014398509481984 := by
        have := HL.out;have h4 : 1 ≤ 4 ^ (m + 1) := Nat.pos_of_ne_zero (by simp);have := Nat.mul_le_mul_left dd h4;omega
      clear h2 hx1 hy1 hh hblk hm hg;by_cases hX : 2 ^ m ≤ x
      · by_cases hY : 2 ^ m ≤ y
        focus
          have hxb : bits BinOp.and IntKind.u64 ((x : Int) / 2 ^ m) 1 = 1 := by rw [bx, if_pos hX]
          have hyb : bits BinOp.and IntKind.u64 ((y : Int) / 2 ^ m) 1 = 1 := by rw [by', if_pos hY]
          obtain ⟨nd, hnd⟩ : ∃ nd : Nat, nd = 4 * dd + 2 := ⟨_, rfl⟩;have hor : bits BinOp.or IntKind.u64 ((dd : Int) * 4) 2 = (nd : Int) := by rw [hnd]; exact or_two' dd 2 (by omega) (by omega)
          have A := fun w => Lib.hid (number_i 1 1 1 1 2 rfl rfl rfl (by omega) (by omega) w);have T := fun qx qy w => Lib.hid (turn_any qx qy false false x y m (by have := XL.out; have := two_pow_le26 ML.out; rw [Nat.pow_succ] at *; omega) (by have := YL.out; have := two_pow_le26 ML.out; rw [Nat.pow_succ] at *; omega) ML.out w);have HX := Lib.hid hX;have HY := Lib.hid hY;have ST := Lib.hid (step11 HX.out (by have := XL.out; rw [Nat.pow_succ] at this; omega) HY.out (by have := YL.out; rw [Nat.pow_succ] at this; omega));have LX := Lib.hid (turnX_lt false false m x y);have LY := Lib.hid (turnY_lt false false m x y);generalize turnX false false m x y = tx at T ST LX;generalize turnY false false m x y = ty at T ST LY;have ND := Lib.hid hnd;clear hX hY bx by' hnd;go_wp2_with fail;go_region_held3 (fun w' => Up w w' ∧ w'.heap[w1.heap.size]? = some (.cells quartersA 416 (0, 0))) (first | exact ⟨hu.drew, HB.out⟩ | exact ⟨(hu.drew).trans hu3, hu3.obj HB.out⟩) (first | (go_at_call 356; refine (A _).out.mono ?_; rintro e w3 ⟨rfl, hu3⟩))
          have hu4 : Up w w3 := (hu.drew).trans hu3;have hb4 := hu3.obj (k := w1.heap.size) HB.out;have c0 : w3.cell? ⟨w1.heap.size, 8, none⟩ = some (.int .u64 1) := cell_of_row w3 w1.heap.size 8 quartersA _ _ hb4;have c1 : w3.cell? ⟨w1.heap.size, 9, none⟩ = some (.int .u64 1) := cell_of_row w3 w1.heap.size 9 quartersA _ _ hb4;have c2 : w3.cell? ⟨w1.heap.size, 10, none⟩ = some (.bool false) := cell_of_row w3 w1.heap.size 10 quartersA _ _ hb4;have c3 : w3.cell? ⟨w1.heap.size, 11, none⟩ = some (.bool false) := cell_of_row w3 w1.heap.size 11 quartersA _ _ hb4
        rotate_left;focus
          have hxb : bits BinOp.and IntKind.u64 ((x : Int) / 2 ^ m) 1 = 1 := by rw [bx, if_pos hX]
          have hyb : bits BinOp.and IntKind.u64 ((y : Int) / 2 ^ m) 1 = 0 := by rw [by', if_neg hY]
          obtain ⟨nd, hnd⟩ : ∃ nd : Nat, nd = 4 * dd + 3 := ⟨_, rfl⟩;have hor : bits BinOp.or IntKind.u64 ((dd : Int) * 4) 3 = (nd : Int) := by rw [hnd]; exact or_two' dd 3 (by omega) (by omega)
          have A := fun w => Lib.hid (number_i 1 0 1 0 3 rfl rfl rfl (by omega) (by omega) w);have T := fun qx qy w => Lib.hid (turn_any qx qy true true x y m (by have := XL.out; have := two_pow_le26 ML.out; rw [Nat.pow_succ] at *; omega) (by have := YL.out; have := two_pow_le26 ML.out; rw [Nat.pow_succ] at *; omega) ML.out w);have HX := Lib.hid hX;have HY := Lib.hid hY;have ST := Lib.hid (step10 HX.out (by have := XL.out; rw [Nat.pow_succ] at this; omega) HY.out);have LX := Lib.hid (turnX_lt true true m x y);have LY := Lib.hid (turnY_lt true true m x y);generalize turnX true true m x y = tx at T ST LX;generalize turnY true true m x y = ty at T ST LY;have ND := Lib.hid hnd;clear hX hY bx by' hnd;go_wp2_with fail;go_region_held3 (fun w' => Up w w' ∧ w'.heap[w1.heap.size]? = some (.cells quartersA 416 (0, 0))) (first | exact ⟨hu.drew, HB.out⟩ | exact ⟨(hu.drew).trans hu3, hu3.obj HB.out⟩) (first | (go_at_call 356; refine (A _).out.mono ?_; rintro e w3 ⟨rfl, hu3⟩))
          have hu4 : Up w w3 := (hu.drew).trans hu3;have hb4 := hu3.obj (k := w1.heap.size) HB.out;have c0 : w3.cell? ⟨w1.heap.size, 12, none⟩ = some (.int .u64 1) := cell_of_row w3 w1.heap.size 12 quartersA _ _ hb4;have c1 : w3.cell? ⟨w1.heap.size, 13, none⟩ = some (.int .u64 0) := cell_of_row w3 w1.heap.size 13 quartersA _ _ hb4;have c2 : w3.cell? ⟨w1.heap.size, 14, none⟩ = some (.bool true) := cell_of_row w3 w1.heap.size 14 quartersA _ _ hb4;have c3 : w3.cell? ⟨w1.heap.size, 15, none⟩ = some (.bool true) := cell_of_row w3 w1.heap.size 15 quartersA _ _ hb4
        rotate_left;all_goals
          have HB4 := Lib.hid hb4;clear hb4;go_wp2_with fail;refine (T _ _ _).out.mono ?_;rintro e w5 ⟨rfl, hu5⟩;go_wp2_with fail;go_roundg m
          case measure => omega
          case rel => exact ⟨tx, ty, nd, k + 1, by omega, by go_num, rfl, rfl, rfl, LX.out, LY.out, by rw [ND.out]; exact acc_step (by rw [← ST.out]; exact HHH.out), hu4.trans hu5, hle, hu5.obj HB4.out⟩
      · by_cases hY : 2 ^ m ≤ y
        focus
          have hxb : bits BinOp.and IntKind.u64 ((x : Int) / 2 ^ m) 1 = 0 := by rw [bx, if_neg hX]
          have hyb : bits BinOp.and IntKind.u64 ((y : Int) / 2 ^ m) 1 = 1 := by rw [by', if_pos hY]
          obtain ⟨nd, hnd⟩ : ∃ nd : Nat, nd = 4 * dd + 1 := ⟨_, rfl⟩;have hor : bits BinOp.or IntKind.u64 ((dd : Int) * 4) 1 = (nd : Int) := by rw [hnd]; exact or_two' dd 1 (by omega) (by omega)
          have A := fun w => Lib.hid (number_i 0 1 0 1 1 rfl rfl rfl (by omega) (by omega) w);have T := fun qx qy w => Lib.hid (turn_any qx qy false false x y m (by have := XL.out; have := two_pow_le26 ML.out; rw [Nat.pow_succ] at *; omega) (by have := YL.out; have := two_pow_le26 ML.out; rw [Nat.pow_succ] at *; omega) ML.out w);have HX := Lib.hid hX;have HY := Lib.hid hY;have ST := Lib.hid (step01 HX.out HY.out (by have := YL.out; rw [Nat.pow_succ] at this; omega));have LX := Lib.hid (turnX_lt false false m x y);have LY := Lib.hid (turnY_lt false false m x y);generalize turnX false false m x y = tx at T ST LX;generalize turnY false false m x y = ty at T ST LY;have ND := Lib.hid hnd;clear hX hY bx by' hnd;go_wp2_with fail;go_region_held3 (fun w' => Up w w' ∧ w'.heap[w1.heap.size]? = some (.cells quartersA 416 (0, 0))) (first | exact ⟨hu.drew, HB.out⟩ | exact ⟨(hu.drew).trans hu3, hu3.obj HB.out⟩) (first | (go_at_call 356; refine (A _).out.mono ?_; rintro e w3 ⟨rfl, hu3⟩))
          have hu4 : Up w w3 := (hu.drew).trans hu3;have hb4 := hu3.obj (k := w1.heap.size) HB.out;have c0 : w3.cell? ⟨w1.heap.size, 4, none⟩ = some (.int .u64 0) := cell_of_row w3 w1.heap.size 4 quartersA _ _ hb4;have c1 : w3.cell? ⟨w1.heap.size, 5, none⟩ = some (.int .u64 1) := cell_of_row w3 w1.heap.size 5 quartersA _ _ hb4;have c2 : w3.cell? ⟨w1.heap.size, 6, none⟩ = some (.bool false) := cell_of_row w3 w1.heap.size 6 quartersA _ _ hb4;have c3 : w3.cell? ⟨w1.heap.size, 7, none⟩ = some (.bool false) := cell_of_row w3 w1.heap.size 7 quartersA _ _ hb4
        rotate_left;focus
          have hxb : bits BinOp.and IntKind.u64 ((x : Int) / 2 ^ m) 1 = 0 := by rw [bx, if_neg hX]
          have hyb : bits BinOp.and IntKind.u64 ((y : Int) / 2 ^ m) 1 = 0 := by rw [by', if_neg hY]
          obtain ⟨nd, hnd⟩ : ∃ nd : Nat, nd = 4 * dd + 0 := ⟨_, rfl⟩;have hor : bits BinOp.or IntKind.u64 ((dd : Int) * 4) 0 = (nd : Int) := by rw [hnd]; exact or_two' dd 0 (by omega) (by omega)
          have A := fun w => Lib.hid (number_i 0 0 0 0 0 rfl rfl rfl (by omega) (by omega) w);have T := fun qx qy w => Lib.hid (turn_any qx qy true false x y m (by have := XL.out; have := two_pow_le26 ML.out; rw [Nat.pow_succ] at *; omega) (by have := YL.out; have := two_pow_le26 ML.out; rw [Nat.pow_succ] at *; omega) ML.out w);have HX := Lib.hid hX;have HY := Lib.hid hY;have ST := Lib.hid (step00 HX.out HY.out);have LX := Lib.hid (turnX_lt true false m x y);have LY := Lib.hid (turnY_lt true false m x y);generalize turnX true false m x y = tx at T ST LX;generalize turnY true false m x y = ty at T ST LY;have ND := Lib.hid hnd;clear hX hY bx by' hnd;go_wp2_with fail;go_region_held3 (fun w' => Up w w' ∧ w'.heap[w1.heap.size]? = some (.cells quartersA 416 (0, 0))) (first | exact ⟨hu.drew, HB.out⟩ | exact ⟨(hu.drew).trans hu3, hu3.obj HB.out⟩) (first | (go_at_call 356; refine (A _).out.mono ?_; rintro e w3 ⟨rfl, hu3⟩))
          have hu4 : Up w w3 := (hu.drew).trans hu3;have hb4 := hu3.obj (k := w1.heap.size) HB.out;have c0 : w3.cell? ⟨w1.heap.size, 0, none⟩ = some (.int .u64 0) := cell_of_row w3 w1.heap.size 0 quartersA _ _ hb4;have c1 : w3.cell? ⟨w1.heap.size, 1, none⟩ = some (.int .u64 0) := cell_of_row w3 w1.heap.size 1 quartersA _ _ hb4;have c2 : w3.cell? ⟨w1.heap.size, 2, none⟩ = some (.bool true) := cell_of_row w3 w1.heap.size 2 quartersA _ _ hb4;have c3 : w3.cell? ⟨w1.heap.size, 3, none⟩ = some (.bool false) := cell_of_row w3 w1.heap.size 3 quartersA _ _ hb4
        rotate_left;all_goals
          have HB4 := Lib.hid hb4;clear hb4;go_wp2_with fail;refine (T _ _ _).out.mono ?_;rintro e w5 ⟨rfl, hu5⟩;go_wp2_with fail;go_roundg m
          case measure => omega
          case rel => exact ⟨tx, ty, nd, k + 1, by omega, by go_num, rfl, rfl, rfl, LX.out, LY.out, by rw [ND.out]; exact acc_step (by rw [← ST.out]; exact HHH.out), hu4.trans hu5, hle, hu5.obj HB4.out⟩
end Go.Proofs.YtjhgaildbeokkaaGreatDoor
