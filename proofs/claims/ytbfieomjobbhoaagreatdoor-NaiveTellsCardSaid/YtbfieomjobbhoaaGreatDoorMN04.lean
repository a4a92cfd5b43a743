/- What a slice of structs holds ('Rd'), of items ('itV'); append onto a row of the call's own. -/
import Derived.Test.YtbfieomjobbhoaaGreatDoorMN02
import Derived.ArgAppend
import Derived.Deep.AppendLies
import Derived.Maps.AppendAt
import Derived.Deep.Draws
import Derived.Deep.RegionLawGrows
import Derived.Deep.RegionHeld3
namespace Go.Gz
abbrev Item := Nat × Bs
abbrev Items := List Item
def itV (L : Items) : List Value := L.flatMap fun x => [.int .u64 (x.1 : Int), .string ⟨x.2.toArray⟩]
theorem itV_cons (x : Item) (L : Items) : itV (x :: L) = .int .u64 (x.1 : Int) :: .string ⟨x.2.toArray⟩ :: itV L := rfl
theorem itV_app (L M : Items) : itV (L ++ M) = itV L ++ itV M := by simp [itV]
theorem itV_len (L : Items) : (itV L).length = L.length * 2 := by
  induction L with
  | nil => rfl
  | cons x r ih => rw [itV_cons]; simp [ih]; omega
theorem itV_get (L : Items) : ∀ k (h : k < L.length), (itV L)[k * 2]? = some (.int .u64 (L[k].1 : Int)) ∧ (itV L)[k * 2 + 1]? = some (.string ⟨L[k].2.toArray⟩) := by
  induction L with
  | nil => intro k h; simp at h
  | cons x r ih =>
    intro k h;rw [itV_cons];cases k with
    | zero => exact ⟨rfl, rfl⟩
    | succ k =>
      have := ih k (by simp at h; omega);rw [show (k + 1) * 2 = k * 2 + 1 + 1 by omega];simpa using this
theorem itV_one (L : Items) : ∀ u ∈ itV L, u.oneCell' = true := by
  intro u hu;simp only [itV, List.mem_flatMap] at hu;obtain ⟨x, _, hx⟩ := hu;simp at hx;rcases hx with rfl | rfl <;> rfl
end Go.Gz
namespace Go.Proofs.YtbfieomjobbhoaaGreatDoor
open Go.RowKit Go.Gz

theorem add_plain (b o j : Nat) : (⟨b, o, none⟩ : Addr).add j = ⟨b, o + j, none⟩ := by unfold Addr.add; split <;> simp_all
/-- a slice (address A, length n, capacity c) that reads as the cells xs -/
def Rd (w : World) (size : Nat) (A : Option Addr) (n c : Nat) (xs : List Value) : Prop :=
  xs.length = n * size ∧ n ≤ c ∧ c ≤ maxLen ∧ (A = none → c = 0) ∧ (0 < n → ∃ b o, A = some ⟨b, o, none⟩ ∧ ∀ j u, xs[j]? = some u → w.cell? ⟨b, o + j, none⟩ = some u)
section
variable {w w' : World} {size n c : Nat} {A : Option Addr} {xs : List Value}
theorem Rd.up (h : Rd w size A n c xs) (hu : Up w w') : Rd w' size A n c xs :=
  ⟨h.1, h.2.1, h.2.2.1, h.2.2.2.1, fun hn => let ⟨b, o, e, hc⟩ := h.2.2.2.2 hn; ⟨b, o, e, fun j u hj => hu.cell (hc j u hj)⟩⟩
theorem Rd.nil_ (w : World) (size : Nat) : Rd w size none 0 0 [] := ⟨by simp, Nat.le_refl _, Nat.zero_le _, fun _ => rfl, fun h => absurd h (by omega)⟩
theorem Rd.of_own {base : Nat} {e : TypeId} {v : Value} (h : w.ownsRow base e size v n xs) : ∃ A c, v = .slice A n c ∧ Rd w size A n c xs := by
  have hl := h.1;rcases h.2 with ⟨h1, h2⟩ | ⟨g, cap, cur, h1, h2, h3, h4, h5, h6, h7⟩
  · subst h2; exact ⟨none, 0, h1, by simpa using hl, Nat.le_refl _, Nat.zero_le _, fun _ => rfl, fun h => absurd h (by omega)⟩
  · refine ⟨_, cap, h1, hl, h4, h5, fun h => by (cases h), fun hn => ⟨g, 0, rfl, fun j u hj => ?_⟩⟩;have := h.cells (g := g) (by rw [h1]; rfl) j u hj;rwa [add_plain] at this
/-- the cells of element k -/
theorem Rd.two (h : Rd w 2 A n c xs) {k : Nat} (hk : k < n) : ∃ b o u v, A = some ⟨b, o, none⟩ ∧ xs[k * 2]? = some u ∧ xs[k * 2 + 1]? = some v ∧ w.cell? ⟨b, o + k * 2, none⟩ = some u ∧ w.cell? ⟨b, o + k * 2 + 1, none⟩ = some v := by
  obtain ⟨b, o, e, hc⟩ := h.2.2.2.2 (by omega);have hl := h.1;have h0 : k * 2 < xs.length := by omega
  have h1 : k * 2 + 1 < xs.length := by omega
  exact ⟨b, o, _, _, e, List.getElem?_eq_getElem h0, List.getElem?_eq_getElem h1, hc _ _ (List.getElem?_eq_getElem h0), by have := hc _ _ (List.getElem?_eq_getElem h1); rwa [← Nat.add_assoc] at this⟩
theorem Rd.item {L : Items} (h : Rd w 2 A L.length c (itV L)) {k : Nat} (hk : k < L.length) : ∃ b o, A = some ⟨b, o, none⟩ ∧ w.cell? ⟨b, o + k * 2, none⟩ = some (.int .u64 (L[k].1 : Int)) ∧ w.cell? ⟨b, o + k * 2 + 1, none⟩ = some (.string ⟨L[k].2.toArray⟩) := by
  obtain ⟨b, o, u, v, e, h1, h2, h3, h4⟩ := h.two hk;obtain ⟨g1, g2⟩ := itV_get L k hk;rw [g1] at h1; rw [g2] at h2;cases h1; cases h2;exact ⟨b, o, e, h3, h4⟩
theorem Rd.one (h : Rd w 1 A n c xs) {k : Nat} (hk : k < n) : ∃ b o u, A = some ⟨b, o, none⟩ ∧ xs[k]? = some u ∧ w.cell? ⟨b, o + k, none⟩ = some u := by
  obtain ⟨b, o, e, hc⟩ := h.2.2.2.2 (by omega);have h0 : k < xs.length := by have := h.1; omega
  exact ⟨b, o, _, e, List.getElem?_eq_getElem h0, hc _ _ (List.getElem?_eq_getElem h0)⟩
/-- s[lo:hi:mx] -/
theorem Rd.cut (h : Rd w size A n c xs) {lo hi mx : Nat} (h1 : lo ≤ hi) (h2 : hi ≤ n) (h3 : hi ≤ mx) (h4 : mx ≤ c) :
    Rd w size (if mx = lo then A else A.map (·.add (lo * size))) (hi - lo) (mx - lo) ((xs.drop (lo * size)).take ((hi - lo) * size)) := by
  refine ⟨?_, by omega, by have := h.2.2.1; omega, fun hA => ?_, fun hn => ?_⟩
  · rw [List.length_take, List.length_drop, h.1];have : (hi - lo) * size ≤ n * size - lo * size := by rw [← Nat.sub_mul]; exact Nat.mul_le_mul_right _ (by omega)
    omega
  · split at hA
    · omega
    · cases A with
      | none => have := h.2.2.2.1 rfl; omega
      | some a => cases hA
  · obtain ⟨b, o, rfl, hc⟩ := h.2.2.2.2 (by omega);rw [if_neg (by omega)];refine ⟨b, o + lo * size, by simp [add_plain], fun j u hj => ?_⟩;have hj' : xs[lo * size + j]? = some u := by
      rw [List.getElem?_take] at hj;split at hj
      · rwa [List.getElem?_drop] at hj
      · cases hj
    have := hc _ _ hj';rwa [← Nat.add_assoc] at this
end
section
variable {P : Program} {w : World} {size n c : Nat} {A : Option Addr} {xs : List Value} {t e : TypeId} {i : TypeInfo}
theorem elem_of (ht : P.underlying t = some (.slice e)) : P.elem t = e := by simp [Program.elem, ht]
theorem size_run (hi : P.info? e = some i) (hz : i.size = size) (w' : World) : (sizeOf e).run P w' = .ok size w' := by
  subst hz; simp [sizeOf, typeInfo, hi]
end
section
variable {P : Program} (w : World)
theorem run_append_of_nil (base : Nat) (t ty e : TypeId) (i : TypeInfo) (size : Nat) (ht : P.underlying t = some (.slice e)) (hi : P.info? e = some i)
    (v : Value) (n : Nat) (xs : List Value) (hown : w.ownsRow base e size v n xs) (c : Nat) : (Builtin.append_ #[t, t] ty #[v, .slice none 0 c]).run P w = .ok v w := by
  rcases hown.2 with ⟨rfl, rfl⟩ | ⟨g, cap, cur, rfl, _, _, hnc, _⟩
  · simp [Builtin.append_, run_underlying ht, sizeOf, typeInfo, hi, Builtin.lenOf, Builtin.firstCells]
  · simp [Builtin.append_, run_underlying ht, sizeOf, typeInfo, hi, Builtin.lenOf, Builtin.firstCells, hnc, storeCells]
/-- 'append(s, xs...)' onto a row of the call's own, xs whatever slice -/
theorem wpList_append_rd {ops : Array Oper} {rest : List Oper} {o : Oper} {a : Act} {Q : Exit → Act → World → Prop} (hgd : o.guard = none) (s x : Operand) (t : TypeId)
    (ho : o.op = .call { callee := .builtin .append, args := #[s, x], argTypes := #[t, t] })
    (base : Nat) (e : TypeId) (i : TypeInfo) (z : Value) (size bytes : Nat) (ht : P.underlying t = some (.slice e)) (hi : P.info? e = some i) (hz : i.zero = some z)
    (hsize : i.size = size) (hby : i.bytes = bytes) (hzs : z.cells.size = size) (hsz : 0 < size)
    (v : Value) (n : Nat) (xs : List Value) (hs : a.eval s = v) (hown : w.ownsRow base e size v n xs)
    (A : Option Addr) (m c : Nat) (news : List Value) (hx : a.eval x = .slice A m c) (hr : Rd w size A m c news) (h1 : ∀ u ∈ news, u.oneCell' = true)
    (hn : n + m ≤ 1000000) (hb1 : bytes ≤ 1000) (hbase : base ≤ w.heap.size)
    (h : ∀ v' w', w'.ownsRow base e size v' (n + m) (xs ++ news) → Below base w w' → wpList P ops Q rest (a.put o.dst v') w') : wpList P ops Q (o :: rest) a w := by
  have hbytes : (n + m) * bytes ≤ 140737488355328 := by
    have := Nat.mul_le_mul hn hb1; omega
  have key : ∃ v' w', (Builtin.append_ #[t, t] o.type #[v, .slice A m c]).run P w = .ok v' w' ∧ w'.ownsRow base e size v' (n + m) (xs ++ news) ∧ w.grownBy w' v.ownBlock := by
    rcases A with _ | ad
    · have hm : m = 0 := by have := hr.2.1; have := hr.2.2.2.1 rfl; omega
      subst hm;have hn : news = [] := List.eq_nil_of_length_eq_zero (by simpa using hr.1);subst hn;exact ⟨v, w, run_append_of_nil w base t o.type e i size ht hi v n xs hown c, by simpa using hown, World.grownBy.refl w _⟩
    · have hcells : ∀ j u, news[j]? = some u → w.cell? (ad.add j) = some u := by
        intro j u hu;rcases Nat.eq_zero_or_pos m with h0 | h0
        · subst h0;have hn : news = [] := List.eq_nil_of_length_eq_zero (by simpa using hr.1);subst hn;simp at hu
        · obtain ⟨b, o', h, hc⟩ := hr.2.2.2.2 h0;injection h with h;subst h;rw [add_plain];exact hc j u hu
      obtain ⟨v', w', hrun, h2, h3, _⟩ := run_append_own_at (P := P) w base t o.type e i z size bytes ht hi hz hsize hby hzs hsz v n xs hown ad m c news hr.1 hcells h1 (by unfold maxLen; omega) hbytes hbase;exact ⟨v', w', hrun, h2, h3⟩
  obtain ⟨v', w', hrun, h2, h3⟩ := key;refine wpList_plain hgd fun _ hK => ?_;unfold Oper.wp execOp;simp only [ho, resolve, invoke, builtin, Sem.run_bind, Sem.run_pure, Result.andThen_ok, List.map_toArray, List.map_cons, List.map_nil, hs, hx, hrun];exact hK _ _ (h v' w' h2 ((Below.refl base w).grown h3 hbase (fun k hk => (hown.lt k hk).1)))
/-- 'append(s[:k:k], x)': no room: a row of the call's own -/
theorem wpList_append_full {ops : Array Oper} {rest : List Oper} {o : Oper} {a : Act} {Q : Exit → Act → World → Prop} (hgd : o.guard = none) (s x : Operand) (t : TypeId)
    (ho : o.op = .call { callee := .builtin .append, args := #[s, x], argTypes := #[t, t] })
    (e : TypeId) (i : TypeInfo) (z : Value) (size bytes : Nat) (ht : P.underlying t = some (.slice e)) (hi : P.info? e = some i) (hz : i.zero = some z)
    (hsize : i.size = size) (hby : i.bytes = bytes) (hzs : z.cells.size = size) (hsz : 0 < size)
    (A : Option Addr) (n : Nat) (xs : List Value) (hs : a.eval s = .slice A n n) (hr : Rd w size A n n xs)
    (ad : Addr) (m c : Nat) (news : List Value) (hx : a.eval x = .slice (some ad) m c) (hnl : news.length = m * size) (hc : ∀ j u, news[j]? = some u → w.cell? (ad.add j) = some u) (h1 : ∀ u ∈ news, u.oneCell' = true) (hm : 0 < m)
    (hn : n + m ≤ 1000000) (hb1 : bytes ≤ 1000)
    (h : ∀ v' w', w'.ownsRow w.heap.size e size v' (n + m) (xs ++ news) → Up w w' → wpList P ops Q rest (a.put o.dst v') w') : wpList P ops Q (o :: rest) a w := by
  have hbytes : (n + m) * bytes ≤ 140737488355328 := by
    have := Nat.mul_le_mul hn hb1; omega
  refine wpList_append_grows w hgd s x t ho e i z size bytes ht hi hz hsize hby hzs hsz A n n xs hs (fun hA => by have := hr.2.2.2.1 hA; omega) hr.1 ?_ ad m c news hx hnl hc h1 (by omega) (by unfold maxLen; omega) hbytes ?_
  · intro b hb j u hj;rcases Nat.eq_zero_or_pos n with h0 | h0
    · subst h0;have : xs = [] := List.eq_nil_of_length_eq_zero (by simpa using hr.1);subst this; simp at hj
    · obtain ⟨b', o', e', hc'⟩ := hr.2.2.2.2 h0;rw [hb] at e'; injection e' with e'; subst e';rw [add_plain]; exact hc' j u hj
  · intro v' w' h2 h3;exact h v' w' h2 ((Below.refl w.heap.size w).grown h3 (Nat.le_refl _) (fun k hk => by cases hk))
/-- the two, as steps of a region that draws its order -/
theorem step_append_rd {ops : Array Oper} {o : Oper} {a : Act} {K : Act → World → Prop} {Q : Exit → Act → World → Prop} {E : Prop} (hgd : o.guard = none) (s x : Operand) (t : TypeId)
    (ho : o.op = .call { callee := .builtin .append, args := #[s, x], argTypes := #[t, t] })
    (base : Nat) (e : TypeId) (i : TypeInfo) (z : Value) (size bytes : Nat) (ht : P.underlying t = some (.slice e)) (hi : P.info? e = some i) (hz : i.zero = some z)
    (hsize : i.size = size) (hby : i.bytes = bytes) (hzs : z.cells.size = size) (hsz : 0 < size)
    (v : Value) (n : Nat) (xs : List Value) (hs : a.eval s = v) (hown : w.ownsRow base e size v n xs)
    (A : Option Addr) (m c : Nat) (news : List Value) (hx : a.eval x = .slice A m c) (hr : Rd w size A m c news) (h1 : ∀ u ∈ news, u.oneCell' = true)
    (hn : n + m ≤ 1000000) (hb1 : bytes ≤ 1000) (hbase : base ≤ w.heap.size)
    (h : ∀ v' w', w'.ownsRow base e size v' (n + m) (xs ++ news) → Below base w w' → K (a.put o.dst v') w') :
    if Region.wanted o (yielded ops a.tmps) = true then Oper.wp P o a w K Q else E := by
  have hw : Region.wanted o (yielded ops a.tmps) = true := by simp [Region.wanted, hgd]
  rw [if_pos hw];have hbytes : (n + m) * bytes ≤ 140737488355328 := by
    have := Nat.mul_le_mul hn hb1; omega
  have key : ∃ v' w', (Builtin.append_ #[t, t] o.type #[v, .slice A m c]).run P w = .ok v' w' ∧ w'.ownsRow base e size v' (n + m) (xs ++ news) ∧ w.grownBy w' v.ownBlock := by
    rcases A with _ | ad
    · have hm : m = 0 := by have := hr.2.1; have := hr.2.2.2.1 rfl; omega
      subst hm;have hn : news = [] := List.eq_nil_of_length_eq_zero (by simpa using hr.1);subst hn;exact ⟨v, w, run_append_of_nil w base t o.type e i size ht hi v n xs hown c, by simpa using hown, World.grownBy.refl w _⟩
    · have hcells : ∀ j u, news[j]? = some u → w.cell? (ad.add j) = some u := by
        intro j u hu;rcases Nat.eq_zero_or_pos m with h0 | h0
        · subst h0;have hn : news = [] := List.eq_nil_of_length_eq_zero (by simpa using hr.1);subst hn;simp at hu
        · obtain ⟨b, o', h, hc⟩ := hr.2.2.2.2 h0;injection h with h;subst h;rw [add_plain];exact hc j u hu
      obtain ⟨v', w', hrun, h2, h3, _⟩ := run_append_own_at (P := P) w base t o.type e i z size bytes ht hi hz hsize hby hzs hsz v n xs hown ad m c news hr.1 hcells h1 (by unfold maxLen; omega) hbytes hbase;exact ⟨v', w', hrun, h2, h3⟩
  obtain ⟨v', w', hrun, h2, h3⟩ := key;unfold Oper.wp execOp;simp only [ho, resolve, invoke, builtin, Sem.run_bind, Sem.run_pure, Result.andThen_ok, List.map_toArray, List.map_cons, List.map_nil, hs, hx, hrun];exact h v' w' h2 ((Below.refl base w).grown h3 hbase (fun k hk => (hown.lt k hk).1))
end
theorem new1 (w1 : World) (t : TypeId) (v : Value) : Up w1 (w1.alloc (.cells #[v] t)) ∧ (w1.alloc (.cells #[v] t)).cell? ⟨w1.heap.size, 0, none⟩ = some v ∧
    (w1.alloc (.cells #[v] t)).heap[w1.heap.size]? = some (.cells #[v] t (0, 0)) :=
  ⟨(Up.refl _).alloc _, by rw [cell_of_row _ w1.heap.size 0 #[v] t (0, 0) (heap_alloc_new w1 _)]; rfl, heap_alloc_new w1 _⟩
theorem blk_one {w : World} {b : Nat} {v : Value} {t : TypeId} (h : w.heap[b]? = some (.cells #[v] t (0, 0))) : w.cell? ⟨b, 0, none⟩ = some v ∧ w.frozen? ⟨b, 0, none⟩ = false :=
  ⟨by rw [cell_of_row w b 0 #[v] t (0, 0) h]; rfl, by simp [World.frozen?, h]⟩
end Go.Proofs.YtbfieomjobbhoaaGreatDoor
/- Walks: cmp.Compare, slices.BinarySearchFunc, chart.place, chart.wrong. -/
namespace Go.Gz
def cmpV (a b : Nat) : Int := if a < b then -1 else if b < a then 1 else 0
def Srt (L : Items) : Prop := ∀ i j (hi : i < L.length) (hj : j < L.length), i < j → L[i].1 < L[j].1
def posL (L : Items) (id : Nat) : Nat := (L.takeWhile fun x => decide (x.1 < id)).length
def memL (L : Items) (id : Nat) : Bool := L.any fun x => x.1 == id
def wrongE (id : Nat) (s : Bs) (full : Bool) : Int := if 6004799503160661 ≤ id then 8 else if s = [] then 2 else if 65536 < s.length then 5 else if full then 7 else 0
end Go.Gz
namespace Go.Proofs.YtbfieomjobbhoaaGreatDoor
open Go.RowKit Go.Gz

set_option maxRecDepth 100000
theorem isnan_any (a : Nat) (w : World) : Calls Tryz.prog 107 #[.int .u64 a] w fun e w' => e = .returned (.bool false) ∧ w = w' := by
  go_enter Tryz.func107, Tryz.ntmps107;go_wp2_with fail;go_ret;exact ⟨rfl, rfl⟩
theorem cmp_any (a b : Nat) (w : World) : Calls Tryz.prog 51 #[.int .u64 a, .int .u64 b] w fun e w' => e = .returned (.int .i64 (cmpV a b)) ∧ w = w' := by
  have h0 : cmpV a b = if a < b then -1 else if b < a then 1 else 0 := rfl
  generalize cmpV a b = v at *;have H0 := Lib.hid h0;clear h0;go_enter Tryz.func51, Tryz.ntmps51;go_wp2_with (go_at_call 107; refine (isnan_any _ _).mono ?_; rintro e w' ⟨rfl, rfl⟩)
  all_goals
    go_ret;refine ⟨ret_int ?_, rfl⟩;rw [H0.out]
    first
      | (rw [if_pos (by omega)])
      | (rw [if_neg (by omega), if_pos (by omega)])
      | (rw [if_neg (by omega), if_neg (by omega)])
def BsRel (w : World) (L : Items) (id gk : Nat) (i j : Value) (wr : World) : Prop := ∃ a b : Nat, i = .int .i64 a ∧ j = .int .i64 b ∧ a ≤ b ∧ b ≤ L.length ∧ b - a ≤ gk ∧
  (∀ k (h : k < L.length), k < a → L[k].1 < id) ∧ (∀ k (h : k < L.length), b ≤ k → id ≤ L[k].1) ∧ Up w wr
theorem wrong12_any (id : Nat) (s : Bs) (full : Bool) (w : World) :
    Calls Tryz.prog 48 #[.int .u64 id, .string ⟨s.toArray⟩, .bool full] w fun e w' => e = .returned (.int .i64 (wrongE id s full)) ∧ w = w' := by
  have h0 : wrongE id s full = if 6004799503160661 ≤ id then 8 else if s = [] then 2 else if 65536 < s.length then 5 else if full then 7 else 0 := rfl
  generalize wrongE id s full = v at *;have H0 := Lib.hid h0;clear h0;by_cases h1 : 6004799503160661 ≤ id
  · have e := H0.out; rw [if_pos h1] at e;have E := Lib.hid e; clear e;have h1' : (6004799503160661 : Int) ≤ (id : Int) := by omega
    go_enter Tryz.func48, Tryz.ntmps48;go_wp2_with fail;go_ret;exact ⟨ret_int E.out.symm, rfl⟩
  have h1' : ¬ (6004799503160661 : Int) ≤ (id : Int) := by omega
  by_cases h2 : s = []
  · have e := H0.out; rw [if_neg h1, if_pos h2] at e;have E := Lib.hid e; clear e;subst h2;go_enter Tryz.func48, Tryz.ntmps48;go_wp2_with fail;go_ret;exact ⟨ret_int E.out.symm, rfl⟩
  have hb2 : (s == []) = false := by rw [beq_eq_false_iff_ne]; exact h2
  by_cases h3 : 65536 < s.length
  · have e := H0.out; rw [if_neg h1, if_neg h2, if_pos h3] at e;have E := Lib.hid e; clear e;have h3' : (65536 : Int) < (s.length : Int) := by omega
    go_enter Tryz.func48, Tryz.ntmps48;go_wp2_with fail;go_ret;exact ⟨ret_int E.out.symm, rfl⟩
  have h3' : ¬ (65536 : Int) < (s.length : Int) := by omega
  have e := H0.out; rw [if_neg h1, if_neg h2, if_neg h3] at e;have E := Lib.hid e; clear e;cases full;all_goals
    go_enter Tryz.func48, Tryz.ntmps48;go_wp2_with fail;go_ret;exact ⟨ret_int E.out.symm, rfl⟩
end Go.Proofs.YtbfieomjobbhoaaGreatDoor
/- Plain laws: charts as lists of items. -/
namespace Go.Gz
def getL : Items → Nat → Option Bs
  | [], _ => none
  | x :: r, id => if x.1 = id then some x.2 else getL r id
def delL (L : Items) (id : Nat) : Items := L.filter fun x => !(x.1 == id)
def insL (L : Items) (id : Nat) (s : Bs) : Items := ((delL L id).takeWhile fun x => decide (x.1 < id)) ++ (id, s) :: ((delL L id).dropWhile fun x => decide (x.1 < id))
def putE (L : Items) (id : Nat) (s : Bs) : Int := wrongE id s (!(getL L id).isSome && decide (2048 ≤ L.length))
def putL (L : Items) (id : Nat) (s : Bs) : Items := if putE L id s = 0 then insL L id s else L
theorem srt_iff (L : Items) : Srt L ↔ L.Pairwise (fun a b => a.1 < b.1) := (List.pairwise_iff_getElem (R := fun a b : Item => a.1 < b.1) (l := L)).symm
end Go.Gz
/- Walks: the reference's Get, Del and Put of charts. -/
namespace Go.Proofs.YtbfieomjobbhoaaGreatDoor
open Go.RowKit Go.Gz

set_option maxRecDepth 100000
theorem infoIt : (Tryz.prog.info? 88).map (fun i => (i.zero, i.size, i.bytes)) = some (some (.agg #[.int .u64 0, .string ⟨#[]⟩]), 2, 24) := by kernel_rfl
def OwnR (w : World) (B : Nat) (v : Value) (L : Items) : Prop := w.ownsRow B 88 2 v L.length (itV L)
theorem own_up {w w' : World} {B : Nat} {e : TypeId} {size n : Nat} {v : Value} {xs : List Value} (h : w.ownsRow B e size v n xs) (hu : Up w w') : w'.ownsRow B e size v n xs := by
  refine World.ownsRow.kept (row := none) h ⟨hu.os, hu.tape, hu.output, hu.size, fun k hk _ => hu.block hk⟩ ?_;cases v.ownBlock <;> simp
def DelEnd (w : World) (M : Items) (e : Ending) (w' : World) : Prop := ∃ v, e = .returned v ∧ OwnR w' w.heap.size v M ∧ Up w w'
end Go.Proofs.YtbfieomjobbhoaaGreatDoor
/- Walk: the reference's Put of charts. -/
namespace Go.Proofs.YtbfieomjobbhoaaGreatDoor
open Go.RowKit Go.Gz

set_option maxRecDepth 100000
def PutEnd (w : World) (M : Items) (E : Int) (e : Ending) (w' : World) : Prop := ∃ A c, e = .returned (.tuple #[.slice A M.length c, .int .i64 E]) ∧ Rd w' 2 A M.length c (itV M) ∧ Up w w'
end Go.Proofs.YtbfieomjobbhoaaGreatDoor
/- Walks: chart.Get, chart.Put. -/
namespace Go.Proofs.YtbfieomjobbhoaaGreatDoor
open Go.RowKit Go.Gz

set_option maxRecDepth 100000
theorem infoCI : (Tryz.prog.info? 54).map (fun i => (i.zero, i.size, i.bytes)) = some (some (.agg #[.int .u64 0, .string ⟨#[]⟩]), 2, 24) := by kernel_rfl
def CPutEnd (w : World) (M : Items) (E : Int) (e : Ending) (w' : World) : Prop := ∃ A c, e = .returned (.tuple #[.agg #[.slice A M.length c], .int .i64 E]) ∧ Rd w' 2 A M.length c (itV M) ∧ Up w w'
end Go.Proofs.YtbfieomjobbhoaaGreatDoor
/- Rows of one type are kept where a row of another one turns. -/
namespace Go.Proofs.YtbfieomjobbhoaaGreatDoor
open Go.RowKit Go.Gz

theorem own_other {w w' : World} {base : Nat} {e e' : TypeId} {size n : Nat} {v : Value} {xs : List Value} {row : Option Nat} (h : w.ownsRow base e size v n xs) (hg : w.grownBy w' row) (hr : ∀ r, row = some r → ∃ cur fz, w.heap[r]? = some (.cells cur e' fz)) (hne : e' ≠ e) : w'.ownsRow base e size v n xs := by
  refine h.kept hg ?_;rcases h.2 with ⟨rfl, _⟩ | ⟨g, cap, cur, rfl, _, hh, _⟩
  · exact .inl rfl
  · cases row with
    | none => right; simp [Value.ownBlock]
    | some r =>
      right;obtain ⟨cur', fz, hr⟩ := hr r rfl;intro e2;injection e2 with e2;have e2 : g = r := e2;subst e2;rw [hh] at hr;injection hr with hr;injection hr with _ hr _;exact hne hr.symm
theorem own_row {w : World} {base : Nat} {e : TypeId} {size n : Nat} {v : Value} {xs : List Value} (h : w.ownsRow base e size v n xs) : ∀ r, v.ownBlock = some r → ∃ cur fz, w.heap[r]? = some (.cells cur e fz) := by
  intro r hr;rcases h.2 with ⟨rfl, _⟩ | ⟨g, cap, cur, rfl, _, hh, _⟩
  · cases hr
  · have hr : some g = some r := hr;injection hr with hr;subst hr;exact ⟨cur, _, hh⟩
end Go.Proofs.YtbfieomjobbhoaaGreatDoor
/- Walks: gazetteerlaw12.Over, Own. -/
namespace Go.Gz
def sumL (L : Items) : Nat := (L.map fun x => x.2.length).sum
def ownL (l : Items) : Items := l.foldl (fun M x => putL M x.1 x.2) []
end Go.Gz
namespace Go.Proofs.YtbfieomjobbhoaaGreatDoor
open Go.RowKit Go.Gz

set_option maxRecDepth 100000
def OverEnd (P : Prop) (w : World) (e : Ending) (w' : World) : Prop := ∃ b, e = .returned (.bool b) ∧ (b = false → P) ∧ w = w'
theorem Rd.far {w : World} {n c g : Nat} {A : Option Addr} {L : Items} {A' : Option Addr} {n' c' : Nat} {T : TypeId} (h : Rd w 2 A n c (itV L)) (hg : w.heap[g]? = some (.cells #[.slice A' n' c'] T (0, 0))) (x : Value) : Rd (w.setCell ⟨g, 0, none⟩ x) 2 A n c (itV L) := by
  refine ⟨h.1, h.2.1, h.2.2.1, h.2.2.2.1, fun hn => ?_⟩;obtain ⟨b, o, e, hc⟩ := h.2.2.2.2 hn;refine ⟨b, o, e, fun j u hj => ?_⟩;have hbg : b ≠ g := by
    rintro rfl;have hl := h.1;rw [itV_len] at hl;obtain ⟨g1, _⟩ := itV_get L 0 (by omega);have hc0 := hc 0 _ (by simpa using g1);rw [cell_of_row w b (o + 0) _ T (0, 0) hg] at hc0;cases o with
    | zero => cases hc0
    | succ o => simp at hc0
  have := hc j u hj;rw [← this];exact World.cell?_of_block (Below.heap_setCell w ⟨g, 0, none⟩ x b hbg)
/-- one slice in a block of its own -/
def One (w : World) (g : Nat) (T : TypeId) (v : Value) : Prop := w.heap[g]? = some (.cells #[v] T (0, 0))
def OwnEnd (w : World) (M : Items) (e : Ending) (w' : World) : Prop := ∃ A c A' c', e = .returned (.tuple #[.agg #[.slice A M.length c], .slice A' M.length c']) ∧ Rd w' 2 A M.length c (itV M) ∧ Rd w' 2 A' M.length c' (itV M) ∧ Up w w'
def OwRel (w : World) (l : Items) (gk : Nat) (d i : Value) (wr : World) : Prop := ∃ (k : Nat) (A1 : Option Addr) (c1 : Nat) (A2 : Option Addr) (c2 : Nat), k + gk = l.length ∧ i = .int .i64 k ∧ d = .slice A2 (ownL (l.take k)).length c2 ∧
  wr.heap[w.heap.size]? = some (.cells #[.slice none 0 0] 33 (0, 0)) ∧ wr.heap[w.heap.size + 1]? = some (.cells #[.slice A1 (ownL (l.take k)).length c1] 33 (0, 0)) ∧
  Rd wr 2 A1 (ownL (l.take k)).length c1 (itV (ownL (l.take k))) ∧ Rd wr 2 A2 (ownL (l.take k)).length c2 (itV (ownL (l.take k))) ∧ Up w wr
end Go.Proofs.YtbfieomjobbhoaaGreatDoor
/- A list stays where the turned blocks hold no such cell. -/
namespace Go.Proofs.YtbfieomjobbhoaaGreatDoor
open Go.RowKit Go.Gz
set_option maxRecDepth 100000
/-- a list stays where the turned blocks hold no such cell -/
theorem Rd.tw {w w' : World} {S : List Nat} {size n c : Nat} {A : Option Addr} {xs : List Value} (h : Rd w size A n c xs) (t : Tw S w w') (j0 : Nat) (hj : 0 < n → ∃ v0, xs[j0]? = some v0 ∧ ∀ q ∈ S, ∀ o, w.cell? ⟨q, o, none⟩ ≠ some v0) : Rd w' size A n c xs := by
  refine ⟨h.1, h.2.1, h.2.2.1, h.2.2.2.1, fun hn => ?_⟩;obtain ⟨b, o, e, hc⟩ := h.2.2.2.2 hn;obtain ⟨v0, h1, h2⟩ := hj hn;refine ⟨b, o, e, fun j u hu => ?_⟩;have hcu := hc j u hu;have hb : b ∉ S := fun hb => h2 b hb _ (hc j0 v0 h1);have hlt := World.block_lt_of_cell? _ _ hcu;unfold World.cell? at hcu ⊢;rw [t.block b hlt hb];exact hcu
end Go.Proofs.YtbfieomjobbhoaaGreatDoor
/- Walks: slices.Equal, chart.Same of a chart and itself. -/
namespace Go.Proofs.YtbfieomjobbhoaaGreatDoor
open Go.RowKit Go.Gz Go.Shelf

set_option maxRecDepth 100000
set_option maxHeartbeats 4000000 in
theorem equal_any (M : Items) (hl : M.length ≤ 1000000) (A1 : Option Addr) (c1 : Nat) (A2 : Option Addr) (c2 : Nat) (w : World) (h1 : Rd w 2 A1 M.length c1 (itV M)) (h2 : Rd w 2 A2 M.length c2 (itV M)) :
    Calls Tryz.prog 59 #[.slice A1 M.length c1, .slice A2 M.length c2] w fun e w' => e = .returned (.bool true) ∧ Up w w' := by
  have HR1 := Lib.hid h1;have HR2 := Lib.hid h2;clear h1 h2;go_enter Tryz.func59, Tryz.ntmps59;go_wp2_with fail;go_loopg [13] M.length (fun gk i wr => ∃ k : Nat, k + gk = M.length ∧ i = .int .i64 (k : Int) ∧ Up w wr)
  case atStart => exact ⟨0, by omega, rfl, Up.refl w⟩
  case round =>
    obtain ⟨k, hk, rfl, hu⟩ := hrel;by_cases hlt : k < M.length
    · obtain ⟨m, rfl⟩ : ∃ x, gk = x + 1 := ⟨gk - 1, by omega⟩;obtain ⟨b1, o1, rfl, p0, p1⟩ := (HR1.out.up hu).item hlt;obtain ⟨b2, o2, rfl, q0, q1⟩ := (HR2.out.up hu).item hlt;obtain ⟨⟨n, t⟩, hx⟩ : ∃ x, M[k] = x := ⟨_, rfl⟩;rw [hx] at p0 p1 q0 q1;simp only at p0 p1 q0 q1;have HU := Lib.hid hu;have kI : (k : Int) < (M.length : Int) := by omega
      clear hx hu;go_wp2_with fail;refine wp_region_held_drew (S := fun w' => (w'.cell? ⟨b1, o1 + k * 2, none⟩ = some (.int .u64 (n : Int)) ∧ w'.cell? ⟨b1, o1 + k * 2 + 1, none⟩ = some (.string ⟨t.toArray⟩) ∧ w'.cell? ⟨b2, o2 + k * 2, none⟩ = some (.int .u64 (n : Int)) ∧ w'.cell? ⟨b2, o2 + k * 2 + 1, none⟩ = some (.string ⟨t.toArray⟩))) (by kernel_rfl) ⟨p0, p1, q0, q1⟩ (fun hHeld => ?_);refine tk 0 rfl ?_;(try simp only [Act.put, tz1, tz2, tz3]);refine tk 1 rfl ?_;(try simp only [Act.put, tz1, tz2, tz3]);refine tk 2 rfl ?_;(try simp only [Act.put, tz1, tz2, tz3]);refine tk 3 rfl ?_;(try simp only [Act.put, tz1, tz2, tz3]);refine tk 4 rfl ?_;(try simp only [Act.put, tz1, tz2, tz3]);refine tk 5 rfl ?_;(try simp only [Act.put, tz1, tz2, tz3]);refine tk 6 rfl ?_;(try simp only [Act.put, tz1, tz2, tz3]);refine tk 7 rfl ?_;(try simp only [Act.put, tz1, tz2, tz3]);refine tk 8 rfl ?_;(try simp only [Act.put, tz1, tz2, tz3])

      refine wpAnyH_done (by kernel_rfl) ?_ _;clear hHeld;go_wp2_with fail;go_roundg m
      case measure => omega
      case rel => exact ⟨k + 1, by omega, by go_num, HU.out.drew⟩
    · obtain rfl : k = M.length := by omega
      obtain rfl : gk = 0 := by omega
      have kI : ¬ (M.length : Int) < (M.length : Int) := by omega
      go_wp2_with fail;go_ret;exact ⟨rfl, hu⟩
theorem same_any (M : Items) (hl : M.length ≤ 1000000) (A1 : Option Addr) (c1 : Nat) (A2 : Option Addr) (c2 : Nat) (w : World) (h1 : Rd w 2 A1 M.length c1 (itV M)) (h2 : Rd w 2 A2 M.length c2 (itV M)) :
    Calls Tryz.prog 23 #[.agg #[.slice A1 M.length c1], .agg #[.slice A2 M.length c2]] w fun e w' => e = .returned (.bool true) ∧ Up w w' := by
  have EQ := fun w h1 h2 => Lib.hid (equal_any M hl A1 c1 A2 c2 w h1 h2);have n1 := new1 w 33 (.slice A1 M.length c1);have n2 := new1 (w.alloc (.cells #[.slice A1 M.length c1] 33)) 33 (.slice A2 M.length c2);rw [World.size_alloc] at n2;have d0 := n2.1.cell n1.2.1;have d1 := n2.2.1;have HU := Lib.hid (n1.1.trans n2.1);have HR1 := Lib.hid (h1.up (n1.1.trans n2.1));have HR2 := Lib.hid (h2.up (n1.1.trans n2.1));clear n1 n2 h1 h2;go_enter Tryz.func23, Tryz.ntmps23;go_wp2_with fail;with_reducible refine (EQ _ HR1.out HR2.out).out.mono ?_
  rintro e w1 ⟨rfl, hu1⟩;go_wp2_with fail;go_ret;exact ⟨rfl, HU.out.trans hu1⟩
end Go.Proofs.YtbfieomjobbhoaaGreatDoor
