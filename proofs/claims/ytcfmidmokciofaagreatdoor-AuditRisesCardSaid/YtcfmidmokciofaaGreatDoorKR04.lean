/- What a slice of structs holds ('Rd'), of items ('itV'); append onto a row of the call's own. -/
import Derived.Test.YtcfmidmokciofaaGreatDoorKR02
import Derived.ArgAppend
import Derived.Deep.AppendLies
import Derived.Maps.AppendAt
import Derived.Deep.Draws
import Derived.Deep.RegionLawGrows
import Derived.Test.YtcfmidmokciofaaGreatDoorKR01
namespace Go.Gz
abbrev Item := Nat × Bs
abbrev Items := List Item
def itV (L : Items) : List Value := L.flatMap fun x => [.int .u64 (x.1 : Int), .string ⟨x.2.toArray⟩]
theorem itV_cons (x : Item) (L : Items) : itV (x :: L) = .int .u64 (x.1 : Int) :: .string ⟨x.2.toArray⟩ :: itV L := rfl
theorem itV_app (L M : Items) : itV (L ++ M) = itV L ++ itV M := by simp [itV]
theorem itV_len (L : Items) : (itV L).length = L.length * 2 := by
  induction L with
  | nil => rfl
  | cons x r ih => rw [itV_cons]; simp [ih]; omega
theorem itV_get (L : Items) : ∀ k (h : k < L.length), (itV L)[k * 2]? = some (.int .u64 (L[k].1 : Int)) ∧ (itV L)[k * 2 + 1]? = some (.string ⟨L[k].2.toArray⟩) := by
  induction L with
  | nil => intro k h; simp at h
  | cons x r ih =>
    intro k h;rw [itV_cons];cases k with
    | zero => exact ⟨rfl, rfl⟩
    | succ k =>
      have := ih k (by simp at h; omega);rw [show (k + 1) * 2 = k * 2 + 1 + 1 by omega];simpa using this
end Go.Gz
namespace Go.Proofs.YtcfmidmokciofaaGreatDoor
open Go.RowKit Go.Gz

theorem add_plain (b o j : Nat) : (⟨b, o, none⟩ : Addr).add j = ⟨b, o + j, none⟩ := by unfold Addr.add; split <;> simp_all
/-- a slice (address A, length n, capacity c) that reads as the cells xs -/
def Rd (w : World) (size : Nat) (A : Option Addr) (n c : Nat) (xs : List Value) : Prop :=
  xs.length = n * size ∧ n ≤ c ∧ c ≤ maxLen ∧ (A = none → c = 0) ∧ (0 < n → ∃ b o, A = some ⟨b, o, none⟩ ∧ ∀ j u, xs[j]? = some u → w.cell? ⟨b, o + j, none⟩ = some u)
section
variable {w w' : World} {size n c : Nat} {A : Option Addr} {xs : List Value}
theorem Rd.up (h : Rd w size A n c xs) (hu : Up w w') : Rd w' size A n c xs :=
  ⟨h.1, h.2.1, h.2.2.1, h.2.2.2.1, fun hn => let ⟨b, o, e, hc⟩ := h.2.2.2.2 hn; ⟨b, o, e, fun j u hj => hu.cell (hc j u hj)⟩⟩
theorem Rd.nil_ (w : World) (size : Nat) : Rd w size none 0 0 [] := ⟨by simp, Nat.le_refl _, Nat.zero_le _, fun _ => rfl, fun h => absurd h (by omega)⟩
theorem Rd.of_own {base : Nat} {e : TypeId} {v : Value} (h : w.ownsRow base e size v n xs) : ∃ A c, v = .slice A n c ∧ Rd w size A n c xs := by
  have hl := h.1;rcases h.2 with ⟨h1, h2⟩ | ⟨g, cap, cur, h1, h2, h3, h4, h5, h6, h7⟩
  · subst h2; exact ⟨none, 0, h1, by simpa using hl, Nat.le_refl _, Nat.zero_le _, fun _ => rfl, fun h => absurd h (by omega)⟩
  · refine ⟨_, cap, h1, hl, h4, h5, fun h => by (cases h), fun hn => ⟨g, 0, rfl, fun j u hj => ?_⟩⟩;have := h.cells (g := g) (by rw [h1]; rfl) j u hj;rwa [add_plain] at this
/-- the cells of element k -/
theorem Rd.two (h : Rd w 2 A n c xs) {k : Nat} (hk : k < n) : ∃ b o u v, A = some ⟨b, o, none⟩ ∧ xs[k * 2]? = some u ∧ xs[k * 2 + 1]? = some v ∧ w.cell? ⟨b, o + k * 2, none⟩ = some u ∧ w.cell? ⟨b, o + k * 2 + 1, none⟩ = some v := by
  obtain ⟨b, o, e, hc⟩ := h.2.2.2.2 (by omega);have hl := h.1;have h0 : k * 2 < xs.length := by omega
  have h1 : k * 2 + 1 < xs.length := by omega
  exact ⟨b, o, _, _, e, List.getElem?_eq_getElem h0, List.getElem?_eq_getElem h1, hc _ _ (List.getElem?_eq_getElem h0), by have := hc _ _ (List.getElem?_eq_getElem h1); rwa [← Nat.add_assoc] at this⟩
theorem Rd.item {L : Items} (h : Rd w 2 A L.length c (itV L)) {k : Nat} (hk : k < L.length) : ∃ b o, A = some ⟨b, o, none⟩ ∧ w.cell? ⟨b, o + k * 2, none⟩ = some (.int .u64 (L[k].1 : Int)) ∧ w.cell? ⟨b, o + k * 2 + 1, none⟩ = some (.string ⟨L[k].2.toArray⟩) := by
  obtain ⟨b, o, u, v, e, h1, h2, h3, h4⟩ := h.two hk;obtain ⟨g1, g2⟩ := itV_get L k hk;rw [g1] at h1; rw [g2] at h2;cases h1; cases h2;exact ⟨b, o, e, h3, h4⟩
theorem Rd.one (h : Rd w 1 A n c xs) {k : Nat} (hk : k < n) : ∃ b o u, A = some ⟨b, o, none⟩ ∧ xs[k]? = some u ∧ w.cell? ⟨b, o + k, none⟩ = some u := by
  obtain ⟨b, o, e, hc⟩ := h.2.2.2.2 (by omega);have h0 : k < xs.length := by have := h.1; omega
  exact ⟨b, o, _, e, List.getElem?_eq_getElem h0, hc _ _ (List.getElem?_eq_getElem h0)⟩
/-- s[lo:hi:mx] -/
theorem Rd.cut (h : Rd w size A n c xs) {lo hi mx : Nat} (h1 : lo ≤ hi) (h2 : hi ≤ n) (h3 : hi ≤ mx) (h4 : mx ≤ c) :
    Rd w size (if mx = lo then A else A.map (·.add (lo * size))) (hi - lo) (mx - lo) ((xs.drop (lo * size)).take ((hi - lo) * size)) := by
  refine ⟨?_, by omega, by have := h.2.2.1; omega, fun hA => ?_, fun hn => ?_⟩
  · rw [List.length_take, List.length_drop, h.1];have : (hi - lo) * size ≤ n * size - lo * size := by rw [← Nat.sub_mul]; exact Nat.mul_le_mul_right _ (by omega)
    omega
  · split at hA
    · omega
    · cases A with
      | none => have := h.2.2.2.1 rfl; omega
      | some a => cases hA
  · obtain ⟨b, o, rfl, hc⟩ := h.2.2.2.2 (by omega);rw [if_neg (by omega)];refine ⟨b, o + lo * size, by simp [add_plain], fun j u hj => ?_⟩;have hj' : xs[lo * size + j]? = some u := by
      rw [List.getElem?_take] at hj;split at hj
      · rwa [List.getElem?_drop] at hj
      · cases hj
    have := hc _ _ hj';rwa [← Nat.add_assoc] at this
end
section
variable {P : Program} {w : World} {size n c : Nat} {A : Option Addr} {xs : List Value} {t e : TypeId} {i : TypeInfo}
theorem elem_of (ht : P.underlying t = some (.slice e)) : P.elem t = e := by simp [Program.elem, ht]
theorem size_run (hi : P.info? e = some i) (hz : i.size = size) (w' : World) : (sizeOf e).run P w' = .ok size w' := by
  subst hz; simp [sizeOf, typeInfo, hi]
end
section
variable {P : Program} (w : World)
theorem run_append_of_nil (base : Nat) (t ty e : TypeId) (i : TypeInfo) (size : Nat) (ht : P.underlying t = some (.slice e)) (hi : P.info? e = some i)
    (v : Value) (n : Nat) (xs : List Value) (hown : w.ownsRow base e size v n xs) (c : Nat) : (Builtin.append_ #[t, t] ty #[v, .slice none 0 c]).run P w = .ok v w := by
  rcases hown.2 with ⟨rfl, rfl⟩ | ⟨g, cap, cur, rfl, _, _, hnc, _⟩
  · simp [Builtin.append_, run_underlying ht, sizeOf, typeInfo, hi, Builtin.lenOf, Builtin.firstCells]
  · simp [Builtin.append_, run_underlying ht, sizeOf, typeInfo, hi, Builtin.lenOf, Builtin.firstCells, hnc, storeCells]
/-- 'append(s, xs...)' onto a row of the call's own, xs whatever slice -/
theorem wpList_append_rd {ops : Array Oper} {rest : List Oper} {o : Oper} {a : Act} {Q : Exit → Act → World → Prop} (hgd : o.guard = none) (s x : Operand) (t : TypeId)
    (ho : o.op = .call { callee := .builtin .append, args := #[s, x], argTypes := #[t, t] })
    (base : Nat) (e : TypeId) (i : TypeInfo) (z : Value) (size bytes : Nat) (ht : P.underlying t = some (.slice e)) (hi : P.info? e = some i) (hz : i.zero = some z)
    (hsize : i.size = size) (hby : i.bytes = bytes) (hzs : z.cells.size = size) (hsz : 0 < size)
    (v : Value) (n : Nat) (xs : List Value) (hs : a.eval s = v) (hown : w.ownsRow base e size v n xs)
    (A : Option Addr) (m c : Nat) (news : List Value) (hx : a.eval x = .slice A m c) (hr : Rd w size A m c news) (h1 : ∀ u ∈ news, u.oneCell' = true)
    (hn : n + m ≤ 1000000) (hb1 : bytes ≤ 1000) (hbase : base ≤ w.heap.size)
    (h : ∀ v' w', w'.ownsRow base e size v' (n + m) (xs ++ news) → Below base w w' → wpList P ops Q rest (a.put o.dst v') w') : wpList P ops Q (o :: rest) a w := by
  have hbytes : (n + m) * bytes ≤ 140737488355328 := by
    have := Nat.mul_le_mul hn hb1; omega
  have key : ∃ v' w', (Builtin.append_ #[t, t] o.type #[v, .slice A m c]).run P w = .ok v' w' ∧ w'.ownsRow base e size v' (n + m) (xs ++ news) ∧ w.grownBy w' v.ownBlock := by
    rcases A with _ | ad
    · have hm : m = 0 := by have := hr.2.1; have := hr.2.2.2.1 rfl; omega
      subst hm;have hn : news = [] := List.eq_nil_of_length_eq_zero (by simpa using hr.1);subst hn;exact ⟨v, w, run_append_of_nil w base t o.type e i size ht hi v n xs hown c, by simpa using hown, World.grownBy.refl w _⟩
    · have hcells : ∀ j u, news[j]? = some u → w.cell? (ad.add j) = some u := by
        intro j u hu;rcases Nat.eq_zero_or_pos m with h0 | h0
        · subst h0;have hn : news = [] := List.eq_nil_of_length_eq_zero (by simpa using hr.1);subst hn;simp at hu
        · obtain ⟨b, o', h, hc⟩ := hr.2.2.2.2 h0;injection h with h;subst h;rw [add_plain];exact hc j u hu
      obtain ⟨v', w', hrun, h2, h3, _⟩ := run_append_own_at (P := P) w base t o.type e i z size bytes ht hi hz hsize hby hzs hsz v n xs hown ad m c news hr.1 hcells h1 (by unfold maxLen; omega) hbytes hbase;exact ⟨v', w', hrun, h2, h3⟩
  obtain ⟨v', w', hrun, h2, h3⟩ := key;refine wpList_plain hgd fun _ hK => ?_;unfold Oper.wp execOp;simp only [ho, resolve, invoke, builtin, Sem.run_bind, Sem.run_pure, Result.andThen_ok, List.map_toArray, List.map_cons, List.map_nil, hs, hx, hrun];exact hK _ _ (h v' w' h2 ((Below.refl base w).grown h3 hbase (fun k hk => (hown.lt k hk).1)))
/-- 'append(s[:k:k], x)': no room: a row of the call's own -/
theorem wpList_append_full {ops : Array Oper} {rest : List Oper} {o : Oper} {a : Act} {Q : Exit → Act → World → Prop} (hgd : o.guard = none) (s x : Operand) (t : TypeId)
    (ho : o.op = .call { callee := .builtin .append, args := #[s, x], argTypes := #[t, t] })
    (e : TypeId) (i : TypeInfo) (z : Value) (size bytes : Nat) (ht : P.underlying t = some (.slice e)) (hi : P.info? e = some i) (hz : i.zero = some z)
    (hsize : i.size = size) (hby : i.bytes = bytes) (hzs : z.cells.size = size) (hsz : 0 < size)
    (A : Option Addr) (n : Nat) (xs : List Value) (hs : a.eval s = .slice A n n) (hr : Rd w size A n n xs)
    (ad : Addr) (m c : Nat) (news : List Value) (hx : a.eval x = .slice (some ad) m c) (hnl : news.length = m * size) (hc : ∀ j u, news[j]? = some u → w.cell? (ad.add j) = some u) (h1 : ∀ u ∈ news, u.oneCell' = true) (hm : 0 < m)
    (hn : n + m ≤ 1000000) (hb1 : bytes ≤ 1000)
    (h : ∀ v' w', w'.ownsRow w.heap.size e size v' (n + m) (xs ++ news) → Up w w' → wpList P ops Q rest (a.put o.dst v') w') : wpList P ops Q (o :: rest) a w := by
  have hbytes : (n + m) * bytes ≤ 140737488355328 := by
    have := Nat.mul_le_mul hn hb1; omega
  refine wpList_append_grows w hgd s x t ho e i z size bytes ht hi hz hsize hby hzs hsz A n n xs hs (fun hA => by have := hr.2.2.2.1 hA; omega) hr.1 ?_ ad m c news hx hnl hc h1 (by omega) (by unfold maxLen; omega) hbytes ?_
  · intro b hb j u hj;rcases Nat.eq_zero_or_pos n with h0 | h0
    · subst h0;have : xs = [] := List.eq_nil_of_length_eq_zero (by simpa using hr.1);subst this; simp at hj
    · obtain ⟨b', o', e', hc'⟩ := hr.2.2.2.2 h0;rw [hb] at e'; injection e' with e'; subst e';rw [add_plain]; exact hc' j u hj
  · intro v' w' h2 h3;exact h v' w' h2 ((Below.refl w.heap.size w).grown h3 (Nat.le_refl _) (fun k hk => by cases hk))
end
theorem blk_one {w : World} {b : Nat} {v : Value} {t : TypeId} (h : w.heap[b]? = some (.cells #[v] t (0, 0))) : w.cell? ⟨b, 0, none⟩ = some v ∧ w.frozen? ⟨b, 0, none⟩ = false :=
  ⟨by rw [cell_of_row w b 0 #[v] t (0, 0) h]; rfl, by simp [World.frozen?, h]⟩
end Go.Proofs.YtcfmidmokciofaaGreatDoor
/- Walks: cmp.Compare, slices.BinarySearchFunc, chart.place, chart.wrong. -/
namespace Go.Gz
def cmpV (a b : Nat) : Int := if a < b then -1 else if b < a then 1 else 0
def Srt (L : Items) : Prop := ∀ i j (hi : i < L.length) (hj : j < L.length), i < j → L[i].1 < L[j].1
def posL (L : Items) (id : Nat) : Nat := (L.takeWhile fun x => decide (x.1 < id)).length
def memL (L : Items) (id : Nat) : Bool := L.any fun x => x.1 == id
def wrongE (id : Nat) (s : Bs) (full : Bool) : Int := if 6004799503160661 ≤ id then 8 else if s = [] then 2 else if 65536 < s.length then 5 else if full then 7 else 0
end Go.Gz
namespace Go.Proofs.YtcfmidmokciofaaGreatDoor
open Go.RowKit Go.Gz

set_option maxRecDepth 100000
theorem isnan_any (a : Nat) (w : World) : Calls Tryz.prog 99 #[.int .u64 a] w fun e w' => e = .returned (.bool false) ∧ w = w' := by
  go_enter Tryz.func99, Tryz.ntmps99;go_wp2_with fail;go_ret;exact ⟨rfl, rfl⟩
theorem cmp_any (a b : Nat) (w : World) : Calls Tryz.prog 44 #[.int .u64 a, .int .u64 b] w fun e w' => e = .returned (.int .i64 (cmpV a b)) ∧ w = w' := by
  have h0 : cmpV a b = if a < b then -1 else if b < a then 1 else 0 := rfl
  generalize cmpV a b = v at *;have H0 := Lib.hid h0;clear h0;go_enter Tryz.func44, Tryz.ntmps44;go_wp2_with (go_at_call 99; refine (isnan_any _ _).mono ?_; rintro e w' ⟨rfl, rfl⟩)
  all_goals
    go_ret;refine ⟨ret_int ?_, rfl⟩;rw [H0.out]
    first
      | (rw [if_pos (by omega)])
      | (rw [if_neg (by omega), if_pos (by omega)])
      | (rw [if_neg (by omega), if_neg (by omega)])
def BsRel (w : World) (L : Items) (id gk : Nat) (i j : Value) (wr : World) : Prop := ∃ a b : Nat, i = .int .i64 a ∧ j = .int .i64 b ∧ a ≤ b ∧ b ≤ L.length ∧ b - a ≤ gk ∧
  (∀ k (h : k < L.length), k < a → L[k].1 < id) ∧ (∀ k (h : k < L.length), b ≤ k → id ≤ L[k].1) ∧ Up w wr
theorem wrong12_any (id : Nat) (s : Bs) (full : Bool) (w : World) :
    Calls Tryz.prog 41 #[.int .u64 id, .string ⟨s.toArray⟩, .bool full] w fun e w' => e = .returned (.int .i64 (wrongE id s full)) ∧ w = w' := by
  have h0 : wrongE id s full = if 6004799503160661 ≤ id then 8 else if s = [] then 2 else if 65536 < s.length then 5 else if full then 7 else 0 := rfl
  generalize wrongE id s full = v at *;have H0 := Lib.hid h0;clear h0;by_cases h1 : 6004799503160661 ≤ id
  · have e := H0.out; rw [if_pos h1] at e;have E := Lib.hid e; clear e;have h1' : (6004799503160661 : Int) ≤ (id : Int) := by omega
    go_enter Tryz.func41, Tryz.ntmps41;go_wp2_with fail;go_ret;exact ⟨ret_int E.out.symm, rfl⟩
  have h1' : ¬ (6004799503160661 : Int) ≤ (id : Int) := by omega
  by_cases h2 : s = []
  · have e := H0.out; rw [if_neg h1, if_pos h2] at e;have E := Lib.hid e; clear e;subst h2;go_enter Tryz.func41, Tryz.ntmps41;go_wp2_with fail;go_ret;exact ⟨ret_int E.out.symm, rfl⟩
  have hb2 : (s == []) = false := by rw [beq_eq_false_iff_ne]; exact h2
  by_cases h3 : 65536 < s.length
  · have e := H0.out; rw [if_neg h1, if_neg h2, if_pos h3] at e;have E := Lib.hid e; clear e;have h3' : (65536 : Int) < (s.length : Int) := by omega
    go_enter Tryz.func41, Tryz.ntmps41;go_wp2_with fail;go_ret;exact ⟨ret_int E.out.symm, rfl⟩
  have h3' : ¬ (65536 : Int) < (s.length : Int) := by omega
  have e := H0.out; rw [if_neg h1, if_neg h2, if_neg h3] at e;have E := Lib.hid e; clear e;cases full;all_goals
    go_enter Tryz.func41, Tryz.ntmps41;go_wp2_with fail;go_ret;exact ⟨ret_int E.out.symm, rfl⟩
end Go.Proofs.YtcfmidmokciofaaGreatDoor
/- Plain laws: charts as lists of items. -/
namespace Go.Gz
def getL : Items → Nat → Option Bs
  | [], _ => none
  | x :: r, id => if x.1 = id then some x.2 else getL r id
def delL (L : Items) (id : Nat) : Items := L.filter fun x => !(x.1 == id)
def insL (L : Items) (id : Nat) (s : Bs) : Items := ((delL L id).takeWhile fun x => decide (x.1 < id)) ++ (id, s) :: ((delL L id).dropWhile fun x => decide (x.1 < id))
def putE (L : Items) (id : Nat) (s : Bs) : Int := wrongE id s (!(getL L id).isSome && decide (2048 ≤ L.length))
def putL (L : Items) (id : Nat) (s : Bs) : Items := if putE L id s = 0 then insL L id s else L
theorem srt_iff (L : Items) : Srt L ↔ L.Pairwise (fun a b => a.1 < b.1) := (List.pairwise_iff_getElem (R := fun a b : Item => a.1 < b.1) (l := L)).symm
end Go.Gz
/- Plain laws: the entries of a chart, and its contents. -/
namespace Go.Gz
/-- contents, each once -/
def addC (cs : List Bs) (s : Bs) : List Bs := if s ∈ cs then cs else cs ++ [s]
def offC (cs : List Bs) (s : Bs) : Nat := (cs.takeWhile fun t => t != s).flatten.length
def goesE (a b : Ent) : Bool := decide (b.id = lastE a + 1) && decide (b.off = a.off) && decide (b.len = a.len)
def pushE (out : Ents) (e : Ent) : Ents :=
  match out.getLast? with
  | none => [e]
  | some b => if goesE b e then out.dropLast ++ [{ b with run := b.run + 1 }] else out ++ [e]
def itemE (cs : List Bs) (x : Item) : Ent := ⟨x.1, offC (addC cs x.2) x.2, x.2.length, 1⟩
def rowsStep (st : Ents × List Bs) (x : Item) : Ents × List Bs := (pushE st.1 (itemE st.2 x), addC st.2 x.2)
def rowsL (L : Items) : Ents × List Bs := L.foldl rowsStep ([], [])
theorem rows_snoc (L : Items) (x : Item) : rowsL (L ++ [x]) = rowsStep (rowsL L) x := by unfold rowsL; rw [List.foldl_append]; rfl
/-- charts: rising, each tile not empty, not too long, of an identifier that there is -/
structure Good (L : Items) : Prop where
  srt : Srt L
  len : L.length ≤ 2048
  id : ∀ x ∈ L, x.1 < 6004799503160661
  ne : ∀ x ∈ L, x.2 ≠ []
  sz : ∀ x ∈ L, x.2.length ≤ 65536
def total (L : Items) : Nat := (L.map fun x => x.2.length).sum
theorem flat_snoc (cs : List Bs) (s : Bs) : (cs ++ [s]).flatten = cs.flatten ++ s := by simp
theorem add_nodup {cs : List Bs} (h : cs.Nodup) (s : Bs) : (addC cs s).Nodup := by
  unfold addC; split
  · exact h
  · rename_i hn;rw [List.nodup_append];exact ⟨h, List.pairwise_singleton _ _, fun a ha b hb e => by simp at hb; subst hb; subst e; exact hn ha⟩
theorem add_mem (cs : List Bs) (s : Bs) : s ∈ addC cs s := by
  unfold addC; split
  · assumption
  · simp
theorem add_sub {cs : List Bs} {s t : Bs} (h : t ∈ cs) : t ∈ addC cs s := by
  unfold addC; split
  · exact h
  · simp [h]
theorem off_app {cs : List Bs} {s : Bs} (h : s ∈ cs) (ds : List Bs) : offC (cs ++ ds) s = offC cs s := by
  induction cs with
  | nil => simp at h
  | cons c r ih =>
    unfold offC at *;rw [List.cons_append, List.takeWhile_cons, List.takeWhile_cons];by_cases e : c = s
    · simp [e]
    · rw [if_pos (by simpa using e)];rcases List.mem_cons.1 h with h | h
      · exact absurd h.symm e
      · have := ih h;simp only [List.flatten_cons, List.length_append, this];simp [e]
theorem off_new {cs : List Bs} {s : Bs} (h : s ∉ cs) : offC (cs ++ [s]) s = cs.flatten.length := by
  induction cs with
  | nil => simp [offC]
  | cons c r ih =>
    have h1 : c ≠ s := by intro e; subst e; exact h (by simp)
    have := ih (by intro g; exact h (by simp [g]));unfold offC at *;rw [List.cons_append, List.takeWhile_cons, if_pos (by simpa using h1), List.flatten_cons, List.length_append, this, List.flatten_cons, List.length_append]
theorem off_add {cs : List Bs} {s t : Bs} (h : t ∈ cs) : offC (addC cs s) t = offC cs t := by
  unfold addC; split
  · rfl
  · exact off_app h _
/-- where a content stands -/
theorem off_at {cs : List Bs} {s : Bs} (h : s ∈ cs) : ∃ a b, cs.flatten = a ++ (s ++ b) ∧ a.length = offC cs s := by
  induction cs with
  | nil => simp at h
  | cons c r ih =>
    unfold offC at *;rw [List.takeWhile_cons];by_cases e : c = s
    · subst e; exact ⟨[], r.flatten, by simp, by simp⟩
    · rcases List.mem_cons.1 h with h | h
      · exact absurd h.symm e
      · obtain ⟨a, b, h1, h2⟩ := ih h;refine ⟨c ++ a, b, by rw [List.flatten_cons, h1]; simp, ?_⟩;rw [if_pos (by simpa using e)];simp [h2]
theorem off_end {cs : List Bs} {s : Bs} (h : s ∈ cs) : offC cs s + s.length ≤ cs.flatten.length := by
  obtain ⟨a, b, h1, h2⟩ := off_at h;rw [h1]; simp; omega
theorem off_take {cs : List Bs} {s : Bs} (h : s ∈ cs) : (cs.flatten.drop (offC cs s)).take s.length = s := by
  obtain ⟨a, b, h1, h2⟩ := off_at h;rw [h1, ← h2]; simp
theorem push_len (out : Ents) (e : Ent) : (pushE out e).length ≤ out.length + 1 := by
  unfold pushE;split
  · simp
  · rename_i b hb;split
    · rw [List.length_append, List.length_dropLast, List.length_singleton];omega
    · simp
theorem rows_inv (L : Items) (h : Good L) (ht : total L ≤ 1099511627776) :
    (rowsL L).1.length ≤ L.length ∧ (∀ x ∈ L, x.2 ∈ (rowsL L).2) ∧ (∀ s ∈ (rowsL L).2, ∃ x ∈ L, x.2 = s) ∧ (rowsL L).2.Nodup ∧ (rowsL L).2.flatten.length ≤ total L ∧
    (∀ e ∈ (rowsL L).1, chkE e = 0 ∧ 1 ≤ e.run ∧ e.len ≤ 65536) ∧ (rowsL L).1.Pairwise (fun a b => a.id + wideE a ≤ b.id) ∧
    ((rowsL L).1.getLast?.map fun e => e.id + e.run) = L.getLast?.map fun x => x.1 + 1 := by
  induction L using snoc_ind with
  | h0 => simp [rowsL, total]
  | h1 L x ih =>
    have hg : Good L := by
      refine ⟨?_, by have := h.len; simp at this; omega, fun y hy => h.id y (by simp [hy]), fun y hy => h.ne y (by simp [hy]), fun y hy => h.sz y (by simp [hy])⟩;have := (srt_iff _).1 h.srt;rw [List.pairwise_append] at this;exact (srt_iff _).2 this.1
    have hlast : ∀ y ∈ L, y.1 < x.1 := by
      have := (srt_iff _).1 h.srt;rw [List.pairwise_append] at this;exact fun y hy => this.2.2 y hy x (by simp)
    have htt : total (L ++ [x]) = total L + x.2.length := by unfold total; simp
    rw [htt] at ht ⊢;obtain ⟨i1, i2, i3, i4, i5, i6, i7, i8⟩ := ih hg (by omega);rw [rows_snoc];unfold rowsStep;have hx1 := h.id x (by simp);have hx2 := h.ne x (by simp);have hx3 := h.sz x (by simp);have hxl : 0 < x.2.length := List.length_pos_iff.2 hx2;have hmem := add_mem (rowsL L).2 x.2;have hend := off_end hmem;have hfl : (addC (rowsL L).2 x.2).flatten.length ≤ total L + x.2.length := by
      unfold addC; split
      · omega
      · rw [flat_snoc, List.length_append]; omega
    have hchk : chkE (itemE (rowsL L).2 x) = 0 := by
      unfold itemE;exact chk_mk hxl (by simp [wideE]; omega) (by simp; omega)
    refine ⟨?_, ?_, ?_, add_nodup i4 _, hfl, ?_⟩
    · have := push_len (rowsL L).1 (itemE (rowsL L).2 x);simp; omega
    · intro y hy;rcases List.mem_append.1 hy with hy | hy
      · exact add_sub (i2 y hy)
      · simp at hy; subst hy; exact hmem
    · intro s hs;unfold addC at hs;split at hs
      · obtain ⟨y, hy, e⟩ := i3 s hs; exact ⟨y, by simp [hy], e⟩
      · rcases List.mem_append.1 hs with hs | hs
        · obtain ⟨y, hy, e⟩ := i3 s hs; exact ⟨y, by simp [hy], e⟩
        · simp at hs; exact ⟨x, by simp, hs.symm⟩
    · unfold pushE;cases hb : (rowsL L).1.getLast? with
      | none =>
        simp only;refine ⟨fun e he => ?_, List.pairwise_singleton _ _, by simp [itemE]⟩;simp at he; subst he;exact ⟨hchk, by simp [itemE], by simp [itemE]; omega⟩
      | some b =>
        rw [hb] at i8;obtain ⟨y, hy, hyb⟩ : ∃ y, L.getLast? = some y ∧ b.id + b.run = y.1 + 1 := by
          cases hy : L.getLast? with
          | none => rw [hy] at i8; simp at i8
          | some y => rw [hy] at i8; exact ⟨y, rfl, by simpa using i8⟩
        have hyx := hlast y (List.mem_of_getLast? hy);have hbm := List.mem_of_getLast? hb;obtain ⟨c1, c2, c3⟩ := i6 b hbm;have hw : wideE b = b.run := by unfold wideE; omega
        obtain ⟨pre, hpre⟩ : ∃ pre, (rowsL L).1 = pre ++ [b] := by
          exact List.getLast?_eq_some_iff.1 hb
        simp only;rw [hpre] at i6 i7 ⊢;rw [List.pairwise_append] at i7;split
        · rename_i hgo;rw [List.dropLast_concat];unfold goesE at hgo;simp only [Bool.and_eq_true, decide_eq_true_eq] at hgo;obtain ⟨⟨g1, g2⟩, g3⟩ := hgo;rw [last_ok c1, hw] at g1;have g1' : x.1 = b.id + b.run - 1 + 1 := g1;have hw2 : wideE { b with run := b.run + 1 } = b.run + 1 := by unfold wideE; simp only; omega
          have k1 := chk_ok c1;have hchk2 : chkE { b with run := b.run + 1 } = 0 := chk_mk k1.1 (by rw [hw2]; simp; omega) k1.2.2;refine ⟨fun e he => ?_, ?_, ?_⟩
          · rcases List.mem_append.1 he with he | he
            · exact i6 e (by simp [he])
            · simp at he; subst he; exact ⟨hchk2, by simp, c3⟩
          · rw [List.pairwise_append];refine ⟨i7.1, List.pairwise_singleton _ _, fun a ha e he => ?_⟩;simp at he; subst he;exact i7.2.2 a ha b (by simp)
          · simp; omega
        · refine ⟨fun e he => ?_, ?_, by simp [itemE]⟩
          · rcases List.mem_append.1 he with he | he
            · exact i6 e he
            · simp at he; subst he; exact ⟨hchk, by simp [itemE], by simp [itemE]; omega⟩
          · rw [List.pairwise_append, List.pairwise_append];refine ⟨i7, List.pairwise_singleton _ _, fun a ha e he => ?_⟩;simp at he; subst he;show a.id + wideE a ≤ x.1
            rcases List.mem_append.1 ha with ha | ha
            · have := i7.2.2 a ha b (by simp); omega
            · simp at ha; subst ha; omega
theorem rows_row {L : Items} (h : Good L) (ht : total L ≤ 1099511627776) : rowE (rowsL L).1 = 0 := by
  obtain ⟨i1, _, _, _, _, i6, i7, _⟩ := rows_inv L h ht;exact (row_iff _).2 ⟨by have := h.len; omega, fun e he => (i6 e he).1, i7⟩
theorem push_sum (out : Ents) (e : Ent) (h : e.run = 1) : ((pushE out e).map fun e => e.run).sum = (out.map fun e => e.run).sum + 1 := by
  unfold pushE;split
  · rename_i hb;have : out = [] := by simpa using hb
    subst this; simp [h]
  · rename_i b hb;obtain ⟨pre, hp⟩ := List.getLast?_eq_some_iff.1 hb;rw [hp];split
    · rw [List.dropLast_concat]; simp; omega
    · simp [h]; omega
theorem rows_sum (L : Items) : ((rowsL L).1.map fun e => e.run).sum = L.length := by
  induction L using snoc_ind with
  | h0 => rfl
  | h1 L x ih => rw [rows_snoc]; unfold rowsStep; rw [push_sum _ _ rfl, ih]; simp
theorem le_sum {xs : List Nat} {x : Nat} (h : x ∈ xs) : x ≤ xs.sum := by
  induction xs with
  | nil => simp at h
  | cons a r ih =>
    rw [List.sum_cons];rcases List.mem_cons.1 h with rfl | h
    · omega
    · have := ih h; omega
theorem rows_ok {L : Items} (h : Good L) (ht : total L ≤ 1099511627776) : ∀ e ∈ (rowsL L).1, okE e := by
  obtain ⟨i1, _, _, _, _, i6, i7, _⟩ := rows_inv L h ht;intro e he;obtain ⟨c1, c2, c3⟩ := i6 e he;have := chk_ok c1;have := wide_pos e;unfold okE;have hr : e.run < 4294967296 := by
    have h1 := le_sum (List.mem_map_of_mem (f := fun e : Ent => e.run) he);rw [rows_sum] at h1;have := h.len;omega
  omega
end Go.Gz
/- Plain laws: the archive of a chart. -/
namespace Go.Gz
/-- how many contents entries tell of -/
def seenE (l : Ents) : List (Nat × Nat) := l.foldl (fun acc e => if chkE e = 0 ∧ 0 < e.run then (if (e.off, e.len) ∈ acc then acc else acc ++ [(e.off, e.len)]) else acc) []
def contE (l : Ents) : Nat := (seenE l).length
theorem seenE_snoc (l : Ents) (e : Ent) : seenE (l ++ [e]) = if chkE e = 0 ∧ 0 < e.run then (if (e.off, e.len) ∈ seenE l then seenE l else seenE l ++ [(e.off, e.len)]) else seenE l := by unfold seenE; rw [List.foldl_append]; rfl
theorem seenE_len (l : Ents) : contE l ≤ l.length := by
  unfold contE;induction l using snoc_ind with
  | h0 => simp [seenE]
  | h1 l e ih =>
    rw [seenE_snoc];split
    · split
      · simp; omega
      · simp; omega
    · simp; omega
/-- an identifier's zoom -/
def zoomV (id : Nat) : Int := if 6004799503160661 ≤ id then -1 else (((Lib.bitLen (3 * id + 1) - 1) / 2 : Nat) : Int)
theorem zoom_in {id : Nat} (h : id < 6004799503160661) : 0 ≤ zoomV id ∧ zoomV id ≤ 26 := by
  unfold zoomV;rw [if_neg (by omega)];have := Lib.bitLen_le (3 * id + 1) 54 (by omega) (by omega);omega
theorem bitLen_mono {a b : Nat} (h : a ≤ b) (hb : b < 2 ^ 64) (h0 : a ≠ 0) : Lib.bitLen a ≤ Lib.bitLen b := by
  have h1 := Lib.bitLenAux_bounds 64 a (by omega) h0;have h2 := Lib.bitLenAux_bounds 64 b hb (by omega);unfold Lib.bitLen;rcases Nat.lt_or_ge (Lib.bitLenAux 64 b) (Lib.bitLenAux 64 a) with g | g
  · have : 2 ^ Lib.bitLenAux 64 b ≤ 2 ^ (Lib.bitLenAux 64 a - 1) := Nat.pow_le_pow_right (by omega) (by omega);omega
  · exact g
theorem zoom_mono {a b : Nat} (h : a ≤ b) (hb : b < 6004799503160661) : zoomV a ≤ zoomV b := by
  unfold zoomV;rw [if_neg (by omega), if_neg (by omega)];have := bitLen_mono (a := 3 * a + 1) (b := 3 * b + 1) (by omega) (by omega) (by omega);omega
def minZ (L : Items) : Int := match L.head? with | some x => zoomV x.1 | none => 0
def maxZ (L : Items) : Int := match L.getLast? with | some x => zoomV x.1 | none => 0
def headH (L : Items) (l : Ents) (kind : Nat) : Hdr :=
  { zH with adr := L.length, ent := l.length, con := contE l, clu := true, inn := 1, out := 1, kind := kind, minz := minZ L, maxz := maxZ L, zoom := minZ L, minlon := -1800000000, maxlon := 1800000000, minlat := -850511287, maxlat := 850511287 }
/-- the archive of a chart by a plan that may be -/
def pressV (L : Items) (b kind : Nat) (note : Bs) : Int × Bs :=
  if (splitV (rowsL L).1 b).1 ≠ 0 then ((splitV (rowsL L).1 b).1, [])
  else if encE (splitV (rowsL L).1 b).2.1 ≠ 0 then (encE (splitV (rowsL L).1 b).2.1, [])
  else (glueE (headH L (rowsL L).1 kind) (encB (splitV (rowsL L).1 b).2.1) note (splitV (rowsL L).1 b).2.2.1 (rowsL L).2.flatten,
    glueB (headH L (rowsL L).1 kind) (encB (splitV (rowsL L).1 b).2.1) note (splitV (rowsL L).1 b).2.2.1 (rowsL L).2.flatten)
theorem good_z {L : Items} (h : Good L) : 0 ≤ minZ L ∧ minZ L ≤ 26 ∧ 0 ≤ maxZ L ∧ maxZ L ≤ 26 ∧ minZ L ≤ maxZ L := by
  unfold minZ maxZ;cases L with
  | nil => simp
  | cons x r =>
    have hx := zoom_in (h.id x (by simp));have hy : ∃ y ∈ x :: r, (x :: r).getLast? = some y := by
      cases h : (x :: r).getLast? with
      | none => simp at h
      | some y => exact ⟨y, List.mem_of_getLast? h, rfl⟩
    obtain ⟨y, hy1, hy2⟩ := hy;have hz := zoom_in (h.id y hy1);rw [hy2];simp only [List.head?_cons];refine ⟨hx.1, hx.2, hz.1, hz.2, zoom_mono ?_ (h.id y hy1)⟩;rcases List.mem_cons.1 hy1 with rfl | hy1
    · exact Nat.le_refl _
    · exact Nat.le_of_lt ((List.pairwise_cons.1 ((srt_iff _).1 h.srt)).1 y hy1)
theorem press_ok {L : Items} (h : Good L) (hl : L.length ≤ 1000) (ht : total L ≤ 1000000000) {b kind : Nat} (hb : 512 ≤ b) (hb2 : b ≤ 16257) (hk : kind ≤ 5) {note : Bs} (hn : note.length ≤ 4096) :
    ∃ root text : Bs, (pressV L b kind note) = (0, hdrB (withH (headH L (rowsL L).1 kind) root.length note.length text.length (rowsL L).2.flatten.length) ++ (root ++ (note ++ (text ++ (rowsL L).2.flatten)))) ∧
      hdrE (withH (headH L (rowsL L).1 kind) root.length note.length text.length (rowsL L).2.flatten.length) = 0 ∧ root = dirB (splitV (rowsL L).1 b).2.1 ∧ text = (splitV (rowsL L).1 b).2.2.1 ∧ root.length ≤ b ∧ rowE (splitV (rowsL L).1 b).2.1 = 0 := by
  obtain ⟨i1, i2, i3, i4, i5, i6, i7, i8⟩ := rows_inv L h (by omega);have hrow := rows_row h (by omega);have hok := rows_ok h (by omega);obtain ⟨s1, s2, s3, s4⟩ := split_ok hb hb2 hrow hok (by omega) (fun e he => (i6 e he).2.1);have henc : encE (splitV (rowsL L).1 b).2.1 = 0 := enc_mk s2 (by omega);have htext : (splitV (rowsL L).1 b).2.2.1.length ≤ 65536 * 1024 := by
    rcases s4 with ⟨e, _⟩ | ⟨n, hn, _, e, hall⟩
    · rw [e]; simp
    · rw [e];have := dirs_len hall;have h2 := flat_len (cut_ne (rowsL L).1 hn);rw [cut_flat _ hn] at h2;omega
  obtain ⟨z1, z2, z3, z4, z5⟩ := good_z h;refine ⟨dirB (splitV (rowsL L).1 b).2.1, (splitV (rowsL L).1 b).2.2.1, ?_⟩;have hB : encB (splitV (rowsL L).1 b).2.1 = dirB (splitV (rowsL L).1 b).2.1 := by unfold encB; rw [if_pos henc]
  have hsec : sect (dirB (splitV (rowsL L).1 b).2.1).length note.length (splitV (rowsL L).1 b).2.2.1.length (rowsL L).2.flatten.length = 0 := by
    unfold sect TOT; rw [if_neg (by omega)]
  have hh : hdrE (withH (headH L (rowsL L).1 kind) (dirB (splitV (rowsL L).1 b).2.1).length note.length (splitV (rowsL L).1 b).2.2.1.length (rowsL L).2.flatten.length) = 0 := by
    refine hdr_mk ?_ ?_ ?_ ?_ ?_
    · unfold withH TOT; simp only; omega
    · unfold withH headH; simp only; omega
    · unfold withH headH; simp only; omega
    · unfold withH headH; simp [zH]
    · unfold withH headH; simp [zH]
  refine ⟨?_, hh, rfl, rfl, s3, s2⟩;unfold pressV;rw [if_neg (by omega), if_neg (by omega), hB];have hg : glueE (headH L (rowsL L).1 kind) (dirB (splitV (rowsL L).1 b).2.1) note (splitV (rowsL L).1 b).2.2.1 (rowsL L).2.flatten = 0 := by
    unfold glueE; rw [if_neg (by omega), hh]
  unfold glueB;rw [if_pos hg, hg]
end Go.Gz
/- Walks: entries of directories: wide, Check, Last, Has, Row. -/
namespace Go.Gz
/-- an entry as a value -/
def entA (e : Ent) : Value := .agg #[.int .u64 (e.id : Int), .int .u64 (e.off : Int), .int .u32 (e.len : Int), .int .u32 (e.run : Int)]
end Go.Gz
namespace Go.Proofs.YtcfmidmokciofaaGreatDoor
open Go.RowKit Go.Gz

set_option maxRecDepth 100000
/-- a new block of four cells -/
theorem new4 (w : World) (t : TypeId) (a b c d : Value) : Up w (w.alloc (.cells #[a, b, c, d] t)) ∧ (w.alloc (.cells #[a, b, c, d] t)).cell? ⟨w.heap.size, 0, none⟩ = some a ∧ (w.alloc (.cells #[a, b, c, d] t)).cell? ⟨w.heap.size, 1, none⟩ = some b ∧
    (w.alloc (.cells #[a, b, c, d] t)).cell? ⟨w.heap.size, 2, none⟩ = some c ∧ (w.alloc (.cells #[a, b, c, d] t)).cell? ⟨w.heap.size, 3, none⟩ = some d := by
  have hb := heap_alloc_new w (.cells #[a, b, c, d] t);exact ⟨(Up.refl _).alloc _, cell_of_row _ w.heap.size 0 _ _ _ hb, cell_of_row _ w.heap.size 1 _ _ _ hb, cell_of_row _ w.heap.size 2 _ _ _ hb, cell_of_row _ w.heap.size 3 _ _ _ hb⟩
theorem wide_any (e : Ent) (ho : okE e) (w : World) :
    Calls Tryz.prog 131 #[entA e] w fun en w' => en = .returned (.int .u64 (wideE e)) ∧ Up w w' := by
  obtain ⟨id, off, len, run⟩ := e;obtain ⟨h1, h2, h3, h4⟩ := ho;simp only [entA] at *;have h0 : (wideE ⟨id, off, len, run⟩ : Nat) = max 1 run := rfl;generalize wideE ⟨id, off, len, run⟩ = v at *;have H0 := Lib.hid h0;clear h0;go_enter Tryz.func131, Tryz.ntmps131;go_wp2_with fail;go_ret;refine ⟨ret_int ?_, (Up.refl w).alloc _⟩;rw [H0.out];omega
theorem end_any (e : Ent) (h : e.off ≤ 1099511627776) (ho : okE e) (w : World) :
    Calls Tryz.prog 167 #[entA e] w fun en w' => en = .returned (.int .u64 ((e.off + e.len : Nat) : Int)) ∧ Up w w' := by
  obtain ⟨id, off, len, run⟩ := e;obtain ⟨h1, h2, h3, h4⟩ := ho;simp only [entA] at *;have e1 : IntKind.u64.wrap ((off : Int) + (len : Int)) = (off : Int) + (len : Int) := IntWalk.u64_in _ (by omega);go_enter Tryz.func167, Tryz.ntmps167;go_wp2_with fail;go_ret;exact ⟨ret_int (by omega), (Up.refl w).alloc _⟩
set_option maxHeartbeats 1000000 in
theorem chk_any (e : Ent) (ho : okE e) (w : World) :
    Calls Tryz.prog 109 #[entA e] w fun en w' => en = .returned (.int .i64 (chkE e)) ∧ Up w w' := by
  have WD := fun w => Lib.hid (wide_any e ho w);have ED := fun h w => Lib.hid (end_any e h ho w);have h0 : chkE e = if e.len = 0 then 2 else if 6004799503160661 < e.id + wideE e then 8 else if 1099511627776 < e.off + e.len then 8 else 0 := rfl
  have hw : 1 ≤ wideE e ∧ wideE e < 4294967296 := by have := ho.2.2.2; unfold wideE; omega
  generalize chkE e = v at *;generalize wideE e = wd at *;obtain ⟨id, off, len, run⟩ := e;obtain ⟨h1, h2, h3, h4⟩ := ho;simp only [entA] at *;have H0 := Lib.hid h0;have n0 := new4 w 72 (.int .u64 id) (.int .u64 off) (.int .u32 len) (.int .u32 run);have HU0 := Lib.hid n0.1;have N0 := Lib.hid n0.2;clear h0 n0;by_cases c1 : len = 0
  · have E := H0.out; rw [if_pos c1] at E;have EE := Lib.hid E;clear E H0;subst c1;go_enter Tryz.func109, Tryz.ntmps109;go_wp2_with fail;go_ret;exact ⟨ret_int EE.out.symm, (Up.refl w).alloc _⟩
  have b1 : ((len : Int) == 0) = false := by rw [beq_eq_false_iff_ne]; omega
  have e1 : IntKind.u64.wrap (6004799503160661 - (wd : Int)) = 6004799503160661 - (wd : Int) := IntWalk.u64_in _ (by omega);by_cases c2 : 6004799503160661 < id + wd
  · have E := H0.out; rw [if_neg c1, if_pos c2] at E;have EE := Lib.hid E;clear E H0 c1;have b2 : 6004799503160661 - (wd : Int) < (id : Int) := by omega
    clear c2;go_enter Tryz.func109, Tryz.ntmps109;go_wp2_with fail;generalize hW : w.alloc _ = W at *;obtain ⟨c0, c1, c2, c3⟩ := N0.out;have MK := Lib.hid (fun w' (h : Up W w') => (⟨h, h.cell N0.out.1, h.cell N0.out.2.1, h.cell N0.out.2.2.1, h.cell N0.out.2.2.2⟩ : Up W w' ∧ w'.cell? ⟨w.heap.size, 0, none⟩ = some (.int .u64 id) ∧ w'.cell? ⟨w.heap.size, 1, none⟩ = some (.int .u64 off) ∧ w'.cell? ⟨w.heap.size, 2, none⟩ = some (.int .u32 len) ∧ w'.cell? ⟨w.heap.size, 3, none⟩ = some (.int .u32 run)))
    go_region_held3 (fun w' => Up W w' ∧ w'.cell? ⟨w.heap.size, 0, none⟩ = some (.int .u64 id) ∧ w'.cell? ⟨w.heap.size, 1, none⟩ = some (.int .u64 off) ∧ w'.cell? ⟨w.heap.size, 2, none⟩ = some (.int .u32 len) ∧ w'.cell? ⟨w.heap.size, 3, none⟩ = some (.int .u32 run))
      (first
      | assumption
      | exact MK.out _ (Up.refl _)
      | exact MK.out _ (Up.refl _).drew
      | exact MK.out _ (Up.trans (And.left (by assumption)) (by assumption))
      | exact MK.out _ (Up.alloc (And.left (by assumption)) _)
      | exact MK.out _ (Up.trans (Up.alloc (And.left (by assumption)) _) (by assumption)))
      (first
        | (go_at_call 131; refine (WD _).out.mono ?_; rintro e w1 ⟨rfl, hu1⟩))
    all_goals
      obtain ⟨su, s0, s1, s2, s3⟩ : Up W w1 ∧ w1.cell? ⟨w.heap.size, 0, none⟩ = some (.int .u64 id) ∧ w1.cell? ⟨w.heap.size, 1, none⟩ = some (.int .u64 off) ∧ w1.cell? ⟨w.heap.size, 2, none⟩ = some (.int .u32 len) ∧ w1.cell? ⟨w.heap.size, 3, none⟩ = some (.int .u32 run) := by assumption
      go_wp2_with fail;go_ret;exact ⟨ret_int EE.out.symm, HU0.out.trans su⟩
  have b2 : ¬ 6004799503160661 - (wd : Int) < (id : Int) := by omega
  by_cases c3 : 1099511627776 < off
  · have E := H0.out; rw [if_neg c1, if_neg c2, if_pos (by omega)] at E;have EE := Lib.hid E;clear E H0 c1;have b3 : 1099511627776 < (off : Int) := by omega
    clear c2 c3;go_enter Tryz.func109, Tryz.ntmps109;go_wp2_with fail;generalize hW : w.alloc _ = W at *;obtain ⟨c0, c1, c2, c3⟩ := N0.out;have MK := Lib.hid (fun w' (h : Up W w') => (⟨h, h.cell N0.out.1, h.cell N0.out.2.1, h.cell N0.out.2.2.1, h.cell N0.out.2.2.2⟩ : Up W w' ∧ w'.cell? ⟨w.heap.size, 0, none⟩ = some (.int .u64 id) ∧ w'.cell? ⟨w.heap.size, 1, none⟩ = some (.int .u64 off) ∧ w'.cell? ⟨w.heap.size, 2, none⟩ = some (.int .u32 len) ∧ w'.cell? ⟨w.heap.size, 3, none⟩ = some (.int .u32 run)))
    go_region_held3 (fun w' => Up W w' ∧ w'.cell? ⟨w.heap.size, 0, none⟩ = some (.int .u64 id) ∧ w'.cell? ⟨w.heap.size, 1, none⟩ = some (.int .u64 off) ∧ w'.cell? ⟨w.heap.size, 2, none⟩ = some (.int .u32 len) ∧ w'.cell? ⟨w.heap.size, 3, none⟩ = some (.int .u32 run))
      (first
      | assumption
      | exact MK.out _ (Up.refl _)
      | exact MK.out _ (Up.refl _).drew
      | exact MK.out _ (Up.trans (And.left (by assumption)) (by assumption))
      | exact MK.out _ (Up.alloc (And.left (by assumption)) _)
      | exact MK.out _ (Up.trans (Up.alloc (And.left (by assumption)) _) (by assumption)))
      (first
        | (go_at_call 131; refine (WD _).out.mono ?_; rintro e w1 ⟨rfl, hu1⟩))
    all_goals
      obtain ⟨su, s0, s1, s2, s3⟩ : Up W w1 ∧ w1.cell? ⟨w.heap.size, 0, none⟩ = some (.int .u64 id) ∧ w1.cell? ⟨w.heap.size, 1, none⟩ = some (.int .u64 off) ∧ w1.cell? ⟨w.heap.size, 2, none⟩ = some (.int .u32 len) ∧ w1.cell? ⟨w.heap.size, 3, none⟩ = some (.int .u32 run) := by assumption
      go_wp2_with fail;go_ret;exact ⟨ret_int EE.out.symm, HU0.out.trans su⟩
  have b3 : ¬ 1099511627776 < (off : Int) := by omega
  have ED := fun w => ED (by omega) w;by_cases c4 : 1099511627776 < off + len
  · have E := H0.out; rw [if_neg c1, if_neg c2, if_pos c4] at E;have EE := Lib.hid E;clear E H0 c1;have b4 : 1099511627776 < ((off + len : Nat) : Int) := by omega
    generalize off + len = oe at *;clear c2 c3 c4;go_enter Tryz.func109, Tryz.ntmps109;go_wp2_with fail;generalize hW : w.alloc _ = W at *;obtain ⟨c0, c1, c2, c3⟩ := N0.out;have MK := Lib.hid (fun w' (h : Up W w') => (⟨h, h.cell N0.out.1, h.cell N0.out.2.1, h.cell N0.out.2.2.1, h.cell N0.out.2.2.2⟩ : Up W w' ∧ w'.cell? ⟨w.heap.size, 0, none⟩ = some (.int .u64 id) ∧ w'.cell? ⟨w.heap.size, 1, none⟩ = some (.int .u64 off) ∧ w'.cell? ⟨w.heap.size, 2, none⟩ = some (.int .u32 len) ∧ w'.cell? ⟨w.heap.size, 3, none⟩ = some (.int .u32 run)))
    go_region_held3 (fun w' => Up W w' ∧ w'.cell? ⟨w.heap.size, 0, none⟩ = some (.int .u64 id) ∧ w'.cell? ⟨w.heap.size, 1, none⟩ = some (.int .u64 off) ∧ w'.cell? ⟨w.heap.size, 2, none⟩ = some (.int .u32 len) ∧ w'.cell? ⟨w.heap.size, 3, none⟩ = some (.int .u32 run))
      (first
      | assumption
      | exact MK.out _ (Up.refl _)
      | exact MK.out _ (Up.refl _).drew
      | exact MK.out _ (Up.trans (And.left (by assumption)) (by assumption))
      | exact MK.out _ (Up.alloc (And.left (by assumption)) _)
      | exact MK.out _ (Up.trans (Up.alloc (And.left (by assumption)) _) (by assumption)))
      (first
        | (go_at_call 131; refine (WD _).out.mono ?_; rintro e w1 ⟨rfl, hu1⟩))
    all_goals
      obtain ⟨su, s0, s1, s2, s3⟩ : Up W w1 ∧ w1.cell? ⟨w.heap.size, 0, none⟩ = some (.int .u64 id) ∧ w1.cell? ⟨w.heap.size, 1, none⟩ = some (.int .u64 off) ∧ w1.cell? ⟨w.heap.size, 2, none⟩ = some (.int .u32 len) ∧ w1.cell? ⟨w.heap.size, 3, none⟩ = some (.int .u32 run) := by assumption
      go_wp2_with fail;refine (ED _).out.mono ?_;rintro e w2 ⟨rfl, hu2⟩;go_wp2_with fail;go_ret;exact ⟨ret_int EE.out.symm, HU0.out.trans (su.trans hu2)⟩
  · have E := H0.out; rw [if_neg c1, if_neg c2, if_neg c4] at E;have EE := Lib.hid E;clear E H0 c1;have b4 : ¬ 1099511627776 < ((off + len : Nat) : Int) := by omega
    generalize off + len = oe at *;clear c2 c3 c4;go_enter Tryz.func109, Tryz.ntmps109;go_wp2_with fail;generalize hW : w.alloc _ = W at *;obtain ⟨c0, c1, c2, c3⟩ := N0.out;have MK := Lib.hid (fun w' (h : Up W w') => (⟨h, h.cell N0.out.1, h.cell N0.out.2.1, h.cell N0.out.2.2.1, h.cell N0.out.2.2.2⟩ : Up W w' ∧ w'.cell? ⟨w.heap.size, 0, none⟩ = some (.int .u64 id) ∧ w'.cell? ⟨w.heap.size, 1, none⟩ = some (.int .u64 off) ∧ w'.cell? ⟨w.heap.size, 2, none⟩ = some (.int .u32 len) ∧ w'.cell? ⟨w.heap.size, 3, none⟩ = some (.int .u32 run)))
    go_region_held3 (fun w' => Up W w' ∧ w'.cell? ⟨w.heap.size, 0, none⟩ = some (.int .u64 id) ∧ w'.cell? ⟨w.heap.size, 1, none⟩ = some (.int .u64 off) ∧ w'.cell? ⟨w.heap.size, 2, none⟩ = some (.int .u32 len) ∧ w'.cell? ⟨w.heap.size, 3, none⟩ = some (.int .u32 run))
      (first
      | assumption
      | exact MK.out _ (Up.refl _)
      | exact MK.out _ (Up.refl _).drew
      | exact MK.out _ (Up.trans (And.left (by assumption)) (by assumption))
      | exact MK.out _ (Up.alloc (And.left (by assumption)) _)
      | exact MK.out _ (Up.trans (Up.alloc (And.left (by assumption)) _) (by assumption)))
      (first
        | (go_at_call 131; refine (WD _).out.mono ?_; rintro e w1 ⟨rfl, hu1⟩))
    all_goals
      obtain ⟨su, s0, s1, s2, s3⟩ : Up W w1 ∧ w1.cell? ⟨w.heap.size, 0, none⟩ = some (.int .u64 id) ∧ w1.cell? ⟨w.heap.size, 1, none⟩ = some (.int .u64 off) ∧ w1.cell? ⟨w.heap.size, 2, none⟩ = some (.int .u32 len) ∧ w1.cell? ⟨w.heap.size, 3, none⟩ = some (.int .u32 run) := by assumption
      go_wp2_with fail;refine (ED _).out.mono ?_;rintro e w2 ⟨rfl, hu2⟩;go_wp2_with fail;go_ret;exact ⟨ret_int EE.out.symm, HU0.out.trans (su.trans hu2)⟩
set_option maxHeartbeats 1000000 in
theorem may_any (e : Ent) (ho : okE e) (w : World) :
    Calls Tryz.prog 130 #[entA e] w fun en w' => en = .returned (.bool (decide (chkE e = 0))) ∧ Up w w' := by
  have CK := fun w => Lib.hid (chk_any e ho w);have hv : (chkE e == 0) = decide (chkE e = 0) := rfl;generalize chkE e = v at *;have HV := Lib.hid hv;clear hv;obtain ⟨id, off, len, run⟩ := e;obtain ⟨h1, h2, h3, h4⟩ := ho;simp only [entA] at *;have n0 := new4 w 72 (.int .u64 id) (.int .u64 off) (.int .u32 len) (.int .u32 run);have HU0 := Lib.hid n0.1;have N0 := Lib.hid n0.2;clear n0;go_enter Tryz.func130, Tryz.ntmps130;go_wp2_with fail;refine (CK _).out.mono ?_;rintro e w1 ⟨rfl, hu1⟩;go_wp2_with fail;go_ret;exact ⟨ret_bool HV.out, HU0.out.trans hu1⟩
set_option maxHeartbeats 1000000 in
theorem last_any (e : Ent) (ho : okE e) (w : World) :
    Calls Tryz.prog 77 #[entA e] w fun en w' => en = .returned (.int .u64 (lastE e)) ∧ Up w w' := by
  have MY := fun w => Lib.hid (may_any e ho w);have WD := fun w => Lib.hid (wide_any e ho w);have hw : 1 ≤ wideE e ∧ wideE e < 4294967296 := by have := ho.2.2.2; unfold wideE; omega
  have h0 : lastE e = if chkE e = 0 then e.id + wideE e - 1 else 0 := rfl
  have hid : chkE e = 0 → e.id + wideE e ≤ 6004799503160661 := fun h => (chk_ok h).2.1;generalize lastE e = v at *;generalize wideE e = wd at *;by_cases hc : chkE e = 0
  · rw [if_pos hc] at h0;have hid := hid hc;rw [decide_eq_true hc] at MY;clear hc;obtain ⟨id, off, len, run⟩ := e;obtain ⟨h1, h2, h3, h4⟩ := ho;simp only [entA] at *;have n0 := new4 w 72 (.int .u64 id) (.int .u64 off) (.int .u32 len) (.int .u32 run);have HU0 := Lib.hid n0.1;have N0 := Lib.hid n0.2;have H0 := Lib.hid h0;have e1 : IntKind.u64.wrap ((id : Int) + (wd : Int)) = (id : Int) + (wd : Int) := IntWalk.u64_in _ (by omega);have e2 : IntKind.u64.wrap ((id : Int) + (wd : Int) - 1) = (id : Int) + (wd : Int) - 1 := IntWalk.u64_in _ (by omega);clear n0 h0;go_enter Tryz.func77, Tryz.ntmps77;go_wp2_with fail;refine (MY _).out.mono ?_;rintro e w0 ⟨rfl, hu0⟩;obtain ⟨c0, c1, c2, c3⟩ := N0.out;replace c0 := hu0.cell c0;replace c1 := hu0.cell c1;replace c2 := hu0.cell c2;replace c3 := hu0.cell c3;have HU1 := Lib.hid (HU0.out.trans hu0);clear N0 HU0 hu0;go_wp2_with fail;have N0 := Lib.hid (And.intro c0 (And.intro c1 (And.intro c2 c3)));generalize w0 = W at *;have MK := Lib.hid (fun w' (h : Up W w') => (⟨h, h.cell N0.out.1, h.cell N0.out.2.1, h.cell N0.out.2.2.1, h.cell N0.out.2.2.2⟩ : Up W w' ∧ w'.cell? ⟨w.heap.size, 0, none⟩ = some (.int .u64 id) ∧ w'.cell? ⟨w.heap.size, 1, none⟩ = some (.int .u64 off) ∧ w'.cell? ⟨w.heap.size, 2, none⟩ = some (.int .u32 len) ∧ w'.cell? ⟨w.heap.size, 3, none⟩ = some (.int .u32 run)))
    go_region_held3 (fun w' => Up W w' ∧ w'.cell? ⟨w.heap.size, 0, none⟩ = some (.int .u64 id) ∧ w'.cell? ⟨w.heap.size, 1, none⟩ = some (.int .u64 off) ∧ w'.cell? ⟨w.heap.size, 2, none⟩ = some (.int .u32 len) ∧ w'.cell? ⟨w.heap.size, 3, none⟩ = some (.int .u32 run))
      (first
      | assumption
      | exact MK.out _ (Up.refl _)
      | exact MK.out _ (Up.refl _).drew
      | exact MK.out _ (Up.trans (And.left (by assumption)) (by assumption))
      | exact MK.out _ (Up.alloc (And.left (by assumption)) _)
      | exact MK.out _ (Up.trans (Up.alloc (And.left (by assumption)) _) (by assumption)))
      (first
        | (go_at_call 131; refine (WD _).out.mono ?_; rintro e w1 ⟨rfl, hu1⟩))
    all_goals
      obtain ⟨su, s0, s1, s2, s3⟩ : Up W w1 ∧ w1.cell? ⟨w.heap.size, 0, none⟩ = some (.int .u64 id) ∧ w1.cell? ⟨w.heap.size, 1, none⟩ = some (.int .u64 off) ∧ w1.cell? ⟨w.heap.size, 2, none⟩ = some (.int .u32 len) ∧ w1.cell? ⟨w.heap.size, 3, none⟩ = some (.int .u32 run) := by assumption
      go_wp2_with fail;go_ret;exact ⟨ret_int (by rw [H0.out]; omega), HU1.out.trans su⟩
  · rw [if_neg hc] at h0;rw [decide_eq_false hc] at MY;have H0 := Lib.hid h0;clear hc h0 hid;obtain ⟨id, off, len, run⟩ := e;simp only [entA] at *;have n0 := new4 w 72 (.int .u64 id) (.int .u64 off) (.int .u32 len) (.int .u32 run);have HU0 := Lib.hid n0.1;clear n0;go_enter Tryz.func77, Tryz.ntmps77;go_wp2_with fail;refine (MY _).out.mono ?_;rintro e w0 ⟨rfl, hu0⟩;go_wp2_with fail;go_ret;exact ⟨ret_int (by rw [H0.out]; rfl), HU0.out.trans hu0⟩
theorem Rd.ent {w : World} {l : Ents} {A : Option Addr} {c : Nat} (h : Rd w 4 A l.length c (entV l)) {k : Nat} (hk : k < l.length) : ∃ b o, A = some ⟨b, o, none⟩ ∧ w.cell? ⟨b, o + k * 4, none⟩ = some (.int .u64 (l[k].id : Int)) ∧ w.cell? ⟨b, o + k * 4 + 1, none⟩ = some (.int .u64 (l[k].off : Int)) ∧
    w.cell? ⟨b, o + k * 4 + 2, none⟩ = some (.int .u32 (l[k].len : Int)) ∧ w.cell? ⟨b, o + k * 4 + 3, none⟩ = some (.int .u32 (l[k].run : Int)) := by
  obtain ⟨b, o, e, hc⟩ := h.2.2.2.2 (by omega);obtain ⟨g0, g1, g2, g3⟩ := entV_get l k hk;exact ⟨b, o, e, hc _ _ g0, by have := hc _ _ g1; rwa [← Nat.add_assoc] at this, by have := hc _ _ g2; rwa [← Nat.add_assoc] at this, by have := hc _ _ g3; rwa [← Nat.add_assoc] at this⟩
set_option maxHeartbeats 2000000 in
theorem row_any (l : Ents) (hok : ∀ e ∈ l, okE e) (hl : l.length ≤ 1000000) (A : Option Addr) (c : Nat) (w : World) (hr : Rd w 4 A l.length c (entV l)) :
    Calls Tryz.prog 54 #[.slice A l.length c] w fun e w' => e = .returned (.int .i64 (rowE l)) ∧ Up w w' := by
  have HR := Lib.hid hr;have HO := Lib.hid hok;clear hr hok;by_cases hbig : 4096 < l.length
  · have e : rowE l = 21 := by unfold rowE; rw [if_pos hbig]
    rw [e];have h' : (4096 : Int) < (l.length : Int) := by omega
    go_enter Tryz.func54, Tryz.ntmps54;go_wp2_with fail;go_ret;exact ⟨rfl, Up.refl w⟩
  have h0 : rowE l = rowGo 0 l := by unfold rowE; rw [if_neg hbig]
  rw [h0];have h' : ¬ (4096 : Int) < (l.length : Int) := by omega
  generalize hT : rowGo 0 l = T at *;have HT := Lib.hid hT;clear hT h0;go_enter Tryz.func54, Tryz.ntmps54;go_wp2_with fail;go_loopg [3, 12] l.length (fun gk fr i wr => ∃ k f : Nat, k + gk = l.length ∧ i = .int .i64 k ∧ fr = .int .u64 f ∧ f ≤ 6004799503160662 ∧ rowGo f (l.drop k) = T ∧ Up w wr)
  case atStart => exact ⟨0, 0, by omega, rfl, rfl, by omega, by simpa using HT.out, Up.refl w⟩
  case round =>
    obtain ⟨k, f, hk, rfl, rfl, hf, hd, hu⟩ := hrel;have HU := Lib.hid hu;by_cases hlt : k < l.length
    · obtain ⟨m, rfl⟩ : ∃ m, gk = m + 1 := ⟨gk - 1, by omega⟩;obtain ⟨B, o, rfl, d0, d1, d2, d3⟩ := (HR.out.up hu).ent hlt;rw [List.drop_eq_getElem_cons hlt] at hd;have ho := HO.out l[k] (List.getElem_mem hlt);obtain ⟨x, hx⟩ : ∃ x, l[k]'hlt = x := ⟨_, rfl⟩;rw [hx] at d0 d1 d2 d3 hd ho;have CK := fun w => Lib.hid (chk_any x ho w);have LS := fun w => Lib.hid (last_any x ho w);have hstep : (chkE x ≠ 0 → T = chkE x) ∧ (chkE x = 0 → x.id < f → T = 10) ∧ (chkE x = 0 → ¬ x.id < f → rowGo (lastE x + 1) (l.drop (k + 1)) = T ∧ lastE x + 1 ≤ 6004799503160662) := by
        unfold rowGo at hd;refine ⟨fun h => ?_, fun h h2 => ?_, fun h h2 => ?_⟩
        · rw [if_pos h] at hd; exact hd.symm
        · rw [if_neg (by omega), if_pos h2] at hd; exact hd.symm
        · rw [if_neg (by omega), if_neg h2] at hd;refine ⟨hd, ?_⟩;have h3 := chk_ok h;rw [last_ok h]; omega
      have HS := Lib.hid hstep;have hltI : (k : Int) < (l.length : Int) := by omega
      generalize chkE x = cv at *;generalize lastE x = la at *;obtain ⟨id, off, len, run⟩ := x;simp only [entA] at *;clear hd hstep hx ho hu;have n0 := new4 wr 72 (.int .u64 id) (.int .u64 off) (.int .u32 len) (.int .u32 run);have HU1 := Lib.hid (HU.out.trans n0.1);have N0 := Lib.hid n0.2;clear n0;by_cases hc : cv = 0
      · subst hc;by_cases hlf : id < f
        · have E := Lib.hid (HS.out.2.1 rfl hlf);have hlfI : (id : Int) < (f : Int) := by omega
          clear hlf HS;go_wp2_with fail;refine (CK _).out.mono ?_;rintro e w1 ⟨rfl, hu1⟩;have c0 := hu1.cell N0.out.1;go_wp2_with fail;go_ret;exact ⟨ret_int E.out.symm, HU1.out.trans hu1⟩
        · obtain ⟨hd, hle⟩ := HS.out.2.2 rfl hlf;have HD := Lib.hid hd;have hlfI : ¬ (id : Int) < (f : Int) := by omega
          have e1 : IntKind.u64.wrap ((la : Int) + 1) = (la : Int) + 1 := IntWalk.u64_in _ (by omega);clear hd HS;go_wp2_with fail;refine (CK _).out.mono ?_;rintro e w1 ⟨rfl, hu1⟩;obtain ⟨c0, c1, c2, c3⟩ := N0.out;replace c0 := hu1.cell c0;replace c1 := hu1.cell c1;replace c2 := hu1.cell c2;replace c3 := hu1.cell c3;have HU2 := Lib.hid (HU1.out.trans hu1);clear N0 hu1;go_wp2_with fail;refine (LS _).out.mono ?_;rintro e w2 ⟨rfl, hu2⟩;go_wp2_with fail;go_roundg m
          case measure => omega
          case rel => exact ⟨k + 1, la + 1, by omega, by go_num, by go_num, hle, HD.out, HU2.out.trans hu2⟩
      · have E := Lib.hid (HS.out.1 hc);have hb : (cv != 0) = true := by rw [bne_iff_ne]; exact hc
        clear hc HS;go_wp2_with fail;refine (CK _).out.mono ?_;rintro e w1 ⟨rfl, hu1⟩;go_wp2_with fail;go_ret;exact ⟨ret_int E.out.symm, HU1.out.trans hu1⟩
    · obtain rfl : k = l.length := by omega
      rw [List.drop_length] at hd;have hd : T = 0 := hd.symm;subst hd;clear hlt;go_wp2_with fail;go_ret;exact ⟨rfl, HU.out⟩
end Go.Proofs.YtcfmidmokciofaaGreatDoor
/- Plain laws: contents in order, their places, their sums. -/
namespace Go.Gz
/-- the sum of a text -/
def fnvV (s : Bs) : Nat := s.foldl (fun h c => (Nat.xor h c.toNat * 1099511628211) % 18446744073709551616) 14695981039346656037
/-- where content k stands -/
def offK (cs : List Bs) (k : Nat) : Nat := (cs.take k).flatten.length
/-- the places whose contents have a sum -/
def hitL (cs : List Bs) (h : Nat) : List Nat := (List.range cs.length).filter fun k => fnvV (cs.getD k []) == h
theorem hit_snoc (cs : List Bs) (s : Bs) (h : Nat) : hitL (cs ++ [s]) h = hitL cs h ++ if fnvV s = h then [cs.length] else [] := by
  unfold hitL;rw [List.length_append, List.length_singleton, List.range_succ, List.filter_append];congr 1
  · apply List.filter_congr;intro k hk;have hk' : k < cs.length := List.mem_range.1 hk;simp [List.getD, List.getElem?_append_left hk']
  · simp [List.getD, List.filter_cons]
theorem hit_lt {cs : List Bs} {h k : Nat} (hk : k ∈ hitL cs h) : k < cs.length := by
  unfold hitL at hk;exact List.mem_range.1 (List.mem_filter.1 hk).1
theorem hit_len (cs : List Bs) (h : Nat) : (hitL cs h).length ≤ cs.length := by
  unfold hitL;have := List.length_filter_le (fun k => fnvV (cs.getD k []) == h) (List.range cs.length);rwa [List.length_range] at this
theorem tw_take {cs : List Bs} (hn : cs.Nodup) : ∀ {k : Nat} (hk : k < cs.length), (cs.takeWhile fun t => t != cs[k]) = cs.take k := by
  induction cs with
  | nil => intro k hk; simp at hk
  | cons c r ih =>
    intro k hk;rw [List.takeWhile_cons];cases k with
    | zero => simp
    | succ k =>
      have hr := (List.nodup_cons.1 hn);have hne : c ≠ r[k]'(by simpa using hk) := by
        intro e;exact hr.1 (e ▸ List.getElem_mem _)
      have := ih hr.2 (k := k) (by simpa using hk);simp only [List.getElem_cons_succ, List.take_succ_cons];rw [if_pos (by simpa using hne), this]
theorem off_k {cs : List Bs} (hn : cs.Nodup) {k : Nat} (hk : k < cs.length) : offC cs cs[k] = offK cs k := by
  unfold offC offK;rw [tw_take hn hk]
theorem offK_get {cs : List Bs} {k : Nat} (hk : k < cs.length) : offK cs k + cs[k].length ≤ cs.flatten.length ∧ (cs.flatten.drop (offK cs k)).take cs[k].length = cs[k] := by
  have e : cs = cs.take k ++ cs[k] :: cs.drop (k + 1) := by rw [← List.drop_eq_getElem_cons hk, List.take_append_drop]
  have e2 : cs.flatten = (cs.take k).flatten ++ (cs[k] ++ (cs.drop (k + 1)).flatten) := by
    conv => lhs; rw [e]
    rw [List.flatten_append, List.flatten_cons]
  unfold offK;rw [e2];constructor
  · rw [List.length_append, List.length_append]; omega
  · rw [List.drop_left, List.take_left]
/-- the cells of places -/
def plV (cs : List Bs) : List Value := (List.range cs.length).flatMap fun k => [.int .u64 (offK cs k : Int), .int .u32 ((cs.getD k []).length : Int)]
theorem plV_snoc (cs : List Bs) (s : Bs) : plV (cs ++ [s]) = plV cs ++ [.int .u64 (cs.flatten.length : Int), .int .u32 (s.length : Int)] := by
  unfold plV;rw [List.length_append, List.length_singleton, List.range_succ, List.flatMap_append];congr 1
  · rw [List.flatMap_def, List.flatMap_def];congr 1
    apply List.map_congr_left;intro k hk;have hk' : k < cs.length := List.mem_range.1 hk;unfold offK;rw [List.take_append_of_le_length (by omega)];simp [List.getD, List.getElem?_append_left hk']
  · simp [List.getD, offK]
theorem plV_len (cs : List Bs) : (plV cs).length = cs.length * 2 := by
  induction cs using snoc_ind with
  | h0 => rfl
  | h1 cs s ih => rw [plV_snoc]; simp [ih]; omega
theorem plV_get (cs : List Bs) {k : Nat} (hk : k < cs.length) : (plV cs)[k * 2]? = some (.int .u64 (offK cs k : Int)) ∧ (plV cs)[k * 2 + 1]? = some (.int .u32 (cs[k].length : Int)) := by
  induction cs using snoc_ind with
  | h0 => simp at hk
  | h1 cs s ih =>
    rw [plV_snoc];have hl := plV_len cs;rcases Nat.lt_or_ge k cs.length with h | h
    · have := ih h;unfold offK at this ⊢;rw [List.getElem?_append_left (by omega), List.getElem?_append_left (by omega), List.getElem_append_left h, List.take_append_of_le_length (by omega)];exact this
    · obtain rfl : k = cs.length := by simp at hk; omega
      rw [List.getElem?_append_right (by omega), List.getElem?_append_right (by omega), hl];unfold offK;simp
end Go.Gz
/- Plain laws: what was laid is taken as it was: directories, rows cut and joined, charts. -/
namespace Go.Gz
theorem colD_ok (c : Nat) (f g : Ent → Ent)
    (hset : ∀ (i : Nat) (a e : Ent), chkE e = 0 → okE e → a.id ≤ e.id → a.off + a.len ≤ 1099511627776 → setE c i (g a) (f e) (numC c i a e) = (0, g e)) :
    ∀ (l : Ents) (i : Nat) (a : Ent) (fr : Nat) (t : Bs), rowGo fr l = 0 → a.id ≤ fr → (∀ e ∈ l, okE e) → a.off + a.len ≤ 1099511627776 →
      colD c i (g a) (l.map f) ((colN c i a l).flatMap vB ++ t) = (0, l.map g, t) := by
  intro l;induction l with
  | nil => intro i a fr t _ _ _ _; rfl
  | cons e r ih =>
    intro i a fr t hr ha hok hal;have hx := colN_lt c (e :: r) i a (fun x hx => (((rowGo_iff _ _).1 hr).1 x hx).1) hok (numC c i a e) (by simp [colN]);obtain ⟨g1, g2, g3⟩ := rowGo_cons hr;have hc := chk_ok g1;have hw := wide_pos e;have hs := hset i a e g1 (hok e (by simp)) (by omega) hal;have hih := ih (i + 1) e _ t g3 (by omega) (fun x hx => hok x (by simp [hx])) hc.2.2;unfold colN;rw [List.map_cons, List.flatMap_cons, List.append_assoc];unfold colD;rw [getV_vB hx];simp only;rw [hs, List.drop_left, hih];simp
def m0 (e : Ent) : Ent := ⟨e.id, 0, 0, 0⟩
def m1 (e : Ent) : Ent := ⟨e.id, 0, 0, e.run⟩
def m2 (e : Ent) : Ent := ⟨e.id, 0, e.len, e.run⟩
theorem decD_dirB {l : Ents} (h : rowE l = 0) (hok : ∀ e ∈ l, okE e) (hs : (dirB l).length ≤ 65536) : decD (dirB l) = (0, l) := by
  have hgo := row_go h;have hlen := row_len h;have c0 := colD_ok 0 (fun _ => zE) m0 (by
    intro i a e h1 h2 h3 h4;unfold okE at h2;unfold setE numC m0 zE;simp only [if_true];rw [show (a.id + (e.id - a.id)) % 18446744073709551616 = e.id by omega, if_neg (by omega)])
  have c1 := colD_ok 1 m0 m1 (by
    intro i a e h1 h2 h3 h4;unfold okE at h2;unfold setE numC m0 m1;simp;omega)
  have c2 := colD_ok 2 m1 m2 (by
    intro i a e h1 h2 h3 h4;unfold okE at h2;unfold setE numC m1 m2;simp;omega)
  have c3 := colD_ok 3 m2 id (by
    intro i a e h1 h2 h3 h4;unfold okE at h2;obtain ⟨k1, k2, k3⟩ := chk_ok h1;have hn : nextE a = a.off + a.len := by unfold nextE; omega
    have en : numC 3 i a e = if 0 < i ∧ e.off = a.off + a.len then 0 else e.off + 1 := rfl
    have es : ∀ x, setE 3 i (id a) (m2 e) x = if i = 0 ∧ x = 0 ∨ 0 < i ∧ 0 < x ∧ (x + 18446744073709551615) % 18446744073709551616 = nextE a then (4, m2 e) else (0, { m2 e with off := if x = 0 then nextE a else (x + 18446744073709551615) % 18446744073709551616 }) := fun _ => rfl
    rw [en, es, hn];by_cases hx : 0 < i ∧ e.off = a.off + a.len
    · rw [if_pos hx, if_neg (by omega), if_pos rfl, ← hx.2]; rfl
    · rw [if_neg hx, show (e.off + 1 + 18446744073709551615) % 18446744073709551616 = e.off by omega, if_neg (by omega), if_neg (by omega)]; rfl)
  unfold decD dirB nums;rw [List.flatMap_cons, List.flatMap_append, List.flatMap_append, List.flatMap_append];have hs2 : ¬ 65536 < (vB l.length ++ ((colN 0 0 zE l).flatMap vB ++ ((colN 1 0 zE l).flatMap vB ++ ((colN 2 0 zE l).flatMap vB ++ (colN 3 0 zE l).flatMap vB)))).length := by
    have : dirB l = (vB l.length ++ ((colN 0 0 zE l).flatMap vB ++ ((colN 1 0 zE l).flatMap vB ++ ((colN 2 0 zE l).flatMap vB ++ (colN 3 0 zE l).flatMap vB)))) := by
      unfold dirB nums;rw [List.flatMap_cons, List.flatMap_append, List.flatMap_append, List.flatMap_append]
    rw [← this]; omega
  rw [if_neg hs2, getV_vB (by omega)];simp only;rw [if_neg (by simp), if_neg (by omega), List.drop_left];have e0 : List.replicate l.length zE = l.map (fun _ => zE) := by
    induction l with
    | nil => rfl
    | cons e r _ => simp [List.replicate_succ, List.map_const']
  have z0 : m0 zE = zE := rfl;have z1 : m1 zE = zE := rfl;have z2 : m2 zE = zE := rfl;have hz : zE.off + zE.len ≤ 1099511627776 := by decide
  have q0 := c0 l 0 zE 0 ((colN 1 0 zE l).flatMap vB ++ ((colN 2 0 zE l).flatMap vB ++ (colN 3 0 zE l).flatMap vB)) hgo (by decide) hok hz;have q1 := c1 l 0 zE 0 ((colN 2 0 zE l).flatMap vB ++ (colN 3 0 zE l).flatMap vB) hgo (by decide) hok hz;have q2 := c2 l 0 zE 0 ((colN 3 0 zE l).flatMap vB) hgo (by decide) hok hz;have q3 := c3 l 0 zE 0 [] hgo (by decide) hok hz;rw [z0] at q0; rw [z1] at q1; rw [z2] at q2; rw [List.append_nil] at q3;rw [e0];unfold colsD; rw [q0]; simp only;rw [if_neg (by simp)];unfold colsD; rw [q1]; simp only;rw [if_neg (by simp)];unfold colsD; rw [q2]; simp only;rw [if_neg (by simp)];unfold colsD;have q3' : colD 3 0 zE (l.map m2) ((colN 3 0 zE l).flatMap vB) = (0, l.map id, []) := q3;rw [q3']; simp only;rw [if_neg (by simp)];unfold colsD endD;simp [h]
/-- the entries of a leaf -/
def pieceE (p : Ent) (text : Bs) : Int × Ents :=
  if text.length < p.off + p.len then (8, [])
  else if (decD ((text.drop p.off).take p.len)).1 ≠ 0 then ((decD ((text.drop p.off).take p.len)).1, [])
  else if (decD ((text.drop p.off).take p.len)).2.any (fun e => e.run == 0) then (20, [])
  else if ((decD ((text.drop p.off).take p.len)).2.head?.map fun e => e.id) ≠ some p.id then (10, [])
  else (0, (decD ((text.drop p.off).take p.len)).2)
def joinGo (text : Bs) : Ents → Ents → Int × Ents
  | [], out => (0, out)
  | x :: r, out => if x.run ≠ 0 then joinGo text r (out ++ [x]) else if (pieceE x text).1 ≠ 0 then ((pieceE x text).1, []) else joinGo text r (out ++ (pieceE x text).2)
def joinE (root : Ents) (text : Bs) : Int × Ents :=
  if rowE root ≠ 0 then (rowE root, []) else if (joinGo text root []).1 ≠ 0 then ((joinGo text root []).1, [])
  else if rowE (joinGo text root []).2 ≠ 0 then (rowE (joinGo text root []).2, []) else (0, (joinGo text root []).2)
theorem joinGo_plain (text : Bs) (l : Ents) : ∀ out, (∀ e ∈ l, 1 ≤ e.run) → joinGo text l out = (0, out ++ l) := by
  induction l with
  | nil => intro out _; simp [joinGo]
  | cons x r ih =>
    intro out h;have := h x (by simp);unfold joinGo;rw [if_pos (by omega), ih _ (fun e he => h e (by simp [he]))]; simp
theorem joinGo_roots (pre : Bs) (cs : List Ents) : ∀ out, (∀ c ∈ cs, encE c = 0) → (∀ c ∈ cs, c ≠ []) → (∀ c ∈ cs, ∀ e ∈ c, okE e ∧ 1 ≤ e.run) →
    ∀ post, joinGo (pre ++ (cs.flatMap dirB ++ post)) (roots pre.length cs) out = (0, out ++ cs.flatten) := by
  induction cs generalizing pre with
  | nil => intro out _ _ _ post; simp [joinGo, roots]
  | cons c r ih =>
    intro out h1 h2 h3 post;have e1 := enc_ok (h1 c (by simp));have hd := decD_dirB e1.1 (fun e he => (h3 c (by simp) e he).1) e1.2;have hne := h2 c (by simp);obtain ⟨x, t, rfl⟩ : ∃ x t, c = x :: t := by
      cases c with
      | nil => exact absurd rfl hne
      | cons x t => exact ⟨x, t, rfl⟩
    unfold roots joinGo;rw [if_neg (by simp)];have hp : pieceE ⟨((x :: t).headD zE).id, pre.length, (dirB (x :: t)).length, 0⟩ (pre ++ (((x :: t) :: r).flatMap dirB ++ post)) = (0, x :: t) := by
      unfold pieceE;simp only [List.flatMap_cons];rw [List.drop_left, List.append_assoc, List.take_left, hd]
      rw [if_neg (by simp), if_neg (by simp), if_neg (by
        rw [List.any_eq_true];rintro ⟨e, he, h0⟩;have := (h3 (x :: t) (by simp) e he).2;simp at h0; omega), if_neg (by simp)]
    rw [hp];simp only;rw [if_neg (by simp)];have := ih (pre ++ dirB (x :: t)) (out ++ (x :: t)) (fun d hd => h1 d (by simp [hd])) (fun d hd => h2 d (by simp [hd])) (fun d hd => h3 d (by simp [hd])) post;rw [List.length_append] at this;rw [List.flatMap_cons, List.append_assoc, ← List.append_assoc pre];rw [this, List.flatten_cons, List.append_assoc]
theorem join_split {l : Ents} {b : Nat} (hb : 512 ≤ b) (hb2 : b ≤ 16257) (hr : rowE l = 0) (hok : ∀ e ∈ l, okE e) (hl : l.length ≤ 1024) (hrun : ∀ e ∈ l, 1 ≤ e.run) :
    joinE (splitV l b).2.1 (splitV l b).2.2.1 = (0, l) := by
  obtain ⟨s1, s2, s3, s4⟩ := split_ok hb hb2 hr hok hl hrun;have key : joinGo (splitV l b).2.2.1 (splitV l b).2.1 [] = (0, l) := by
    rcases s4 with ⟨e1, e2⟩ | ⟨n, hn, e1, e2, hall⟩
    · rw [e2, joinGo_plain _ _ _ hrun]; simp
    · rw [e1, e2];have hf := cut_flat l hn;have := joinGo_roots [] (cutL n l) [] hall (cut_ne l hn) (by
        intro c hc e he;have : e ∈ (cutL n l).flatten := List.mem_flatten.2 ⟨c, hc, he⟩;rw [hf] at this;exact ⟨hok e this, hrun e this⟩) []
      simpa [hf] using this
  unfold joinE;rw [if_neg (by omega), key];simp [hr]
/-- the chart of entries and contents -/
def runI (e : Ent) (data : Bs) (k : Nat) : Items := (List.range k).map fun j => (e.id + j, (data.drop e.off).take e.len)
def wrongR (e : Ent) (many : Nat) (data : Bs) : Int := if e.run = 0 then 14 else if data.length < e.off + e.len then 8 else if 2048 < many then 21 else if 65536 < e.len then 5 else 0
def backGo (data : Bs) : Ents → Nat → Items → Int × Items
  | [], _, out => (0, out)
  | x :: r, many, out => if wrongR x (many + x.run) data ≠ 0 then (wrongR x (many + x.run) data, []) else backGo data r (many + x.run) (out ++ runI x data x.run)
def backE (l : Ents) (data : Bs) : Int × Items := if rowE l ≠ 0 then (rowE l, []) else backGo data l 0 []
end Go.Gz
/- Plain laws: a chart of entries and contents: what entries tell of. -/
namespace Go.Gz
def expand (l : Ents) (data : Bs) : Items := l.flatMap fun e => runI e data e.run
theorem expand_app (l m : Ents) (data : Bs) : expand (l ++ m) data = expand l data ++ expand m data := by simp [expand]
theorem runI_succ (e : Ent) (data : Bs) (k : Nat) : runI e data (k + 1) = runI e data k ++ [(e.id + k, (data.drop e.off).take e.len)] := by
  unfold runI;rw [List.range_succ, List.map_append]; rfl
theorem runI_run (e : Ent) (data : Bs) (k r : Nat) : runI { e with run := r } data k = runI e data k := rfl
/-- what entries tell of a tile -/
def tileE (l : Ents) (data : Bs) (id : Nat) : Int × Bool × Bs :=
  match l.find? fun e => hasE e id with
  | none => (0, false, [])
  | some x => if data.length < x.off + x.len then (8, false, []) else (0, true, (data.drop x.off).take x.len)
/-- entries of a chart tell of the chart -/
theorem rows_expand (L : Items) (h : Good L) (ht : total L ≤ 1099511627776) : (∀ t, expand (rowsL L).1 ((rowsL L).2.flatten ++ t) = L) ∧ ∀ e ∈ (rowsL L).1, e.off + e.len ≤ (rowsL L).2.flatten.length := by
  induction L using snoc_ind with
  | h0 => simp [rowsL, expand]
  | h1 L x ih =>
    have hg : Good L := by
      refine ⟨?_, by have := h.len; simp at this; omega, fun y hy => h.id y (by simp [hy]), fun y hy => h.ne y (by simp [hy]), fun y hy => h.sz y (by simp [hy])⟩;have := (srt_iff _).1 h.srt;rw [List.pairwise_append] at this;exact (srt_iff _).2 this.1
    have htt : total (L ++ [x]) = total L + x.2.length := by unfold total; simp
    rw [htt] at ht;obtain ⟨i1, i2⟩ := ih hg (by omega);obtain ⟨_, _, _, _, _, j6, _, _⟩ := rows_inv L hg (by omega);rw [rows_snoc];unfold rowsStep;have hmem := add_mem (rowsL L).2 x.2;have hend := off_end hmem;have htake := off_take hmem;have hpre : ∃ u, (addC (rowsL L).2 x.2).flatten = (rowsL L).2.flatten ++ u := by
      unfold addC; split
      · exact ⟨[], by simp⟩
      · exact ⟨x.2, flat_snoc _ _⟩
    obtain ⟨u, hu⟩ := hpre;have htext : ∀ t, (((addC (rowsL L).2 x.2).flatten ++ t).drop (offC (addC (rowsL L).2 x.2) x.2)).take x.2.length = x.2 := by
      intro t;rw [List.drop_append_of_le_length (by omega), List.take_append_of_le_length (by rw [List.length_drop]; omega), htake]
    have i1' : ∀ t, expand (rowsL L).1 ((addC (rowsL L).2 x.2).flatten ++ t) = L := by
      intro t; rw [hu, List.append_assoc]; exact i1 _
    have i2' : ∀ e ∈ (rowsL L).1, e.off + e.len ≤ (addC (rowsL L).2 x.2).flatten.length := by
      intro e he; rw [hu, List.length_append]; have := i2 e he; omega
    simp only;unfold pushE;cases hb : (rowsL L).1.getLast? with
    | none =>
      have : (rowsL L).1 = [] := by simpa using hb
      rw [this] at i1';simp only;refine ⟨fun t => ?_, fun e he => ?_⟩
      · have h0 := i1' t;rw [show expand [itemE (rowsL L).2 x] ((addC (rowsL L).2 x.2).flatten ++ t) = [(x.1, x.2)] by
          unfold expand itemE runI;simp [htext t], ← h0]
        rfl
      · simp at he; subst he; exact hend
    | some b =>
      have hbm := List.mem_of_getLast? hb;obtain ⟨c1, c2, c3⟩ := j6 b hbm;have hw : wideE b = b.run := by unfold wideE; omega
      obtain ⟨pre, hpre⟩ : ∃ pre, (rowsL L).1 = pre ++ [b] := List.getLast?_eq_some_iff.1 hb;simp only;rw [hpre] at i1' i2' ⊢;split
      · rename_i hgo;unfold goesE at hgo;simp only [Bool.and_eq_true, decide_eq_true_eq] at hgo;obtain ⟨⟨g1, g2⟩, g3⟩ := hgo;rw [last_ok c1, hw] at g1;have g1' : x.1 = b.id + b.run - 1 + 1 := g1;have g2' : offC (addC (rowsL L).2 x.2) x.2 = b.off := g2;have g3' : x.2.length = b.len := g3;rw [List.dropLast_concat];refine ⟨fun t => ?_, fun e he => ?_⟩
        · have h0 := i1' t;rw [expand_app] at h0 ⊢;rw [show expand [{ b with run := b.run + 1 }] ((addC (rowsL L).2 x.2).flatten ++ t) = expand [b] ((addC (rowsL L).2 x.2).flatten ++ t) ++ [x] by
            unfold expand;simp only [List.flatMap_cons, List.flatMap_nil, List.append_nil];rw [runI_run, runI_succ, ← g2', ← g3', htext t, show b.id + b.run = x.1 by omega], ← List.append_assoc, h0]
        · rcases List.mem_append.1 he with he | he
          · exact i2' e (by simp [he])
          · simp at he; subst he; exact i2' b (by simp)
      · refine ⟨fun t => ?_, fun e he => ?_⟩
        · have h0 := i1' t;rw [expand_app, h0, show expand [itemE (rowsL L).2 x] ((addC (rowsL L).2 x.2).flatten ++ t) = [x] by
            unfold expand itemE runI;simp [htext t]]
        · rcases List.mem_append.1 he with he | he
          · exact i2' e he
          · simp at he; subst he; exact hend
end Go.Gz
/- A list stays where the turned blocks hold no such cell. -/
namespace Go.Proofs.YtcfmidmokciofaaGreatDoor
open Go.RowKit Go.Gz
set_option maxRecDepth 100000
/-- a list stays where the turned blocks hold no such cell -/
theorem Rd.tw {w w' : World} {S : List Nat} {size n c : Nat} {A : Option Addr} {xs : List Value} (h : Rd w size A n c xs) (t : Tw S w w') (j0 : Nat) (hj : 0 < n → ∃ v0, xs[j0]? = some v0 ∧ ∀ q ∈ S, ∀ o, w.cell? ⟨q, o, none⟩ ≠ some v0) : Rd w' size A n c xs := by
  refine ⟨h.1, h.2.1, h.2.2.1, h.2.2.2.1, fun hn => ?_⟩;obtain ⟨b, o, e, hc⟩ := h.2.2.2.2 hn;obtain ⟨v0, h1, h2⟩ := hj hn;refine ⟨b, o, e, fun j u hu => ?_⟩;have hcu := hc j u hu;have hb : b ∉ S := fun hb => h2 b hb _ (hc j0 v0 h1);have hlt := World.block_lt_of_cell? _ _ hcu;unfold World.cell? at hcu ⊢;rw [t.block b hlt hb];exact hcu
end Go.Proofs.YtcfmidmokciofaaGreatDoor
/- Plain: a directory of so many bytes has at most a fourth as many entries. -/
namespace Go.Gz
theorem colD_len (c : Nat) : ∀ (l : Ents) (i : Nat) (a : Ent) (t : Bs), (colD c i a l t).1 = 0 → (colD c i a l t).2.1.length = l.length ∧ (colD c i a l t).2.2.length + l.length ≤ t.length
  | [], _, _, t, _ => ⟨rfl, Nat.le_refl _⟩
  | e :: r, i, a, t, h => by
    unfold colD at h ⊢;split at h
    · contradiction
    · rename_i g1;split at h
      · contradiction
      · rename_i g2;rw [if_neg g1, if_neg g2];obtain ⟨h1, h2⟩ := colD_len c r (i + 1) (setE c i a e (getV t).2.1).2 (t.drop (getV t).2.2) h;have hg := getV_ok (by simpa using g1);rw [List.length_drop] at h2;refine ⟨by simpa using h1, ?_⟩;simp only [List.length_cons];omega
theorem colsD_len : ∀ (k c : Nat) (l : Ents) (t : Bs), (colsD c k l t).1 = 0 → (colsD c k l t).2.1.length = l.length ∧ (colsD c k l t).2.2.length + k * l.length ≤ t.length
  | 0, _, l, t, _ => ⟨rfl, by rw [Nat.zero_mul]; exact Nat.le_refl _⟩
  | k + 1, c, l, t, h => by
    unfold colsD at h ⊢;simp only at h ⊢;split at h
    · contradiction
    · rename_i g1;rw [if_neg g1];obtain ⟨h1, h2⟩ := colD_len c l 0 zE t (by simpa using g1);obtain ⟨h3, h4⟩ := colsD_len k (c + 1) _ _ h;refine ⟨h3.trans h1, ?_⟩;rw [h1] at h4;rw [Nat.succ_mul];omega
theorem decD_len {s : Bs} : 4 * (decD s).2.length ≤ s.length := by
  unfold decD;split
  · simp
  · split
    · simp
    · split
      · simp
      · unfold endD;split
        · simp
        · rename_i g4;split
          · simp
          · split
            · simp
            · obtain ⟨h1, h2⟩ := colsD_len 4 0 (List.replicate (getV s).2.1 zE) (s.drop (getV s).2.2) (by simpa using g4);simp only;rw [List.length_drop] at h2;rw [h1];omega
end Go.Gz
