/- What a slice of structs holds ('Rd'), of items ('itV'); append onto a row of the call's own. -/
import Derived.Test.YtkfococpanailaaGreatDoorGX02
import Derived.ArgAppend
import Derived.Deep.AppendLies
import Derived.Maps.AppendAt
import Derived.Deep.Draws
import Derived.Deep.RegionLawGrows
namespace Go.Gz
abbrev Item := Nat × Bs
abbrev Items := List Item
def itV (L : Items) : List Value := L.flatMap fun x => [.int .u64 (x.1 : Int), .string ⟨x.2.toArray⟩]
theorem itV_nil : itV [] = [] := rfl
theorem itV_cons (x : Item) (L : Items) : itV (x :: L) = .int .u64 (x.1 : Int) :: .string ⟨x.2.toArray⟩ :: itV L := rfl
theorem itV_app (L M : Items) : itV (L ++ M) = itV L ++ itV M := by simp [itV]
theorem itV_len (L : Items) : (itV L).length = L.length * 2 := by
  induction L with
  | nil => rfl
  | cons x r ih => rw [itV_cons]; simp [ih]; omega
theorem itV_get (L : Items) : ∀ k (h : k < L.length), (itV L)[k * 2]? = some (.int .u64 (L[k].1 : Int)) ∧ (itV L)[k * 2 + 1]? = some (.string ⟨L[k].2.toArray⟩) := by
  induction L with
  | nil => intro k h; simp at h
  | cons x r ih =>
    intro k h
    rw [itV_cons]
    cases k with
    | zero => exact ⟨rfl, rfl⟩
    | succ k =>
      have := ih k (by simp at h; omega)
      rw [show (k + 1) * 2 = k * 2 + 1 + 1 by omega]
      simpa using this
theorem itV_one (L : Items) : ∀ u ∈ itV L, u.oneCell' = true := by
  intro u hu
  simp only [itV, List.mem_flatMap] at hu
  obtain ⟨x, _, hx⟩ := hu
  simp at hx
  rcases hx with rfl | rfl <;> rfl
theorem itV_take (L : Items) (k : Nat) : itV (L.take k) = (itV L).take (k * 2) := by
  induction L generalizing k with
  | nil => simp [itV]
  | cons x r ih =>
    cases k with
    | zero => simp [itV]
    | succ k => rw [List.take_succ_cons, itV_cons, itV_cons, ih, show (k + 1) * 2 = k * 2 + 1 + 1 by omega]; rfl
theorem itV_drop (L : Items) (k : Nat) : itV (L.drop k) = (itV L).drop (k * 2) := by
  induction L generalizing k with
  | nil => simp [itV]
  | cons x r ih =>
    cases k with
    | zero => simp
    | succ k => rw [List.drop_succ_cons, itV_cons, ih, show (k + 1) * 2 = k * 2 + 1 + 1 by omega]; rfl
end Go.Gz
namespace Go.Proofs.YtkfococpanailaaGreatDoor
open Go.RowKit Go.Gz

theorem add_plain (b o j : Nat) : (⟨b, o, none⟩ : Addr).add j = ⟨b, o + j, none⟩ := by unfold Addr.add; split <;> simp_all
/-- a slice (address A, length n, capacity c) that reads as the cells xs -/
def Rd (w : World) (size : Nat) (A : Option Addr) (n c : Nat) (xs : List Value) : Prop :=
  xs.length = n * size ∧ n ≤ c ∧ c ≤ maxLen ∧ (A = none → c = 0) ∧ (0 < n → ∃ b o, A = some ⟨b, o, none⟩ ∧ ∀ j u, xs[j]? = some u → w.cell? ⟨b, o + j, none⟩ = some u)
section
variable {w w' : World} {size n c : Nat} {A : Option Addr} {xs : List Value}
theorem Rd.up (h : Rd w size A n c xs) (hu : Up w w') : Rd w' size A n c xs :=
  ⟨h.1, h.2.1, h.2.2.1, h.2.2.2.1, fun hn => let ⟨b, o, e, hc⟩ := h.2.2.2.2 hn; ⟨b, o, e, fun j u hj => hu.cell (hc j u hj)⟩⟩
theorem Rd.nil_ (w : World) (size : Nat) : Rd w size none 0 0 [] := ⟨by simp, Nat.le_refl _, Nat.zero_le _, fun _ => rfl, fun h => absurd h (by omega)⟩
theorem Rd.of_own {base : Nat} {e : TypeId} {v : Value} (h : w.ownsRow base e size v n xs) : ∃ A c, v = .slice A n c ∧ Rd w size A n c xs := by
  have hl := h.1
  rcases h.2 with ⟨h1, h2⟩ | ⟨g, cap, cur, h1, h2, h3, h4, h5, h6, h7⟩
  · subst h2; exact ⟨none, 0, h1, by simpa using hl, Nat.le_refl _, Nat.zero_le _, fun _ => rfl, fun h => absurd h (by omega)⟩
  · refine ⟨_, cap, h1, hl, h4, h5, fun h => by (cases h), fun hn => ⟨g, 0, rfl, fun j u hj => ?_⟩⟩
    have := h.cells (g := g) (by rw [h1]; rfl) j u hj
    rwa [add_plain] at this
/-- the cells of element k -/
theorem Rd.two (h : Rd w 2 A n c xs) {k : Nat} (hk : k < n) : ∃ b o u v, A = some ⟨b, o, none⟩ ∧ xs[k * 2]? = some u ∧ xs[k * 2 + 1]? = some v ∧ w.cell? ⟨b, o + k * 2, none⟩ = some u ∧ w.cell? ⟨b, o + k * 2 + 1, none⟩ = some v := by
  obtain ⟨b, o, e, hc⟩ := h.2.2.2.2 (by omega)
  have hl := h.1
  have h0 : k * 2 < xs.length := by omega
  have h1 : k * 2 + 1 < xs.length := by omega
  exact ⟨b, o, _, _, e, List.getElem?_eq_getElem h0, List.getElem?_eq_getElem h1, hc _ _ (List.getElem?_eq_getElem h0), by have := hc _ _ (List.getElem?_eq_getElem h1); rwa [← Nat.add_assoc] at this⟩
theorem Rd.item {L : Items} (h : Rd w 2 A L.length c (itV L)) {k : Nat} (hk : k < L.length) : ∃ b o, A = some ⟨b, o, none⟩ ∧ w.cell? ⟨b, o + k * 2, none⟩ = some (.int .u64 (L[k].1 : Int)) ∧ w.cell? ⟨b, o + k * 2 + 1, none⟩ = some (.string ⟨L[k].2.toArray⟩) := by
  obtain ⟨b, o, u, v, e, h1, h2, h3, h4⟩ := h.two hk
  obtain ⟨g1, g2⟩ := itV_get L k hk
  rw [g1] at h1; rw [g2] at h2
  cases h1; cases h2
  exact ⟨b, o, e, h3, h4⟩
theorem Rd.one (h : Rd w 1 A n c xs) {k : Nat} (hk : k < n) : ∃ b o u, A = some ⟨b, o, none⟩ ∧ xs[k]? = some u ∧ w.cell? ⟨b, o + k, none⟩ = some u := by
  obtain ⟨b, o, e, hc⟩ := h.2.2.2.2 (by omega)
  have h0 : k < xs.length := by have := h.1; omega
  exact ⟨b, o, _, e, List.getElem?_eq_getElem h0, hc _ _ (List.getElem?_eq_getElem h0)⟩
/-- s[lo:hi:mx] -/
theorem Rd.cut (h : Rd w size A n c xs) {lo hi mx : Nat} (h1 : lo ≤ hi) (h2 : hi ≤ n) (h3 : hi ≤ mx) (h4 : mx ≤ c) :
    Rd w size (if mx = lo then A else A.map (·.add (lo * size))) (hi - lo) (mx - lo) ((xs.drop (lo * size)).take ((hi - lo) * size)) := by
  refine ⟨?_, by omega, by have := h.2.2.1; omega, fun hA => ?_, fun hn => ?_⟩
  · rw [List.length_take, List.length_drop, h.1]
    have : (hi - lo) * size ≤ n * size - lo * size := by rw [← Nat.sub_mul]; exact Nat.mul_le_mul_right _ (by omega)
    omega
  · split at hA
    · omega
    · cases A with
      | none => have := h.2.2.2.1 rfl; omega
      | some a => cases hA
  · obtain ⟨b, o, rfl, hc⟩ := h.2.2.2.2 (by omega)
    rw [if_neg (by omega)]
    refine ⟨b, o + lo * size, by simp [add_plain], fun j u hj => ?_⟩
    have hj' : xs[lo * size + j]? = some u := by
      rw [List.getElem?_take] at hj
      split at hj
      · rwa [List.getElem?_drop] at hj
      · cases hj
    have := hc _ _ hj'
    rwa [← Nat.add_assoc] at this
end
theorem Rd.front {w : World} {size n c : Nat} {A : Option Addr} {xs : List Value} (h : Rd w size A n c xs) {k m : Nat} (hk : k ≤ n) (hm : k ≤ m) (hc : m ≤ c) : Rd w size A k m (xs.take (k * size)) := by
  have hr := h.cut (lo := 0) (hi := k) (mx := m) (Nat.zero_le _) hk hm hc
  have e : (if m = 0 then A else A.map (·.add (0 * size))) = A := by
    split
    · rfl
    · cases A with
      | none => rfl
      | some a => simp [Addr.add]
  rw [e] at hr
  simpa using hr
section
variable {P : Program} {w : World} {size n c : Nat} {A : Option Addr} {xs : List Value} {t e : TypeId} {i : TypeInfo}
theorem elem_of (ht : P.underlying t = some (.slice e)) : P.elem t = e := by simp [Program.elem, ht]
theorem size_run (hi : P.info? e = some i) (hz : i.size = size) (w' : World) : (sizeOf e).run P w' = .ok size w' := by
  subst hz; simp [sizeOf, typeInfo, hi]
/-- s[:k] -/
theorem Rd.cut_h (h : Rd w size A n c xs) (ht : P.underlying t = some (.slice e)) (hi : P.info? e = some i) (hz : i.size = size) {k : Nat} (hk : k ≤ n) :
    ∃ A' c', (∀ w', (Instr.slice t (.slice A n c) none (some (.int .i64 (k : Int))) none).run P w' = .ok (.slice A' k c') w') ∧ Rd w size A' k c' (xs.take (k * size)) := by
  have hr := h.cut (lo := 0) (hi := k) (mx := c) (Nat.zero_le _) hk (by have := h.2.1; omega) (Nat.le_refl _)
  refine ⟨_, _, fun w' => ?_, by simpa using hr⟩
  rw [run_slice_h w' t A n c (by rw [elem_of ht]; exact ht) _ _ (by omega) (by have := h.2.1; omega), elem_of ht, size_run hi hz]
  simp [Result.andThen, sliced]
/-- s[k:] -/
theorem Rd.cut_l (h : Rd w size A n c xs) (ht : P.underlying t = some (.slice e)) (hi : P.info? e = some i) (hz : i.size = size) {k : Nat} (hk : k ≤ n) :
    ∃ A' c', (∀ w', (Instr.slice t (.slice A n c) (some (.int .i64 (k : Int))) none none).run P w' = .ok (.slice A' (n - k) c') w') ∧ Rd w size A' (n - k) c' (xs.drop (k * size)) := by
  have hr := h.cut (lo := k) (hi := n) (mx := c) hk (Nat.le_refl _) (by have := h.2.1; omega) (Nat.le_refl _)
  rw [List.take_of_length_le (by rw [List.length_drop, h.1, Nat.sub_mul]; exact Nat.le_refl _)] at hr
  refine ⟨_, _, fun w' => ?_, hr⟩
  rw [run_slice_l w' t A n c (by rw [elem_of ht]; exact ht) _ _ (by omega) (by omega), elem_of ht, size_run hi hz]
  simp [Result.andThen, sliced]
/-- s[:k:k] -/
theorem Rd.cut_hm (h : Rd w size A n c xs) (ht : P.underlying t = some (.slice e)) (hi : P.info? e = some i) (hz : i.size = size) {k : Nat} (hk : k ≤ n) :
    ∃ A', (∀ w', (Instr.slice t (.slice A n c) none (some (.int .i64 (k : Int))) (some (.int .i64 (k : Int)))).run P w' = .ok (.slice A' k k) w') ∧ Rd w size A' k k (xs.take (k * size)) := by
  have hr := h.cut (lo := 0) (hi := k) (mx := k) (Nat.zero_le _) hk (Nat.le_refl _) (by have := h.2.1; omega)
  refine ⟨_, fun w' => ?_, by simpa using hr⟩
  rw [run_slice_hm w' t A n c (by rw [elem_of ht]; exact ht) _ _ _ _ (by omega) (by omega) (by have := h.2.1; omega), elem_of ht, size_run hi hz]
  simp [Result.andThen, sliced]
end
section
variable {P : Program} (w : World)
theorem run_append_of_nil (base : Nat) (t ty e : TypeId) (i : TypeInfo) (size : Nat) (ht : P.underlying t = some (.slice e)) (hi : P.info? e = some i)
    (v : Value) (n : Nat) (xs : List Value) (hown : w.ownsRow base e size v n xs) (c : Nat) : (Builtin.append_ #[t, t] ty #[v, .slice none 0 c]).run P w = .ok v w := by
  rcases hown.2 with ⟨rfl, rfl⟩ | ⟨g, cap, cur, rfl, _, _, hnc, _⟩
  · simp [Builtin.append_, run_underlying ht, sizeOf, typeInfo, hi, Builtin.lenOf, Builtin.firstCells]
  · simp [Builtin.append_, run_underlying ht, sizeOf, typeInfo, hi, Builtin.lenOf, Builtin.firstCells, hnc, storeCells]
/-- 'append(s, xs...)' onto a row of the call's own, xs whatever slice -/
theorem wpList_append_rd {ops : Array Oper} {rest : List Oper} {o : Oper} {a : Act} {Q : Exit → Act → World → Prop} (hgd : o.guard = none) (s x : Operand) (t : TypeId)
    (ho : o.op = .call { callee := .builtin .append, args := #[s, x], argTypes := #[t, t] })
    (base : Nat) (e : TypeId) (i : TypeInfo) (z : Value) (size bytes : Nat) (ht : P.underlying t = some (.slice e)) (hi : P.info? e = some i) (hz : i.zero = some z)
    (hsize : i.size = size) (hby : i.bytes = bytes) (hzs : z.cells.size = size) (hsz : 0 < size)
    (v : Value) (n : Nat) (xs : List Value) (hs : a.eval s = v) (hown : w.ownsRow base e size v n xs)
    (A : Option Addr) (m c : Nat) (news : List Value) (hx : a.eval x = .slice A m c) (hr : Rd w size A m c news) (h1 : ∀ u ∈ news, u.oneCell' = true)
    (hn : n + m ≤ 1000000) (hb1 : bytes ≤ 1000) (hbase : base ≤ w.heap.size)
    (h : ∀ v' w', w'.ownsRow base e size v' (n + m) (xs ++ news) → Below base w w' → wpList P ops Q rest (a.put o.dst v') w') : wpList P ops Q (o :: rest) a w := by
  have hbytes : (n + m) * bytes ≤ 140737488355328 := by
    have := Nat.mul_le_mul hn hb1; omega
  have key : ∃ v' w', (Builtin.append_ #[t, t] o.type #[v, .slice A m c]).run P w = .ok v' w' ∧ w'.ownsRow base e size v' (n + m) (xs ++ news) ∧ w.grownBy w' v.ownBlock := by
    rcases A with _ | ad
    · have hm : m = 0 := by have := hr.2.1; have := hr.2.2.2.1 rfl; omega
      subst hm
      have hn : news = [] := List.eq_nil_of_length_eq_zero (by simpa using hr.1)
      subst hn
      exact ⟨v, w, run_append_of_nil w base t o.type e i size ht hi v n xs hown c, by simpa using hown, World.grownBy.refl w _⟩
    · have hcells : ∀ j u, news[j]? = some u → w.cell? (ad.add j) = some u := by
        intro j u hu
        rcases Nat.eq_zero_or_pos m with h0 | h0
        · subst h0
          have hn : news = [] := List.eq_nil_of_length_eq_zero (by simpa using hr.1)
          subst hn
          simp at hu
        · obtain ⟨b, o', h, hc⟩ := hr.2.2.2.2 h0
          injection h with h
          subst h
          rw [add_plain]
          exact hc j u hu
      obtain ⟨v', w', hrun, h2, h3, _⟩ := run_append_own_at (P := P) w base t o.type e i z size bytes ht hi hz hsize hby hzs hsz v n xs hown ad m c news hr.1 hcells h1 (by unfold maxLen; omega) hbytes hbase
      exact ⟨v', w', hrun, h2, h3⟩
  obtain ⟨v', w', hrun, h2, h3⟩ := key
  refine wpList_plain hgd fun _ hK => ?_
  unfold Oper.wp execOp
  simp only [ho, resolve, invoke, builtin, Sem.run_bind, Sem.run_pure, Result.andThen_ok, List.map_toArray, List.map_cons, List.map_nil, hs, hx, hrun]
  exact hK _ _ (h v' w' h2 ((Below.refl base w).grown h3 hbase (fun k hk => (hown.lt k hk).1)))
/-- 'append(s[:k:k], x)': no room: a row of the call's own -/
theorem wpList_append_full {ops : Array Oper} {rest : List Oper} {o : Oper} {a : Act} {Q : Exit → Act → World → Prop} (hgd : o.guard = none) (s x : Operand) (t : TypeId)
    (ho : o.op = .call { callee := .builtin .append, args := #[s, x], argTypes := #[t, t] })
    (e : TypeId) (i : TypeInfo) (z : Value) (size bytes : Nat) (ht : P.underlying t = some (.slice e)) (hi : P.info? e = some i) (hz : i.zero = some z)
    (hsize : i.size = size) (hby : i.bytes = bytes) (hzs : z.cells.size = size) (hsz : 0 < size)
    (A : Option Addr) (n : Nat) (xs : List Value) (hs : a.eval s = .slice A n n) (hr : Rd w size A n n xs)
    (ad : Addr) (m c : Nat) (news : List Value) (hx : a.eval x = .slice (some ad) m c) (hnl : news.length = m * size) (hc : ∀ j u, news[j]? = some u → w.cell? (ad.add j) = some u) (h1 : ∀ u ∈ news, u.oneCell' = true) (hm : 0 < m)
    (hn : n + m ≤ 1000000) (hb1 : bytes ≤ 1000)
    (h : ∀ v' w', w'.ownsRow w.heap.size e size v' (n + m) (xs ++ news) → Up w w' → wpList P ops Q rest (a.put o.dst v') w') : wpList P ops Q (o :: rest) a w := by
  have hbytes : (n + m) * bytes ≤ 140737488355328 := by
    have := Nat.mul_le_mul hn hb1; omega
  refine wpList_append_grows w hgd s x t ho e i z size bytes ht hi hz hsize hby hzs hsz A n n xs hs (fun hA => by have := hr.2.2.2.1 hA; omega) hr.1 ?_ ad m c news hx hnl hc h1 (by omega) (by unfold maxLen; omega) hbytes ?_
  · intro b hb j u hj
    rcases Nat.eq_zero_or_pos n with h0 | h0
    · subst h0
      have : xs = [] := List.eq_nil_of_length_eq_zero (by simpa using hr.1)
      subst this; simp at hj
    · obtain ⟨b', o', e', hc'⟩ := hr.2.2.2.2 h0
      rw [hb] at e'; injection e' with e'; subst e'
      rw [add_plain]; exact hc' j u hj
  · intro v' w' h2 h3
    exact h v' w' h2 ((Below.refl w.heap.size w).grown h3 (Nat.le_refl _) (fun k hk => by cases hk))
/-- the two, as steps of a region that draws its order -/
theorem step_append_rd {ops : Array Oper} {o : Oper} {a : Act} {K : Act → World → Prop} {Q : Exit → Act → World → Prop} {E : Prop} (hgd : o.guard = none) (s x : Operand) (t : TypeId)
    (ho : o.op = .call { callee := .builtin .append, args := #[s, x], argTypes := #[t, t] })
    (base : Nat) (e : TypeId) (i : TypeInfo) (z : Value) (size bytes : Nat) (ht : P.underlying t = some (.slice e)) (hi : P.info? e = some i) (hz : i.zero = some z)
    (hsize : i.size = size) (hby : i.bytes = bytes) (hzs : z.cells.size = size) (hsz : 0 < size)
    (v : Value) (n : Nat) (xs : List Value) (hs : a.eval s = v) (hown : w.ownsRow base e size v n xs)
    (A : Option Addr) (m c : Nat) (news : List Value) (hx : a.eval x = .slice A m c) (hr : Rd w size A m c news) (h1 : ∀ u ∈ news, u.oneCell' = true)
    (hn : n + m ≤ 1000000) (hb1 : bytes ≤ 1000) (hbase : base ≤ w.heap.size)
    (h : ∀ v' w', w'.ownsRow base e size v' (n + m) (xs ++ news) → Below base w w' → K (a.put o.dst v') w') :
    if Region.wanted o (yielded ops a.tmps) = true then Oper.wp P o a w K Q else E := by
  have hw : Region.wanted o (yielded ops a.tmps) = true := by simp [Region.wanted, hgd]
  rw [if_pos hw]
  have hbytes : (n + m) * bytes ≤ 140737488355328 := by
    have := Nat.mul_le_mul hn hb1; omega
  have key : ∃ v' w', (Builtin.append_ #[t, t] o.type #[v, .slice A m c]).run P w = .ok v' w' ∧ w'.ownsRow base e size v' (n + m) (xs ++ news) ∧ w.grownBy w' v.ownBlock := by
    rcases A with _ | ad
    · have hm : m = 0 := by have := hr.2.1; have := hr.2.2.2.1 rfl; omega
      subst hm
      have hn : news = [] := List.eq_nil_of_length_eq_zero (by simpa using hr.1)
      subst hn
      exact ⟨v, w, run_append_of_nil w base t o.type e i size ht hi v n xs hown c, by simpa using hown, World.grownBy.refl w _⟩
    · have hcells : ∀ j u, news[j]? = some u → w.cell? (ad.add j) = some u := by
        intro j u hu
        rcases Nat.eq_zero_or_pos m with h0 | h0
        · subst h0
          have hn : news = [] := List.eq_nil_of_length_eq_zero (by simpa using hr.1)
          subst hn
          simp at hu
        · obtain ⟨b, o', h, hc⟩ := hr.2.2.2.2 h0
          injection h with h
          subst h
          rw [add_plain]
          exact hc j u hu
      obtain ⟨v', w', hrun, h2, h3, _⟩ := run_append_own_at (P := P) w base t o.type e i z size bytes ht hi hz hsize hby hzs hsz v n xs hown ad m c news hr.1 hcells h1 (by unfold maxLen; omega) hbytes hbase
      exact ⟨v', w', hrun, h2, h3⟩
  obtain ⟨v', w', hrun, h2, h3⟩ := key
  unfold Oper.wp execOp
  simp only [ho, resolve, invoke, builtin, Sem.run_bind, Sem.run_pure, Result.andThen_ok, List.map_toArray, List.map_cons, List.map_nil, hs, hx, hrun]
  exact h v' w' h2 ((Below.refl base w).grown h3 hbase (fun k hk => (hown.lt k hk).1))
theorem step_append_full {ops : Array Oper} {o : Oper} {a : Act} {K : Act → World → Prop} {Q : Exit → Act → World → Prop} {E : Prop} (hgd : o.guard = none) (s x : Operand) (t : TypeId)
    (ho : o.op = .call { callee := .builtin .append, args := #[s, x], argTypes := #[t, t] })
    (e : TypeId) (i : TypeInfo) (z : Value) (size bytes : Nat) (ht : P.underlying t = some (.slice e)) (hi : P.info? e = some i) (hz : i.zero = some z)
    (hsize : i.size = size) (hby : i.bytes = bytes) (hzs : z.cells.size = size) (hsz : 0 < size)
    (A : Option Addr) (n : Nat) (xs : List Value) (hs : a.eval s = .slice A n n) (hr : Rd w size A n n xs)
    (ad : Addr) (m c : Nat) (news : List Value) (hx : a.eval x = .slice (some ad) m c) (hnl : news.length = m * size) (hc : ∀ j u, news[j]? = some u → w.cell? (ad.add j) = some u) (h1 : ∀ u ∈ news, u.oneCell' = true) (hm : 0 < m)
    (hn : n + m ≤ 1000000) (hb1 : bytes ≤ 1000)
    (h : ∀ v' w', w'.ownsRow w.heap.size e size v' (n + m) (xs ++ news) → Up w w' → K (a.put o.dst v') w') :
    if Region.wanted o (yielded ops a.tmps) = true then Oper.wp P o a w K Q else E := by
  have hbytes : (n + m) * bytes ≤ 140737488355328 := by
    have := Nat.mul_le_mul hn hb1; omega
  refine step_append_grows hgd s x t ho e i z size bytes ht hi hz hsize hby hzs hsz A n n xs hs (fun hA => by have := hr.2.2.2.1 hA; omega) hr.1 ?_ ad m c news hx hnl hc h1 (by omega) (by unfold maxLen; omega) hbytes ?_
  · intro b hb j u hj
    rcases Nat.eq_zero_or_pos n with h0 | h0
    · subst h0
      have : xs = [] := List.eq_nil_of_length_eq_zero (by simpa using hr.1)
      subst this; simp at hj
    · obtain ⟨b', o', e', hc'⟩ := hr.2.2.2.2 h0
      rw [hb] at e'; injection e' with e'; subst e'
      rw [add_plain]; exact hc' j u hj
  · intro v' w' h2 h3
    exact h v' w' h2 ((Below.refl w.heap.size w).grown h3 (Nat.le_refl _) (fun k hk => by cases hk))
end
theorem new1 (w1 : World) (t : TypeId) (v : Value) : Up w1 (w1.alloc (.cells #[v] t)) ∧ (w1.alloc (.cells #[v] t)).cell? ⟨w1.heap.size, 0, none⟩ = some v ∧
    (w1.alloc (.cells #[v] t)).heap[w1.heap.size]? = some (.cells #[v] t (0, 0)) :=
  ⟨(Up.refl _).alloc _, by rw [cell_of_row _ w1.heap.size 0 #[v] t (0, 0) (heap_alloc_new w1 _)]; rfl, heap_alloc_new w1 _⟩
theorem blk_one {w : World} {b : Nat} {v : Value} {t : TypeId} (h : w.heap[b]? = some (.cells #[v] t (0, 0))) : w.cell? ⟨b, 0, none⟩ = some v ∧ w.frozen? ⟨b, 0, none⟩ = false :=
  ⟨by rw [cell_of_row w b 0 #[v] t (0, 0) h]; rfl, by simp [World.frozen?, h]⟩
end Go.Proofs.YtkfococpanailaaGreatDoor
