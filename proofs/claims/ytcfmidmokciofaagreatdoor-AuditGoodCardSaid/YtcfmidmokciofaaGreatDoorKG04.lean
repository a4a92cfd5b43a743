/- What a slice of structs holds ('Rd'), of items ('itV'); append onto a row of the call's own. -/
import Derived.Test.YtcfmidmokciofaaGreatDoorKG02
import Derived.ArgAppend
import Derived.Deep.AppendLies
import Derived.Maps.AppendAt
import Derived.Deep.Draws
import Derived.Deep.RegionLawGrows
import Derived.Test.YtcfmidmokciofaaGreatDoorKG01
namespace Go.Gz
abbrev Item := Nat × Bs
abbrev Items := List Item
def itV (L : Items) : List Value := L.flatMap fun x => [.int .u64 (x.1 : Int), .string ⟨x.2.toArray⟩]
theorem itV_nil : itV [] = [] := rfl
theorem itV_cons (x : Item) (L : Items) : itV (x :: L) = .int .u64 (x.1 : Int) :: .string ⟨x.2.toArray⟩ :: itV L := rfl
theorem itV_app (L M : Items) : itV (L ++ M) = itV L ++ itV M := by simp [itV]
theorem itV_len (L : Items) : (itV L).length = L.length * 2 := by
  induction L with
  | nil => rfl
  | cons x r ih => rw [itV_cons]; simp [ih]; omega
theorem itV_get (L : Items) : ∀ k (h : k < L.length), (itV L)[k * 2]? = some (.int .u64 (L[k].1 : Int)) ∧ (itV L)[k * 2 + 1]? = some (.string ⟨L[k].2.toArray⟩) := by
  induction L with
  | nil => intro k h; simp at h
  | cons x r ih =>
    intro k h;rw [itV_cons];cases k with
    | zero => exact ⟨rfl, rfl⟩
    | succ k =>
      have := ih k (by simp at h; omega);rw [show (k + 1) * 2 = k * 2 + 1 + 1 by omega];simpa using this
theorem itV_one (L : Items) : ∀ u ∈ itV L, u.oneCell' = true := by
  intro u hu;simp only [itV, List.mem_flatMap] at hu;obtain ⟨x, _, hx⟩ := hu;simp at hx;rcases hx with rfl | rfl <;> rfl
theorem itV_take (L : Items) (k : Nat) : itV (L.take k) = (itV L).take (k * 2) := by
  induction L generalizing k with
  | nil => simp [itV]
  | cons x r ih =>
    cases k with
    | zero => simp [itV]
    | succ k => rw [List.take_succ_cons, itV_cons, itV_cons, ih, show (k + 1) * 2 = k * 2 + 1 + 1 by omega]; rfl
theorem itV_drop (L : Items) (k : Nat) : itV (L.drop k) = (itV L).drop (k * 2) := by
  induction L generalizing k with
  | nil => simp [itV]
  | cons x r ih =>
    cases k with
    | zero => simp
    | succ k => rw [List.drop_succ_cons, itV_cons, ih, show (k + 1) * 2 = k * 2 + 1 + 1 by omega]; rfl
end Go.Gz
namespace Go.Proofs.YtcfmidmokciofaaGreatDoor
open Go.RowKit Go.Gz

theorem add_plain (b o j : Nat) : (⟨b, o, none⟩ : Addr).add j = ⟨b, o + j, none⟩ := by unfold Addr.add; split <;> simp_all
/-- a slice (address A, length n, capacity c) that reads as the cells xs -/
def Rd (w : World) (size : Nat) (A : Option Addr) (n c : Nat) (xs : List Value) : Prop :=
  xs.length = n * size ∧ n ≤ c ∧ c ≤ maxLen ∧ (A = none → c = 0) ∧ (0 < n → ∃ b o, A = some ⟨b, o, none⟩ ∧ ∀ j u, xs[j]? = some u → w.cell? ⟨b, o + j, none⟩ = some u)
section
variable {w w' : World} {size n c : Nat} {A : Option Addr} {xs : List Value}
theorem Rd.up (h : Rd w size A n c xs) (hu : Up w w') : Rd w' size A n c xs :=
  ⟨h.1, h.2.1, h.2.2.1, h.2.2.2.1, fun hn => let ⟨b, o, e, hc⟩ := h.2.2.2.2 hn; ⟨b, o, e, fun j u hj => hu.cell (hc j u hj)⟩⟩
theorem Rd.nil_ (w : World) (size : Nat) : Rd w size none 0 0 [] := ⟨by simp, Nat.le_refl _, Nat.zero_le _, fun _ => rfl, fun h => absurd h (by omega)⟩
theorem Rd.of_own {base : Nat} {e : TypeId} {v : Value} (h : w.ownsRow base e size v n xs) : ∃ A c, v = .slice A n c ∧ Rd w size A n c xs := by
  have hl := h.1;rcases h.2 with ⟨h1, h2⟩ | ⟨g, cap, cur, h1, h2, h3, h4, h5, h6, h7⟩
  · subst h2; exact ⟨none, 0, h1, by simpa using hl, Nat.le_refl _, Nat.zero_le _, fun _ => rfl, fun h => absurd h (by omega)⟩
  · refine ⟨_, cap, h1, hl, h4, h5, fun h => by (cases h), fun hn => ⟨g, 0, rfl, fun j u hj => ?_⟩⟩;have := h.cells (g := g) (by rw [h1]; rfl) j u hj;rwa [add_plain] at this
/-- the cells of element k -/
theorem Rd.two (h : Rd w 2 A n c xs) {k : Nat} (hk : k < n) : ∃ b o u v, A = some ⟨b, o, none⟩ ∧ xs[k * 2]? = some u ∧ xs[k * 2 + 1]? = some v ∧ w.cell? ⟨b, o + k * 2, none⟩ = some u ∧ w.cell? ⟨b, o + k * 2 + 1, none⟩ = some v := by
  obtain ⟨b, o, e, hc⟩ := h.2.2.2.2 (by omega);have hl := h.1;have h0 : k * 2 < xs.length := by omega
  have h1 : k * 2 + 1 < xs.length := by omega
  exact ⟨b, o, _, _, e, List.getElem?_eq_getElem h0, List.getElem?_eq_getElem h1, hc _ _ (List.getElem?_eq_getElem h0), by have := hc _ _ (List.getElem?_eq_getElem h1); rwa [← Nat.add_assoc] at this⟩
theorem Rd.item {L : Items} (h : Rd w 2 A L.length c (itV L)) {k : Nat} (hk : k < L.length) : ∃ b o, A = some ⟨b, o, none⟩ ∧ w.cell? ⟨b, o + k * 2, none⟩ = some (.int .u64 (L[k].1 : Int)) ∧ w.cell? ⟨b, o + k * 2 + 1, none⟩ = some (.string ⟨L[k].2.toArray⟩) := by
  obtain ⟨b, o, u, v, e, h1, h2, h3, h4⟩ := h.two hk;obtain ⟨g1, g2⟩ := itV_get L k hk;rw [g1] at h1; rw [g2] at h2;cases h1; cases h2;exact ⟨b, o, e, h3, h4⟩
theorem Rd.one (h : Rd w 1 A n c xs) {k : Nat} (hk : k < n) : ∃ b o u, A = some ⟨b, o, none⟩ ∧ xs[k]? = some u ∧ w.cell? ⟨b, o + k, none⟩ = some u := by
  obtain ⟨b, o, e, hc⟩ := h.2.2.2.2 (by omega);have h0 : k < xs.length := by have := h.1; omega
  exact ⟨b, o, _, e, List.getElem?_eq_getElem h0, hc _ _ (List.getElem?_eq_getElem h0)⟩
/-- s[lo:hi:mx] -/
theorem Rd.cut (h : Rd w size A n c xs) {lo hi mx : Nat} (h1 : lo ≤ hi) (h2 : hi ≤ n) (h3 : hi ≤ mx) (h4 : mx ≤ c) :
    Rd w size (if mx = lo then A else A.map (·.add (lo * size))) (hi - lo) (mx - lo) ((xs.drop (lo * size)).take ((hi - lo) * size)) := by
  refine ⟨?_, by omega, by have := h.2.2.1; omega, fun hA => ?_, fun hn => ?_⟩
  · rw [List.length_take, List.length_drop, h.1];have : (hi - lo) * size ≤ n * size - lo * size := by rw [← Nat.sub_mul]; exact Nat.mul_le_mul_right _ (by omega)
    omega
  · split at hA
    · omega
    · cases A with
      | none => have := h.2.2.2.1 rfl; omega
      | some a => cases hA
  · obtain ⟨b, o, rfl, hc⟩ := h.2.2.2.2 (by omega);rw [if_neg (by omega)];refine ⟨b, o + lo * size, by simp [add_plain], fun j u hj => ?_⟩;have hj' : xs[lo * size + j]? = some u := by
      rw [List.getElem?_take] at hj;split at hj
      · rwa [List.getElem?_drop] at hj
      · cases hj
    have := hc _ _ hj';rwa [← Nat.add_assoc] at this
end
theorem Rd.front {w : World} {size n c : Nat} {A : Option Addr} {xs : List Value} (h : Rd w size A n c xs) {k m : Nat} (hk : k ≤ n) (hm : k ≤ m) (hc : m ≤ c) : Rd w size A k m (xs.take (k * size)) := by
  have hr := h.cut (lo := 0) (hi := k) (mx := m) (Nat.zero_le _) hk hm hc;have e : (if m = 0 then A else A.map (·.add (0 * size))) = A := by
    split
    · rfl
    · cases A with
      | none => rfl
      | some a => simp [Addr.add]
  rw [e] at hr;simpa using hr
section
variable {P : Program} {w : World} {size n c : Nat} {A : Option Addr} {xs : List Value} {t e : TypeId} {i : TypeInfo}
theorem elem_of (ht : P.underlying t = some (.slice e)) : P.elem t = e := by simp [Program.elem, ht]
theorem size_run (hi : P.info? e = some i) (hz : i.size = size) (w' : World) : (sizeOf e).run P w' = .ok size w' := by
  subst hz; simp [sizeOf, typeInfo, hi]
/-- s[:k] -/
theorem Rd.cut_h (h : Rd w size A n c xs) (ht : P.underlying t = some (.slice e)) (hi : P.info? e = some i) (hz : i.size = size) {k : Nat} (hk : k ≤ n) :
    ∃ A' c', (∀ w', (Instr.slice t (.slice A n c) none (some (.int .i64 (k : Int))) none).run P w' = .ok (.slice A' k c') w') ∧ Rd w size A' k c' (xs.take (k * size)) := by
  have hr := h.cut (lo := 0) (hi := k) (mx := c) (Nat.zero_le _) hk (by have := h.2.1; omega) (Nat.le_refl _);refine ⟨_, _, fun w' => ?_, by simpa using hr⟩;rw [run_slice_h w' t A n c (by rw [elem_of ht]; exact ht) _ _ (by omega) (by have := h.2.1; omega), elem_of ht, size_run hi hz];simp [Result.andThen, sliced]
/-- s[k:] -/
theorem Rd.cut_l (h : Rd w size A n c xs) (ht : P.underlying t = some (.slice e)) (hi : P.info? e = some i) (hz : i.size = size) {k : Nat} (hk : k ≤ n) :
    ∃ A' c', (∀ w', (Instr.slice t (.slice A n c) (some (.int .i64 (k : Int))) none none).run P w' = .ok (.slice A' (n - k) c') w') ∧ Rd w size A' (n - k) c' (xs.drop (k * size)) := by
  have hr := h.cut (lo := k) (hi := n) (mx := c) hk (Nat.le_refl _) (by have := h.2.1; omega) (Nat.le_refl _);rw [List.take_of_length_le (by rw [List.length_drop, h.1, Nat.sub_mul]; exact Nat.le_refl _)] at hr;refine ⟨_, _, fun w' => ?_, hr⟩;rw [run_slice_l w' t A n c (by rw [elem_of ht]; exact ht) _ _ (by omega) (by omega), elem_of ht, size_run hi hz];simp [Result.andThen, sliced]
/-- s[:k:k] -/
theorem Rd.cut_hm (h : Rd w size A n c xs) (ht : P.underlying t = some (.slice e)) (hi : P.info? e = some i) (hz : i.size = size) {k : Nat} (hk : k ≤ n) :
    ∃ A', (∀ w', (Instr.slice t (.slice A n c) none (some (.int .i64 (k : Int))) (some (.int .i64 (k : Int)))).run P w' = .ok (.slice A' k k) w') ∧ Rd w size A' k k (xs.take (k * size)) := by
  have hr := h.cut (lo := 0) (hi := k) (mx := k) (Nat.zero_le _) hk (Nat.le_refl _) (by have := h.2.1; omega);refine ⟨_, fun w' => ?_, by simpa using hr⟩;rw [run_slice_hm w' t A n c (by rw [elem_of ht]; exact ht) _ _ _ _ (by omega) (by omega) (by have := h.2.1; omega), elem_of ht, size_run hi hz];simp [Result.andThen, sliced]
end
section
variable {P : Program} (w : World)
theorem run_append_of_nil (base : Nat) (t ty e : TypeId) (i : TypeInfo) (size : Nat) (ht : P.underlying t = some (.slice e)) (hi : P.info? e = some i)
    (v : Value) (n : Nat) (xs : List Value) (hown : w.ownsRow base e size v n xs) (c : Nat) : (Builtin.append_ #[t, t] ty #[v, .slice none 0 c]).run P w = .ok v w := by
  rcases hown.2 with ⟨rfl, rfl⟩ | ⟨g, cap, cur, rfl, _, _, hnc, _⟩
  · simp [Builtin.append_, run_underlying ht, sizeOf, typeInfo, hi, Builtin.lenOf, Builtin.firstCells]
  · simp [Builtin.append_, run_underlying ht, sizeOf, typeInfo, hi, Builtin.lenOf, Builtin.firstCells, hnc, storeCells]
/-- 'append(s, xs...)' onto a row of the call's own, xs whatever slice -/
theorem wpList_append_rd {ops : Array Oper} {rest : List Oper} {o : Oper} {a : Act} {Q : Exit → Act → World → Prop} (hgd : o.guard = none) (s x : Operand) (t : TypeId)
    (ho : o.op = .call { callee := .builtin .append, args := #[s, x], argTypes := #[t, t] })
    (base : Nat) (e : TypeId) (i : TypeInfo) (z : Value) (size bytes : Nat) (ht : P.underlying t = some (.slice e)) (hi : P.info? e = some i) (hz : i.zero = some z)
    (hsize : i.size = size) (hby : i.bytes = bytes) (hzs : z.cells.size = size) (hsz : 0 < size)
    (v : Value) (n : Nat) (xs : List Value) (hs : a.eval s = v) (hown : w.ownsRow base e size v n xs)
    (A : Option Addr) (m c : Nat) (news : List Value) (hx : a.eval x = .slice A m c) (hr : Rd w size A m c news) (h1 : ∀ u ∈ news, u.oneCell' = true)
    (hn : n + m ≤ 1000000) (hb1 : bytes ≤ 1000) (hbase : base ≤ w.heap.size)
    (h : ∀ v' w', w'.ownsRow base e size v' (n + m) (xs ++ news) → Below base w w' → wpList P ops Q rest (a.put o.dst v') w') : wpList P ops Q (o :: rest) a w := by
  have hbytes : (n + m) * bytes ≤ 140737488355328 := by
    have := Nat.mul_le_mul hn hb1; omega
  have key : ∃ v' w', (Builtin.append_ #[t, t] o.type #[v, .slice A m c]).run P w = .ok v' w' ∧ w'.ownsRow base e size v' (n + m) (xs ++ news) ∧ w.grownBy w' v.ownBlock := by
    rcases A with _ | ad
    · have hm : m = 0 := by have := hr.2.1; have := hr.2.2.2.1 rfl; omega
      subst hm;have hn : news = [] := List.eq_nil_of_length_eq_zero (by simpa using hr.1);subst hn;exact ⟨v, w, run_append_of_nil w base t o.type e i size ht hi v n xs hown c, by simpa using hown, World.grownBy.refl w _⟩
    · have hcells : ∀ j u, news[j]? = some u → w.cell? (ad.add j) = some u := by
        intro j u hu;rcases Nat.eq_zero_or_pos m with h0 | h0
        · subst h0;have hn : news = [] := List.eq_nil_of_length_eq_zero (by simpa using hr.1);subst hn;simp at hu
        · obtain ⟨b, o', h, hc⟩ := hr.2.2.2.2 h0;injection h with h;subst h;rw [add_plain];exact hc j u hu
      obtain ⟨v', w', hrun, h2, h3, _⟩ := run_append_own_at (P := P) w base t o.type e i z size bytes ht hi hz hsize hby hzs hsz v n xs hown ad m c news hr.1 hcells h1 (by unfold maxLen; omega) hbytes hbase;exact ⟨v', w', hrun, h2, h3⟩
  obtain ⟨v', w', hrun, h2, h3⟩ := key;refine wpList_plain hgd fun _ hK => ?_;unfold Oper.wp execOp;simp only [ho, resolve, invoke, builtin, Sem.run_bind, Sem.run_pure, Result.andThen_ok, List.map_toArray, List.map_cons, List.map_nil, hs, hx, hrun];exact hK _ _ (h v' w' h2 ((Below.refl base w).grown h3 hbase (fun k hk => (hown.lt k hk).1)))
/-- 'append(s[:k:k], x)': no room: a row of the call's own -/
theorem wpList_append_full {ops : Array Oper} {rest : List Oper} {o : Oper} {a : Act} {Q : Exit → Act → World → Prop} (hgd : o.guard = none) (s x : Operand) (t : TypeId)
    (ho : o.op = .call { callee := .builtin .append, args := #[s, x], argTypes := #[t, t] })
    (e : TypeId) (i : TypeInfo) (z : Value) (size bytes : Nat) (ht : P.underlying t = some (.slice e)) (hi : P.info? e = some i) (hz : i.zero = some z)
    (hsize : i.size = size) (hby : i.bytes = bytes) (hzs : z.cells.size = size) (hsz : 0 < size)
    (A : Option Addr) (n : Nat) (xs : List Value) (hs : a.eval s = .slice A n n) (hr : Rd w size A n n xs)
    (ad : Addr) (m c : Nat) (news : List Value) (hx : a.eval x = .slice (some ad) m c) (hnl : news.length = m * size) (hc : ∀ j u, news[j]? = some u → w.cell? (ad.add j) = some u) (h1 : ∀ u ∈ news, u.oneCell' = true) (hm : 0 < m)
    (hn : n + m ≤ 1000000) (hb1 : bytes ≤ 1000)
    (h : ∀ v' w', w'.ownsRow w.heap.size e size v' (n + m) (xs ++ news) → Up w w' → wpList P ops Q rest (a.put o.dst v') w') : wpList P ops Q (o :: rest) a w := by
  have hbytes : (n + m) * bytes ≤ 140737488355328 := by
    have := Nat.mul_le_mul hn hb1; omega
  refine wpList_append_grows w hgd s x t ho e i z size bytes ht hi hz hsize hby hzs hsz A n n xs hs (fun hA => by have := hr.2.2.2.1 hA; omega) hr.1 ?_ ad m c news hx hnl hc h1 (by omega) (by unfold maxLen; omega) hbytes ?_
  · intro b hb j u hj;rcases Nat.eq_zero_or_pos n with h0 | h0
    · subst h0;have : xs = [] := List.eq_nil_of_length_eq_zero (by simpa using hr.1);subst this; simp at hj
    · obtain ⟨b', o', e', hc'⟩ := hr.2.2.2.2 h0;rw [hb] at e'; injection e' with e'; subst e';rw [add_plain]; exact hc' j u hj
  · intro v' w' h2 h3;exact h v' w' h2 ((Below.refl w.heap.size w).grown h3 (Nat.le_refl _) (fun k hk => by cases hk))
/-- the two, as steps of a region that draws its order -/
theorem step_append_rd {ops : Array Oper} {o : Oper} {a : Act} {K : Act → World → Prop} {Q : Exit → Act → World → Prop} {E : Prop} (hgd : o.guard = none) (s x : Operand) (t : TypeId)
    (ho : o.op = .call { callee := .builtin .append, args := #[s, x], argTypes := #[t, t] })
    (base : Nat) (e : TypeId) (i : TypeInfo) (z : Value) (size bytes : Nat) (ht : P.underlying t = some (.slice e)) (hi : P.info? e = some i) (hz : i.zero = some z)
    (hsize : i.size = size) (hby : i.bytes = bytes) (hzs : z.cells.size = size) (hsz : 0 < size)
    (v : Value) (n : Nat) (xs : List Value) (hs : a.eval s = v) (hown : w.ownsRow base e size v n xs)
    (A : Option Addr) (m c : Nat) (news : List Value) (hx : a.eval x = .slice A m c) (hr : Rd w size A m c news) (h1 : ∀ u ∈ news, u.oneCell' = true)
    (hn : n + m ≤ 1000000) (hb1 : bytes ≤ 1000) (hbase : base ≤ w.heap.size)
    (h : ∀ v' w', w'.ownsRow base e size v' (n + m) (xs ++ news) → Below base w w' → K (a.put o.dst v') w') :
    if Region.wanted o (yielded ops a.tmps) = true then Oper.wp P o a w K Q else E := by
  have hw : Region.wanted o (yielded ops a.tmps) = true := by simp [Region.wanted, hgd]
  rw [if_pos hw];have hbytes : (n + m) * bytes ≤ 140737488355328 := by
    have := Nat.mul_le_mul hn hb1; omega
  have key : ∃ v' w', (Builtin.append_ #[t, t] o.type #[v, .slice A m c]).run P w = .ok v' w' ∧ w'.ownsRow base e size v' (n + m) (xs ++ news) ∧ w.grownBy w' v.ownBlock := by
    rcases A with _ | ad
    · have hm : m = 0 := by have := hr.2.1; have := hr.2.2.2.1 rfl; omega
      subst hm;have hn : news = [] := List.eq_nil_of_length_eq_zero (by simpa using hr.1);subst hn;exact ⟨v, w, run_append_of_nil w base t o.type e i size ht hi v n xs hown c, by simpa using hown, World.grownBy.refl w _⟩
    · have hcells : ∀ j u, news[j]? = some u → w.cell? (ad.add j) = some u := by
        intro j u hu;rcases Nat.eq_zero_or_pos m with h0 | h0
        · subst h0;have hn : news = [] := List.eq_nil_of_length_eq_zero (by simpa using hr.1);subst hn;simp at hu
        · obtain ⟨b, o', h, hc⟩ := hr.2.2.2.2 h0;injection h with h;subst h;rw [add_plain];exact hc j u hu
      obtain ⟨v', w', hrun, h2, h3, _⟩ := run_append_own_at (P := P) w base t o.type e i z size bytes ht hi hz hsize hby hzs hsz v n xs hown ad m c news hr.1 hcells h1 (by unfold maxLen; omega) hbytes hbase;exact ⟨v', w', hrun, h2, h3⟩
  obtain ⟨v', w', hrun, h2, h3⟩ := key;unfold Oper.wp execOp;simp only [ho, resolve, invoke, builtin, Sem.run_bind, Sem.run_pure, Result.andThen_ok, List.map_toArray, List.map_cons, List.map_nil, hs, hx, hrun];exact h v' w' h2 ((Below.refl base w).grown h3 hbase (fun k hk => (hown.lt k hk).1))
theorem step_append_full {ops : Array Oper} {o : Oper} {a : Act} {K : Act → World → Prop} {Q : Exit → Act → World → Prop} {E : Prop} (hgd : o.guard = none) (s x : Operand) (t : TypeId)
    (ho : o.op = .call { callee := .builtin .append, args := #[s, x], argTypes := #[t, t] })
    (e : TypeId) (i : TypeInfo) (z : Value) (size bytes : Nat) (ht : P.underlying t = some (.slice e)) (hi : P.info? e = some i) (hz : i.zero = some z)
    (hsize : i.size = size) (hby : i.bytes = bytes) (hzs : z.cells.size = size) (hsz : 0 < size)
    (A : Option Addr) (n : Nat) (xs : List Value) (hs : a.eval s = .slice A n n) (hr : Rd w size A n n xs)
    (ad : Addr) (m c : Nat) (news : List Value) (hx : a.eval x = .slice (some ad) m c) (hnl : news.length = m * size) (hc : ∀ j u, news[j]? = some u → w.cell? (ad.add j) = some u) (h1 : ∀ u ∈ news, u.oneCell' = true) (hm : 0 < m)
    (hn : n + m ≤ 1000000) (hb1 : bytes ≤ 1000)
    (h : ∀ v' w', w'.ownsRow w.heap.size e size v' (n + m) (xs ++ news) → Up w w' → K (a.put o.dst v') w') :
    if Region.wanted o (yielded ops a.tmps) = true then Oper.wp P o a w K Q else E := by
  have hbytes : (n + m) * bytes ≤ 140737488355328 := by
    have := Nat.mul_le_mul hn hb1; omega
  refine step_append_grows hgd s x t ho e i z size bytes ht hi hz hsize hby hzs hsz A n n xs hs (fun hA => by have := hr.2.2.2.1 hA; omega) hr.1 ?_ ad m c news hx hnl hc h1 (by omega) (by unfold maxLen; omega) hbytes ?_
  · intro b hb j u hj;rcases Nat.eq_zero_or_pos n with h0 | h0
    · subst h0;have : xs = [] := List.eq_nil_of_length_eq_zero (by simpa using hr.1);subst this; simp at hj
    · obtain ⟨b', o', e', hc'⟩ := hr.2.2.2.2 h0;rw [hb] at e'; injection e' with e'; subst e';rw [add_plain]; exact hc' j u hj
  · intro v' w' h2 h3;exact h v' w' h2 ((Below.refl w.heap.size w).grown h3 (Nat.le_refl _) (fun k hk => by cases hk))
end
theorem new1 (w1 : World) (t : TypeId) (v : Value) : Up w1 (w1.alloc (.cells #[v] t)) ∧ (w1.alloc (.cells #[v] t)).cell? ⟨w1.heap.size, 0, none⟩ = some v ∧
    (w1.alloc (.cells #[v] t)).heap[w1.heap.size]? = some (.cells #[v] t (0, 0)) :=
  ⟨(Up.refl _).alloc _, by rw [cell_of_row _ w1.heap.size 0 #[v] t (0, 0) (heap_alloc_new w1 _)]; rfl, heap_alloc_new w1 _⟩
theorem blk_one {w : World} {b : Nat} {v : Value} {t : TypeId} (h : w.heap[b]? = some (.cells #[v] t (0, 0))) : w.cell? ⟨b, 0, none⟩ = some v ∧ w.frozen? ⟨b, 0, none⟩ = false :=
  ⟨by rw [cell_of_row w b 0 #[v] t (0, 0) h]; rfl, by simp [World.frozen?, h]⟩
end Go.Proofs.YtcfmidmokciofaaGreatDoor
/- Walks: cmp.Compare, slices.BinarySearchFunc, chart.place, chart.wrong. -/
namespace Go.Gz
def cmpV (a b : Nat) : Int := if a < b then -1 else if b < a then 1 else 0
def Srt (L : Items) : Prop := ∀ i j (hi : i < L.length) (hj : j < L.length), i < j → L[i].1 < L[j].1
def posL (L : Items) (id : Nat) : Nat := (L.takeWhile fun x => decide (x.1 < id)).length
def memL (L : Items) (id : Nat) : Bool := L.any fun x => x.1 == id
theorem posL_eq (L : Items) (id : Nat) : ∀ k, k ≤ L.length → (∀ j (h : j < L.length), j < k → L[j].1 < id) → (∀ (h : k < L.length), id ≤ L[k].1) → posL L id = k := by
  induction L with
  | nil => intro k hk _ _; simp at hk; subst hk; rfl
  | cons x r ih =>
    intro k hk h1 h2;unfold posL;cases k with
    | zero =>
      have := h2 (by simp);rw [List.takeWhile_cons, if_neg (by simp at this ⊢; omega)]; rfl
    | succ k =>
      have h0 := h1 0 (by simp) (by omega);rw [List.takeWhile_cons, if_pos (by simpa using h0)];have := ih k (by simpa using hk) (fun j h hj => by have := h1 (j + 1) (by simp; omega) (by omega); simpa using this) (fun h => by have := h2 (by simp; omega); simpa using this);unfold posL at this;simp [this]
theorem memL_at {L : Items} {id : Nat} (hs : Srt L) {k : Nat} (h1 : ∀ j (h : j < L.length), j < k → L[j].1 < id) (h2 : ∀ j (h : j < L.length), k ≤ j → id ≤ L[j].1) :
    memL L id = decide (∃ h : k < L.length, L[k].1 = id) := by
  rw [Bool.eq_iff_iff];unfold memL;simp only [List.any_eq_true, beq_iff_eq, decide_eq_true_eq];constructor
  · rintro ⟨x, hx, he⟩;obtain ⟨j, hj, rfl⟩ := List.getElem_of_mem hx;rcases Nat.lt_or_ge j k with g | g
    · have := h1 j hj g; omega
    · rcases Nat.lt_or_ge k j with g2 | g2
      · have hk : k < L.length := by omega
        have := hs k j hk hj g2;have := h2 k hk (Nat.le_refl _);omega
      · obtain rfl : j = k := by omega
        exact ⟨hj, he⟩
  · rintro ⟨h, he⟩;exact ⟨_, List.getElem_mem h, he⟩
def wrongE (id : Nat) (s : Bs) (full : Bool) : Int := if 6004799503160661 ≤ id then 8 else if s = [] then 2 else if 65536 < s.length then 5 else if full then 7 else 0
end Go.Gz
namespace Go.Proofs.YtcfmidmokciofaaGreatDoor
open Go.RowKit Go.Gz

set_option maxRecDepth 100000
theorem isnan_any (a : Nat) (w : World) : Calls Tryz.prog 99 #[.int .u64 a] w fun e w' => e = .returned (.bool false) ∧ w = w' := by
  go_enter Tryz.func99, Tryz.ntmps99;go_wp2_with fail;go_ret;exact ⟨rfl, rfl⟩
theorem cmp_any (a b : Nat) (w : World) : Calls Tryz.prog 44 #[.int .u64 a, .int .u64 b] w fun e w' => e = .returned (.int .i64 (cmpV a b)) ∧ w = w' := by
  have h0 : cmpV a b = if a < b then -1 else if b < a then 1 else 0 := rfl
  generalize cmpV a b = v at *;have H0 := Lib.hid h0;clear h0;go_enter Tryz.func44, Tryz.ntmps44;go_wp2_with (go_at_call 99; refine (isnan_any _ _).mono ?_; rintro e w' ⟨rfl, rfl⟩)
  all_goals
    go_ret;refine ⟨ret_int ?_, rfl⟩;rw [H0.out]
    first
      | (rw [if_pos (by omega)])
      | (rw [if_neg (by omega), if_pos (by omega)])
      | (rw [if_neg (by omega), if_neg (by omega)])
theorem pl1_any (a b : Nat) (t : Bs) (w : World) : Calls Tryz.prog 101 #[.agg #[.int .u64 a, .string ⟨t.toArray⟩], .int .u64 b] w fun e w' => e = .returned (.int .i64 (cmpV a b)) ∧ Up w w' := by
  have C := fun w => Lib.hid (cmp_any a b w);generalize cmpV a b = v at *;go_enter Tryz.func101, Tryz.ntmps101;go_wp2_with fail;refine (C _).out.mono ?_;rintro e w' ⟨rfl, rfl⟩;go_wp2_with fail;go_ret;exact ⟨rfl, (Up.refl w).alloc _⟩
def BsRel (w : World) (L : Items) (id gk : Nat) (i j : Value) (wr : World) : Prop := ∃ a b : Nat, i = .int .i64 a ∧ j = .int .i64 b ∧ a ≤ b ∧ b ≤ L.length ∧ b - a ≤ gk ∧
  (∀ k (h : k < L.length), k < a → L[k].1 < id) ∧ (∀ k (h : k < L.length), b ≤ k → id ≤ L[k].1) ∧ Up w wr
set_option maxHeartbeats 2000000 in
theorem bs_any (L : Items) (hl : L.length ≤ 1000000) (id : Nat) (A : Option Addr) (c : Nat) (hs : Srt L) (w : World) (hr : Rd w 2 A L.length c (itV L)) :
    Calls Tryz.prog 100 #[.slice A L.length c, .int .u64 id, .func (.func 101) #[] #[]] w fun e w' => e = .returned (.tuple #[.int .i64 (posL L id), .bool (memL L id)]) ∧ Up w w' := by
  have HR := Lib.hid hr;have HS := Lib.hid hs;clear hr hs;go_enter Tryz.func100, Tryz.ntmps100;go_wp2_with fail;go_loopg [9, 10] L.length (fun gk i j wr => BsRel w L id gk i j wr)
  case atStart => exact ⟨0, L.length, rfl, rfl, by omega, by omega, by omega, fun k _ h => absurd h (by omega), fun k h h2 => absurd h2 (by omega), Up.refl w⟩
  case round =>
    obtain ⟨a, b, rfl, rfl, hab, hbn, hg, hlo, hhi, hu⟩ := hrel;have LO := Lib.hid hlo;have HI := Lib.hid hhi;have HU := Lib.hid hu;clear hlo hhi;by_cases hlt : a < b
    · obtain ⟨m, rfl⟩ : ∃ m, gk = m + 1 := ⟨gk - 1, by omega⟩;obtain ⟨h, hh⟩ : ∃ h : Nat, h = (a + b) / 2 := ⟨_, rfl⟩;have h1 : a ≤ h := by omega
      have h2 : h < b := by omega
      have hltI : (a : Int) < (b : Int) := by omega
      have e1 : IntKind.i64.wrap ((a : Int) + (b : Int)) = (a : Int) + (b : Int) := IntWalk.i64_in _ (by omega);have e2 : IntKind.u64.wrap ((a : Int) + (b : Int)) = (a : Int) + (b : Int) := IntWalk.u64_in _ (by omega);have e3 : ((a : Int) + (b : Int)) / 2 = (h : Int) := by omega
      have e4 : IntKind.i64.wrap (h : Int) = (h : Int) := IntWalk.i64_in _ (by omega);obtain ⟨B, o, rfl, hc1, hc2⟩ := (HR.out.up hu).item (k := h) (by omega);obtain ⟨⟨xid, xt⟩, hx⟩ : ∃ x, L[h]'(Nat.lt_of_lt_of_le h2 hbn) = x := ⟨_, rfl⟩;rw [hx] at hc1 hc2;have HX := Lib.hid hx;clear hx hu;have hh2 : 2 * h ≤ a + b ∧ a + b ≤ 2 * h + 1 := by omega
      clear hh;simp only at hc1 hc2;have PL := fun w => Lib.hid (pl1_any xid id xt w);by_cases hc : xid < id
      · have PL := fun w => Lib.hid (pl1_any xid id xt w);rw [show cmpV xid id = -1 by unfold cmpV; rw [if_pos hc]] at PL;go_wp2_with fail;refine (PL _).out.mono ?_;rintro e w1 ⟨rfl, hu1⟩;go_wp2_with fail;go_roundg m
        case measure => omega
        case rel =>
          refine ⟨h + 1, b, by go_num, rfl, by omega, hbn, by omega, fun k hk hkh => ?_, HI.out, HU.out.trans hu1⟩;rcases Nat.lt_or_ge k h with g | g
          · have := HS.out k h hk (by omega) g;rw [HX.out] at this; simp only at this; omega
          · obtain rfl : k = h := by omega
            rw [HX.out]; exact hc
      · have PL := fun w => Lib.hid (pl1_any xid id xt w);have hv : 0 ≤ cmpV xid id := by unfold cmpV; rw [if_neg hc]; split <;> omega
        generalize cmpV xid id = v at *;have hvd : decide (v < 0) = false := by simp; omega
        go_wp2_with fail;refine (PL _).out.mono ?_;rintro e w1 ⟨rfl, hu1⟩;go_wp2_with fail;go_roundg m
        case measure => omega
        case rel =>
          refine ⟨a, h, rfl, rfl, h1, by omega, by omega, LO.out, fun k hk hkh => ?_, HU.out.trans hu1⟩;rcases Nat.lt_or_ge h k with g | g
          · have := HS.out h k (by omega) hk g;rw [HX.out] at this; simp only at this; omega
          · obtain rfl : k = h := by omega
            rw [HX.out]; show id ≤ xid; omega
    · obtain rfl : a = b := by omega
      have HP := Lib.hid (posL_eq L id a hbn LO.out (fun h => HI.out a h (Nat.le_refl _)));have HM := Lib.hid (memL_at HS.out LO.out HI.out);have hltI : ¬ (a : Int) < (a : Int) := by omega
      clear hlt hltI;by_cases hn : a < L.length
      · obtain ⟨B, o, rfl, hc1, hc2⟩ := (HR.out.up hu).item (k := a) hn;obtain ⟨⟨xid, xt⟩, hx⟩ : ∃ x, L[a]'hn = x := ⟨_, rfl⟩;rw [hx] at hc1 hc2;simp only at hc1 hc2;have PL := fun w => Lib.hid (pl1_any xid id xt w);have hv : (cmpV xid id == 0) = memL L id := by
          rw [HM.out];by_cases e : xid = id
          · rw [decide_eq_true (p := ∃ h : a < L.length, L[a].1 = id) ⟨hn, by rw [hx]; exact e⟩];unfold cmpV; rw [if_neg (by omega), if_neg (by omega)]; rfl
          · rw [decide_eq_false (p := ∃ h : a < L.length, L[a].1 = id) (by rintro ⟨_, h⟩; rw [hx] at h; exact e h)];unfold cmpV; split
            · rfl
            · rw [if_pos (by omega)]; rfl
        have HV := Lib.hid hv;clear hx hv hu;have hnI : (a : Int) < (L.length : Int) := by omega
        go_wp2_with fail;refine (PL _).out.mono ?_;rintro e w1 ⟨rfl, hu1⟩;go_wp2_with fail;go_ret2
        exact ⟨ret_two (int_eq (by rw [HP.out])) (bool_eq HV.out), HU.out.trans hu1⟩
      · obtain rfl : a = L.length := by omega
        have HM2 := Lib.hid (show memL L id = false by rw [HM.out]; exact decide_eq_false (by rintro ⟨h, _⟩; omega));clear hn;go_wp2_with fail;go_ret2
        exact ⟨ret_two (int_eq (by rw [HP.out])) (bool_eq HM2.out.symm), HU.out⟩
theorem place12_any (L : Items) (hl : L.length ≤ 1000000) (id : Nat) (A : Option Addr) (c : Nat) (hs : Srt L) (w : World) (hr : Rd w 2 A L.length c (itV L)) :
    Calls Tryz.prog 45 #[.agg #[.slice A L.length c], .int .u64 id] w fun e w' => e = .returned (.tuple #[.int .i64 (posL L id), .bool (memL L id)]) ∧ Up w w' := by
  have BS := fun w hr => Lib.hid (bs_any L hl id A c hs w hr);have HR := Lib.hid hr;clear hr hs;generalize memL L id = mv at *;generalize posL L id = pv at *;go_enter Tryz.func45, Tryz.ntmps45;have n0 := (Up.refl w).alloc (.cells #[.slice A L.length c] 29);go_wp2_with fail;refine (BS _ (HR.out.up n0)).out.mono ?_;rintro e w1 ⟨rfl, hu1⟩;go_wp2_with fail;go_ret2
  exact ⟨rfl, n0.trans hu1⟩
theorem wrong12_any (id : Nat) (s : Bs) (full : Bool) (w : World) :
    Calls Tryz.prog 41 #[.int .u64 id, .string ⟨s.toArray⟩, .bool full] w fun e w' => e = .returned (.int .i64 (wrongE id s full)) ∧ w = w' := by
  have h0 : wrongE id s full = if 6004799503160661 ≤ id then 8 else if s = [] then 2 else if 65536 < s.length then 5 else if full then 7 else 0 := rfl
  generalize wrongE id s full = v at *;have H0 := Lib.hid h0;clear h0;by_cases h1 : 6004799503160661 ≤ id
  · have e := H0.out; rw [if_pos h1] at e;have E := Lib.hid e; clear e;have h1' : (6004799503160661 : Int) ≤ (id : Int) := by omega
    go_enter Tryz.func41, Tryz.ntmps41;go_wp2_with fail;go_ret;exact ⟨ret_int E.out.symm, rfl⟩
  have h1' : ¬ (6004799503160661 : Int) ≤ (id : Int) := by omega
  by_cases h2 : s = []
  · have e := H0.out; rw [if_neg h1, if_pos h2] at e;have E := Lib.hid e; clear e;subst h2;go_enter Tryz.func41, Tryz.ntmps41;go_wp2_with fail;go_ret;exact ⟨ret_int E.out.symm, rfl⟩
  have hb2 : (s == []) = false := by rw [beq_eq_false_iff_ne]; exact h2
  by_cases h3 : 65536 < s.length
  · have e := H0.out; rw [if_neg h1, if_neg h2, if_pos h3] at e;have E := Lib.hid e; clear e;have h3' : (65536 : Int) < (s.length : Int) := by omega
    go_enter Tryz.func41, Tryz.ntmps41;go_wp2_with fail;go_ret;exact ⟨ret_int E.out.symm, rfl⟩
  have h3' : ¬ (65536 : Int) < (s.length : Int) := by omega
  have e := H0.out; rw [if_neg h1, if_neg h2, if_neg h3] at e;have E := Lib.hid e; clear e;cases full;all_goals
    go_enter Tryz.func41, Tryz.ntmps41;go_wp2_with fail;go_ret;exact ⟨ret_int E.out.symm, rfl⟩
end Go.Proofs.YtcfmidmokciofaaGreatDoor
/- Plain laws: charts as lists of items. -/
namespace Go.Gz
def getL : Items → Nat → Option Bs
  | [], _ => none
  | x :: r, id => if x.1 = id then some x.2 else getL r id
def delL (L : Items) (id : Nat) : Items := L.filter fun x => !(x.1 == id)
def insL (L : Items) (id : Nat) (s : Bs) : Items := ((delL L id).takeWhile fun x => decide (x.1 < id)) ++ (id, s) :: ((delL L id).dropWhile fun x => decide (x.1 < id))
def putE (L : Items) (id : Nat) (s : Bs) : Int := wrongE id s (!(getL L id).isSome && decide (2048 ≤ L.length))
def putL (L : Items) (id : Nat) (s : Bs) : Items := if putE L id s = 0 then insL L id s else L
theorem srt_iff (L : Items) : Srt L ↔ L.Pairwise (fun a b => a.1 < b.1) := (List.pairwise_iff_getElem (R := fun a b : Item => a.1 < b.1) (l := L)).symm
theorem mem_get (L : Items) (id : Nat) : memL L id = (getL L id).isSome := by
  induction L with
  | nil => rfl
  | cons x r ih =>
    unfold memL at ih ⊢;unfold getL;rw [List.any_cons, ih];by_cases h : x.1 = id
    · simp [h]
    · simp [h]
theorem get_drop {L : Items} {id : Nat} {k : Nat} (hk : k < L.length) (h : getL L id = getL (L.drop k) id) : (L[k].1 = id → getL L id = some L[k].2) ∧ (L[k].1 ≠ id → getL L id = getL (L.drop (k + 1)) id) := by
  rw [List.drop_eq_getElem_cons hk] at h;rw [h];refine ⟨fun e => ?_, fun e => ?_⟩
  · show (if L[k].1 = id then some L[k].2 else _) = _
    rw [if_pos e]
  · show (if L[k].1 = id then some L[k].2 else _) = _
    rw [if_neg e]
theorem del_take_succ {L : Items} {id : Nat} {k : Nat} (hk : k < L.length) : delL (L.take (k + 1)) id = delL (L.take k) id ++ (if L[k].1 = id then [] else [L[k]]) := by
  unfold delL;rw [List.take_succ_eq_append_getElem hk, List.filter_append];by_cases h : L[k].1 = id
  · simp [h]
  · simp [h]
theorem del_len (L : Items) (id : Nat) : (delL L id).length ≤ L.length := List.length_filter_le _ _
theorem tw_pos (M : Items) (id : Nat) : (M.takeWhile fun x => decide (x.1 < id)) = M.take (posL M id) ∧ (M.dropWhile fun x => decide (x.1 < id)) = M.drop (posL M id) := by
  have h := List.takeWhile_append_dropWhile (p := fun x : Item => decide (x.1 < id)) (l := M);have h1 : M.take (posL M id) ++ M.drop (posL M id) = M := List.take_append_drop _ _;have hl : (M.takeWhile fun x => decide (x.1 < id)).length = (M.take (posL M id)).length := by
    rw [List.length_take]; show posL M id = _;have : posL M id ≤ M.length := (List.takeWhile_sublist (p := fun x : Item => decide (x.1 < id)) (l := M)).length_le;omega
  exact List.append_inj (h.trans h1.symm) hl
theorem pos_le (M : Items) (id : Nat) : posL M id ≤ M.length := (List.takeWhile_sublist (p := fun x : Item => decide (x.1 < id)) (l := M)).length_le
theorem pos_below (M : Items) (id : Nat) : ∀ j (h : j < M.length), j < posL M id → M[j].1 < id := by
  induction M with
  | nil => intro j h; simp at h
  | cons x r ih =>
    intro j h hj;by_cases hx : x.1 < id
    · have e : posL (x :: r) id = posL r id + 1 := by unfold posL; rw [List.takeWhile_cons, if_pos (by simpa using hx)]; simp
      cases j with
      | zero => exact hx
      | succ j => rw [e] at hj; exact ih j (by simpa using h) (by omega)
    · have e : posL (x :: r) id = 0 := by unfold posL; rw [List.takeWhile_cons, if_neg (by simpa using hx)]; rfl
      omega
theorem pos_at (M : Items) (id : Nat) (h : posL M id < M.length) : id ≤ M[posL M id].1 := by
  induction M with
  | nil => simp at h
  | cons x r ih =>
    by_cases hx : x.1 < id
    · have e : posL (x :: r) id = posL r id + 1 := by unfold posL; rw [List.takeWhile_cons, if_pos (by simpa using hx)]; simp
      have := ih (by rw [e] at h; simpa using h);simp only [e, List.getElem_cons_succ];exact this
    · have e : posL (x :: r) id = 0 := by unfold posL; rw [List.takeWhile_cons, if_neg (by simpa using hx)]; rfl
      simp only [e, List.getElem_cons_zero]; omega
theorem all_gt {x : Item} {r : Items} {id : Nat} (h : (x :: r).Pairwise (fun a b => a.1 < b.1)) (hx : id ≤ x.1) : ∀ y ∈ r, id < y.1 := by
  intro y hy;have := (List.pairwise_cons.1 h).1 y hy;omega
theorem del_all {r : Items} {id : Nat} (h : ∀ y ∈ r, id < y.1) : delL r id = r := by
  unfold delL;rw [List.filter_eq_self];intro y hy;have := h y hy;simp; omega
theorem tw_none {r : Items} {id : Nat} (h : ∀ y ∈ r, id < y.1) : (r.takeWhile fun x => decide (x.1 < id)) = [] ∧ (r.dropWhile fun x => decide (x.1 < id)) = r := by
  cases r with
  | nil => exact ⟨rfl, rfl⟩
  | cons y t =>
    have := h y (by simp);constructor
    · rw [List.takeWhile_cons, if_neg (by simp; omega)]
    · rw [List.dropWhile_cons, if_neg (by simp; omega)]
theorem mem_none {r : Items} {id : Nat} (h : ∀ y ∈ r, id < y.1) : memL r id = false := by
  unfold memL;rw [List.any_eq_false];intro y hy;have := h y hy;simp; omega
theorem ins_lt {x : Item} {r : Items} {id : Nat} {s : Bs} (h : x.1 < id) : insL (x :: r) id s = x :: insL r id s := by
  unfold insL delL;rw [List.filter_cons, if_pos (by simp; omega), List.takeWhile_cons, if_pos (by simpa using h), List.dropWhile_cons, if_pos (by simpa using h)];rfl
theorem ins_same {x : Item} {r : Items} {id : Nat} {s : Bs} (h : x.1 = id) (hr : ∀ y ∈ r, id < y.1) : insL (x :: r) id s = (id, s) :: r := by
  have e : delL (x :: r) id = r := by
    have := del_all hr;unfold delL at this ⊢;rw [List.filter_cons, if_neg (by simp [h]), this]
  unfold insL;rw [e, (tw_none hr).1, (tw_none hr).2]; rfl
theorem ins_gt {x : Item} {r : Items} {id : Nat} {s : Bs} (h : id < x.1) (hr : ∀ y ∈ r, id < y.1) : insL (x :: r) id s = (id, s) :: x :: r := by
  have hx : ∀ y ∈ x :: r, id < y.1 := by
    intro y hy;rcases List.mem_cons.1 hy with rfl | hy
    · exact h
    · exact hr y hy
  unfold insL;rw [del_all hx, (tw_none hx).1, (tw_none hx).2]; rfl
theorem ins_eq (id : Nat) (s : Bs) : ∀ L : Items, Srt L → insL L id s = L.take (posL L id) ++ (id, s) :: L.drop (posL L id + (memL L id).toNat) := by
  intro L;rw [srt_iff];induction L with
  | nil => intro _; rfl
  | cons x r ih =>
    intro h;have hr := (List.pairwise_cons.1 h).2;rcases Nat.lt_trichotomy x.1 id with g | g | g
    · rw [ins_lt g, ih hr];have e : posL (x :: r) id = posL r id + 1 := by unfold posL; rw [List.takeWhile_cons, if_pos (by simpa using g)]; simp
      have e2 : memL (x :: r) id = memL r id := by
        unfold memL; rw [List.any_cons];have : (x.1 == id) = false := by rw [beq_eq_false_iff_ne]; omega
        rw [this]; rfl
      rw [e, e2, show posL r id + 1 + (memL r id).toNat = posL r id + (memL r id).toNat + 1 by omega];simp
    · have ha := all_gt h (by omega : id ≤ x.1);rw [ins_same g ha];have e : posL (x :: r) id = 0 := by unfold posL; rw [List.takeWhile_cons, if_neg (by simp; omega)]; rfl
      have e2 : memL (x :: r) id = true := by unfold memL; rw [List.any_cons]; simp [g]
      rw [e, e2]; rfl
    · have ha := all_gt h (by omega : id ≤ x.1);rw [ins_gt g ha];have e : posL (x :: r) id = 0 := by unfold posL; rw [List.takeWhile_cons, if_neg (by simp; omega)]; rfl
      have e2 : memL (x :: r) id = false := mem_none (by
        intro y hy;rcases List.mem_cons.1 hy with rfl | hy
        · exact g
        · exact ha y hy)
      rw [e, e2]; rfl
theorem mem_ins {L : Items} {id : Nat} {s : Bs} {y : Item} (h : y ∈ insL L id s) : y = (id, s) ∨ y ∈ L := by
  unfold insL at h;rcases List.mem_append.1 h with h | h
  · exact .inr (List.mem_filter.1 ((List.takeWhile_sublist _).subset h)).1
  · rcases List.mem_cons.1 h with h | h
    · exact .inl h
    · exact .inr (List.mem_filter.1 ((List.dropWhile_sublist _).subset h)).1
theorem srt_ins (id : Nat) (s : Bs) : ∀ L : Items, Srt L → Srt (insL L id s) := by
  intro L;rw [srt_iff, srt_iff];induction L with
  | nil => intro _; exact List.pairwise_singleton _ _
  | cons x r ih =>
    intro h;have hr := (List.pairwise_cons.1 h).2;rcases Nat.lt_trichotomy x.1 id with g | g | g
    · rw [ins_lt g];refine List.pairwise_cons.2 ⟨fun y hy => ?_, ih hr⟩;rcases mem_ins hy with rfl | hy
      · exact g
      · exact (List.pairwise_cons.1 h).1 y hy
    · have ha := all_gt h (by omega : id ≤ x.1);rw [ins_same g ha];exact List.pairwise_cons.2 ⟨ha, hr⟩
    · have ha := all_gt h (by omega : id ≤ x.1);rw [ins_gt g ha];refine List.pairwise_cons.2 ⟨fun y hy => ?_, h⟩;rcases List.mem_cons.1 hy with rfl | hy
      · exact g
      · exact ha y hy
theorem get_pos (id : Nat) (L : Items) (hs : Srt L) (hm : memL L id = true) : ∃ h : posL L id < L.length, L[posL L id] = (id, (getL L id).getD []) := by
  rw [srt_iff] at hs;induction L with
  | nil => simp [memL] at hm
  | cons x r ih =>
    have hr := (List.pairwise_cons.1 hs).2;rcases Nat.lt_trichotomy x.1 id with g | g | g
    · have e : posL (x :: r) id = posL r id + 1 := by unfold posL; rw [List.takeWhile_cons, if_pos (by simpa using g)]; simp
      have e2 : memL (x :: r) id = memL r id := by
        unfold memL; rw [List.any_cons];have : (x.1 == id) = false := by rw [beq_eq_false_iff_ne]; omega
        rw [this]; rfl
      rw [e2] at hm;obtain ⟨h, h2⟩ := ih hr hm;refine ⟨by rw [e]; simp; omega, ?_⟩;simp only [e, List.getElem_cons_succ];rw [h2];show _ = (id, (if x.1 = id then some x.2 else getL r id).getD [])
      rw [if_neg (by omega)]
    · have e : posL (x :: r) id = 0 := by unfold posL; rw [List.takeWhile_cons, if_neg (by simp; omega)]; rfl
      refine ⟨by rw [e]; simp, ?_⟩;simp only [e, List.getElem_cons_zero];show x = (id, (if x.1 = id then some x.2 else getL r id).getD [])
      rw [if_pos g];subst g; rfl
    · have ha := all_gt hs (by omega : id ≤ x.1);have : memL (x :: r) id = false := mem_none (by
        intro y hy;rcases List.mem_cons.1 hy with rfl | hy
        · exact g
        · exact ha y hy)
      rw [this] at hm; cases hm
theorem ins_len (L : Items) (id : Nat) (s : Bs) : (insL L id s).length = (delL L id).length + 1 := by
  unfold insL;rw [(tw_pos _ id).1, (tw_pos _ id).2];have := pos_le (delL L id) id;rw [List.length_append, List.length_cons, List.length_take, List.length_drop];omega
theorem put_len (L : Items) (id : Nat) (s : Bs) : (putL L id s).length ≤ L.length + 1 := by
  unfold putL; split
  · rw [ins_len]; have := del_len L id; omega
  · omega
theorem srt_put {L : Items} {id : Nat} {s : Bs} (h : Srt L) : Srt (putL L id s) := by
  unfold putL; split
  · exact srt_ins id s L h
  · exact h
end Go.Gz
/- Walks: entries of directories: wide, Check, Last, Has, Row. -/
namespace Go.Gz
/-- an entry as a value -/
def entA (e : Ent) : Value := .agg #[.int .u64 (e.id : Int), .int .u64 (e.off : Int), .int .u32 (e.len : Int), .int .u32 (e.run : Int)]
end Go.Gz
namespace Go.Proofs.YtcfmidmokciofaaGreatDoor
open Go.RowKit Go.Gz

set_option maxRecDepth 100000
/-- a new block of four cells -/
theorem new4 (w : World) (t : TypeId) (a b c d : Value) : Up w (w.alloc (.cells #[a, b, c, d] t)) ∧ (w.alloc (.cells #[a, b, c, d] t)).cell? ⟨w.heap.size, 0, none⟩ = some a ∧ (w.alloc (.cells #[a, b, c, d] t)).cell? ⟨w.heap.size, 1, none⟩ = some b ∧
    (w.alloc (.cells #[a, b, c, d] t)).cell? ⟨w.heap.size, 2, none⟩ = some c ∧ (w.alloc (.cells #[a, b, c, d] t)).cell? ⟨w.heap.size, 3, none⟩ = some d := by
  have hb := heap_alloc_new w (.cells #[a, b, c, d] t);exact ⟨(Up.refl _).alloc _, cell_of_row _ w.heap.size 0 _ _ _ hb, cell_of_row _ w.heap.size 1 _ _ _ hb, cell_of_row _ w.heap.size 2 _ _ _ hb, cell_of_row _ w.heap.size 3 _ _ _ hb⟩
theorem wide_any (e : Ent) (ho : okE e) (w : World) :
    Calls Tryz.prog 131 #[entA e] w fun en w' => en = .returned (.int .u64 (wideE e)) ∧ Up w w' := by
  obtain ⟨id, off, len, run⟩ := e;obtain ⟨h1, h2, h3, h4⟩ := ho;simp only [entA] at *;have h0 : (wideE ⟨id, off, len, run⟩ : Nat) = max 1 run := rfl;generalize wideE ⟨id, off, len, run⟩ = v at *;have H0 := Lib.hid h0;clear h0;go_enter Tryz.func131, Tryz.ntmps131;go_wp2_with fail;go_ret;refine ⟨ret_int ?_, (Up.refl w).alloc _⟩;rw [H0.out];omega
theorem end_any (e : Ent) (h : e.off ≤ 1099511627776) (ho : okE e) (w : World) :
    Calls Tryz.prog 167 #[entA e] w fun en w' => en = .returned (.int .u64 ((e.off + e.len : Nat) : Int)) ∧ Up w w' := by
  obtain ⟨id, off, len, run⟩ := e;obtain ⟨h1, h2, h3, h4⟩ := ho;simp only [entA] at *;have e1 : IntKind.u64.wrap ((off : Int) + (len : Int)) = (off : Int) + (len : Int) := IntWalk.u64_in _ (by omega);go_enter Tryz.func167, Tryz.ntmps167;go_wp2_with fail;go_ret;exact ⟨ret_int (by omega), (Up.refl w).alloc _⟩
set_option maxHeartbeats 1000000 in
theorem chk_any (e : Ent) (ho : okE e) (w : World) :
    Calls Tryz.prog 109 #[entA e] w fun en w' => en = .returned (.int .i64 (chkE e)) ∧ Up w w' := by
  have WD := fun w => Lib.hid (wide_any e ho w);have ED := fun h w => Lib.hid (end_any e h ho w);have h0 : chkE e = if e.len = 0 then 2 else if 6004799503160661 < e.id + wideE e then 8 else if 1099511627776 < e.off + e.len then 8 else 0 := rfl
  have hw : 1 ≤ wideE e ∧ wideE e < 4294967296 := by have := ho.2.2.2; unfold wideE; omega
  generalize chkE e = v at *;generalize wideE e = wd at *;obtain ⟨id, off, len, run⟩ := e;obtain ⟨h1, h2, h3, h4⟩ := ho;simp only [entA] at *;have H0 := Lib.hid h0;have n0 := new4 w 72 (.int .u64 id) (.int .u64 off) (.int .u32 len) (.int .u32 run);have HU0 := Lib.hid n0.1;have N0 := Lib.hid n0.2;clear h0 n0;by_cases c1 : len = 0
  · have E := H0.out; rw [if_pos c1] at E;have EE := Lib.hid E;clear E H0;subst c1;go_enter Tryz.func109, Tryz.ntmps109;go_wp2_with fail;go_ret;exact ⟨ret_int EE.out.symm, (Up.refl w).alloc _⟩
  have b1 : ((len : Int) == 0) = false := by rw [beq_eq_false_iff_ne]; omega
  have e1 : IntKind.u64.wrap (6004799503160661 - (wd : Int)) = 6004799503160661 - (wd : Int) := IntWalk.u64_in _ (by omega);by_cases c2 : 6004799503160661 < id + wd
  · have E := H0.out; rw [if_neg c1, if_pos c2] at E;have EE := Lib.hid E;clear E H0 c1;have b2 : 6004799503160661 - (wd : Int) < (id : Int) := by omega
    clear c2;go_enter Tryz.func109, Tryz.ntmps109;go_wp2_with fail;generalize hW : w.alloc _ = W at *;obtain ⟨c0, c1, c2, c3⟩ := N0.out;have MK := Lib.hid (fun w' (h : Up W w') => (⟨h, h.cell N0.out.1, h.cell N0.out.2.1, h.cell N0.out.2.2.1, h.cell N0.out.2.2.2⟩ : Up W w' ∧ w'.cell? ⟨w.heap.size, 0, none⟩ = some (.int .u64 id) ∧ w'.cell? ⟨w.heap.size, 1, none⟩ = some (.int .u64 off) ∧ w'.cell? ⟨w.heap.size, 2, none⟩ = some (.int .u32 len) ∧ w'.cell? ⟨w.heap.size, 3, none⟩ = some (.int .u32 run)))
    go_region_held3 (fun w' => Up W w' ∧ w'.cell? ⟨w.heap.size, 0, none⟩ = some (.int .u64 id) ∧ w'.cell? ⟨w.heap.size, 1, none⟩ = some (.int .u64 off) ∧ w'.cell? ⟨w.heap.size, 2, none⟩ = some (.int .u32 len) ∧ w'.cell? ⟨w.heap.size, 3, none⟩ = some (.int .u32 run))
      (first
      | assumption
      | exact MK.out _ (Up.refl _)
      | exact MK.out _ (Up.refl _).drew
      | exact MK.out _ (Up.trans (And.left (by assumption)) (by assumption))
      | exact MK.out _ (Up.alloc (And.left (by assumption)) _)
      | exact MK.out _ (Up.trans (Up.alloc (And.left (by assumption)) _) (by assumption)))
      (first
        | (go_at_call 131; refine (WD _).out.mono ?_; rintro e w1 ⟨rfl, hu1⟩))
    all_goals
      obtain ⟨su, s0, s1, s2, s3⟩ : Up W w1 ∧ w1.cell? ⟨w.heap.size, 0, none⟩ = some (.int .u64 id) ∧ w1.cell? ⟨w.heap.size, 1, none⟩ = some (.int .u64 off) ∧ w1.cell? ⟨w.heap.size, 2, none⟩ = some (.int .u32 len) ∧ w1.cell? ⟨w.heap.size, 3, none⟩ = some (.int .u32 run) := by assumption
      go_wp2_with fail;go_ret;exact ⟨ret_int EE.out.symm, HU0.out.trans su⟩
  have b2 : ¬ 6004799503160661 - (wd : Int) < (id : Int) := by omega
  by_cases c3 : 1099511627776 < off
  · have E := H0.out; rw [if_neg c1, if_neg c2, if_pos (by omega)] at E;have EE := Lib.hid E;clear E H0 c1;have b3 : 1099511627776 < (off : Int) := by omega
    clear c2 c3;go_enter Tryz.func109, Tryz.ntmps109;go_wp2_with fail;generalize hW : w.alloc _ = W at *;obtain ⟨c0, c1, c2, c3⟩ := N0.out;have MK := Lib.hid (fun w' (h : Up W w') => (⟨h, h.cell N0.out.1, h.cell N0.out.2.1, h.cell N0.out.2.2.1, h.cell N0.out.2.2.2⟩ : Up W w' ∧ w'.cell? ⟨w.heap.size, 0, none⟩ = some (.int .u64 id) ∧ w'.cell? ⟨w.heap.size, 1, none⟩ = some (.int .u64 off) ∧ w'.cell? ⟨w.heap.size, 2, none⟩ = some (.int .u32 len) ∧ w'.cell? ⟨w.heap.size, 3, none⟩ = some (.int .u32 run)))
    go_region_held3 (fun w' => Up W w' ∧ w'.cell? ⟨w.heap.size, 0, none⟩ = some (.int .u64 id) ∧ w'.cell? ⟨w.heap.size, 1, none⟩ = some (.int .u64 off) ∧ w'.cell? ⟨w.heap.size, 2, none⟩ = some (.int .u32 len) ∧ w'.cell? ⟨w.heap.size, 3, none⟩ = some (.int .u32 run))
      (first
      | assumption
      | exact MK.out _ (Up.refl _)
      | exact MK.out _ (Up.refl _).drew
      | exact MK.out _ (Up.trans (And.left (by assumption)) (by assumption))
      | exact MK.out _ (Up.alloc (And.left (by assumption)) _)
      | exact MK.out _ (Up.trans (Up.alloc (And.left (by assumption)) _) (by assumption)))
      (first
        | (go_at_call 131; refine (WD _).out.mono ?_; rintro e w1 ⟨rfl, hu1⟩))
    all_goals
      obtain ⟨su, s0, s1, s2, s3⟩ : Up W w1 ∧ w1.cell? ⟨w.heap.size, 0, none⟩ = some (.int .u64 id) ∧ w1.cell? ⟨w.heap.size, 1, none⟩ = some (.int .u64 off) ∧ w1.cell? ⟨w.heap.size, 2, none⟩ = some (.int .u32 len) ∧ w1.cell? ⟨w.heap.size, 3, none⟩ = some (.int .u32 run) := by assumption
      go_wp2_with fail;go_ret;exact ⟨ret_int EE.out.symm, HU0.out.trans su⟩
  have b3 : ¬ 1099511627776 < (off : Int) := by omega
  have ED := fun w => ED (by omega) w;by_cases c4 : 1099511627776 < off + len
  · have E := H0.out; rw [if_neg c1, if_neg c2, if_pos c4] at E;have EE := Lib.hid E;clear E H0 c1;have b4 : 1099511627776 < ((off + len : Nat) : Int) := by omega
    generalize off + len = oe at *;clear c2 c3 c4;go_enter Tryz.func109, Tryz.ntmps109;go_wp2_with fail;generalize hW : w.alloc _ = W at *;obtain ⟨c0, c1, c2, c3⟩ := N0.out;have MK := Lib.hid (fun w' (h : Up W w') => (⟨h, h.cell N0.out.1, h.cell N0.out.2.1, h.cell N0.out.2.2.1, h.cell N0.out.2.2.2⟩ : Up W w' ∧ w'.cell? ⟨w.heap.size, 0, none⟩ = some (.int .u64 id) ∧ w'.cell? ⟨w.heap.size, 1, none⟩ = some (.int .u64 off) ∧ w'.cell? ⟨w.heap.size, 2, none⟩ = some (.int .u32 len) ∧ w'.cell? ⟨w.heap.size, 3, none⟩ = some (.int .u32 run)))
    go_region_held3 (fun w' => Up W w' ∧ w'.cell? ⟨w.heap.size, 0, none⟩ = some (.int .u64 id) ∧ w'.cell? ⟨w.heap.size, 1, none⟩ = some (.int .u64 off) ∧ w'.cell? ⟨w.heap.size, 2, none⟩ = some (.int .u32 len) ∧ w'.cell? ⟨w.heap.size, 3, none⟩ = some (.int .u32 run))
      (first
      | assumption
      | exact MK.out _ (Up.refl _)
      | exact MK.out _ (Up.refl _).drew
      | exact MK.out _ (Up.trans (And.left (by assumption)) (by assumption))
      | exact MK.out _ (Up.alloc (And.left (by assumption)) _)
      | exact MK.out _ (Up.trans (Up.alloc (And.left (by assumption)) _) (by assumption)))
      (first
        | (go_at_call 131; refine (WD _).out.mono ?_; rintro e w1 ⟨rfl, hu1⟩))
    all_goals
      obtain ⟨su, s0, s1, s2, s3⟩ : Up W w1 ∧ w1.cell? ⟨w.heap.size, 0, none⟩ = some (.int .u64 id) ∧ w1.cell? ⟨w.heap.size, 1, none⟩ = some (.int .u64 off) ∧ w1.cell? ⟨w.heap.size, 2, none⟩ = some (.int .u32 len) ∧ w1.cell? ⟨w.heap.size, 3, none⟩ = some (.int .u32 run) := by assumption
      go_wp2_with fail;refine (ED _).out.mono ?_;rintro e w2 ⟨rfl, hu2⟩;go_wp2_with fail;go_ret;exact ⟨ret_int EE.out.symm, HU0.out.trans (su.trans hu2)⟩
  · have E := H0.out; rw [if_neg c1, if_neg c2, if_neg c4] at E;have EE := Lib.hid E;clear E H0 c1;have b4 : ¬ 1099511627776 < ((off + len : Nat) : Int) := by omega
    generalize off + len = oe at *;clear c2 c3 c4;go_enter Tryz.func109, Tryz.ntmps109;go_wp2_with fail;generalize hW : w.alloc _ = W at *;obtain ⟨c0, c1, c2, c3⟩ := N0.out;have MK := Lib.hid (fun w' (h : Up W w') => (⟨h, h.cell N0.out.1, h.cell N0.out.2.1, h.cell N0.out.2.2.1, h.cell N0.out.2.2.2⟩ : Up W w' ∧ w'.cell? ⟨w.heap.size, 0, none⟩ = some (.int .u64 id) ∧ w'.cell? ⟨w.heap.size, 1, none⟩ = some (.int .u64 off) ∧ w'.cell? ⟨w.heap.size, 2, none⟩ = some (.int .u32 len) ∧ w'.cell? ⟨w.heap.size, 3, none⟩ = some (.int .u32 run)))
    go_region_held3 (fun w' => Up W w' ∧ w'.cell? ⟨w.heap.size, 0, none⟩ = some (.int .u64 id) ∧ w'.cell? ⟨w.heap.size, 1, none⟩ = some (.int .u64 off) ∧ w'.cell? ⟨w.heap.size, 2, none⟩ = some (.int .u32 len) ∧ w'.cell? ⟨w.heap.size, 3, none⟩ = some (.int .u32 run))
      (first
      | assumption
      | exact MK.out _ (Up.refl _)
      | exact MK.out _ (Up.refl _).drew
      | exact MK.out _ (Up.trans (And.left (by assumption)) (by assumption))
      | exact MK.out _ (Up.alloc (And.left (by assumption)) _)
      | exact MK.out _ (Up.trans (Up.alloc (And.left (by assumption)) _) (by assumption)))
      (first
        | (go_at_call 131; refine (WD _).out.mono ?_; rintro e w1 ⟨rfl, hu1⟩))
    all_goals
      obtain ⟨su, s0, s1, s2, s3⟩ : Up W w1 ∧ w1.cell? ⟨w.heap.size, 0, none⟩ = some (.int .u64 id) ∧ w1.cell? ⟨w.heap.size, 1, none⟩ = some (.int .u64 off) ∧ w1.cell? ⟨w.heap.size, 2, none⟩ = some (.int .u32 len) ∧ w1.cell? ⟨w.heap.size, 3, none⟩ = some (.int .u32 run) := by assumption
      go_wp2_with fail;refine (ED _).out.mono ?_;rintro e w2 ⟨rfl, hu2⟩;go_wp2_with fail;go_ret;exact ⟨ret_int EE.out.symm, HU0.out.trans (su.trans hu2)⟩
set_option maxHeartbeats 1000000 in
theorem may_any (e : Ent) (ho : okE e) (w : World) :
    Calls Tryz.prog 130 #[entA e] w fun en w' => en = .returned (.bool (decide (chkE e = 0))) ∧ Up w w' := by
  have CK := fun w => Lib.hid (chk_any e ho w);have hv : (chkE e == 0) = decide (chkE e = 0) := rfl;generalize chkE e = v at *;have HV := Lib.hid hv;clear hv;obtain ⟨id, off, len, run⟩ := e;obtain ⟨h1, h2, h3, h4⟩ := ho;simp only [entA] at *;have n0 := new4 w 72 (.int .u64 id) (.int .u64 off) (.int .u32 len) (.int .u32 run);have HU0 := Lib.hid n0.1;have N0 := Lib.hid n0.2;clear n0;go_enter Tryz.func130, Tryz.ntmps130;go_wp2_with fail;refine (CK _).out.mono ?_;rintro e w1 ⟨rfl, hu1⟩;go_wp2_with fail;go_ret;exact ⟨ret_bool HV.out, HU0.out.trans hu1⟩
set_option maxHeartbeats 1000000 in
theorem last_any (e : Ent) (ho : okE e) (w : World) :
    Calls Tryz.prog 77 #[entA e] w fun en w' => en = .returned (.int .u64 (lastE e)) ∧ Up w w' := by
  have MY := fun w => Lib.hid (may_any e ho w);have WD := fun w => Lib.hid (wide_any e ho w);have hw : 1 ≤ wideE e ∧ wideE e < 4294967296 := by have := ho.2.2.2; unfold wideE; omega
  have h0 : lastE e = if chkE e = 0 then e.id + wideE e - 1 else 0 := rfl
  have hid : chkE e = 0 → e.id + wideE e ≤ 6004799503160661 := fun h => (chk_ok h).2.1;generalize lastE e = v at *;generalize wideE e = wd at *;by_cases hc : chkE e = 0
  · rw [if_pos hc] at h0;have hid := hid hc;rw [decide_eq_true hc] at MY;clear hc;obtain ⟨id, off, len, run⟩ := e;obtain ⟨h1, h2, h3, h4⟩ := ho;simp only [entA] at *;have n0 := new4 w 72 (.int .u64 id) (.int .u64 off) (.int .u32 len) (.int .u32 run);have HU0 := Lib.hid n0.1;have N0 := Lib.hid n0.2;have H0 := Lib.hid h0;have e1 : IntKind.u64.wrap ((id : Int) + (wd : Int)) = (id : Int) + (wd : Int) := IntWalk.u64_in _ (by omega);have e2 : IntKind.u64.wrap ((id : Int) + (wd : Int) - 1) = (id : Int) + (wd : Int) - 1 := IntWalk.u64_in _ (by omega);clear n0 h0;go_enter Tryz.func77, Tryz.ntmps77;go_wp2_with fail;refine (MY _).out.mono ?_;rintro e w0 ⟨rfl, hu0⟩;obtain ⟨c0, c1, c2, c3⟩ := N0.out;replace c0 := hu0.cell c0;replace c1 := hu0.cell c1;replace c2 := hu0.cell c2;replace c3 := hu0.cell c3;have HU1 := Lib.hid (HU0.out.trans hu0);clear N0 HU0 hu0;go_wp2_with fail;have N0 := Lib.hid (And.intro c0 (And.intro c1 (And.intro c2 c3)));generalize w0 = W at *;have MK := Lib.hid (fun w' (h : Up W w') => (⟨h, h.cell N0.out.1, h.cell N0.out.2.1, h.cell N0.out.2.2.1, h.cell N0.out.2.2.2⟩ : Up W w' ∧ w'.cell? ⟨w.heap.size, 0, none⟩ = some (.int .u64 id) ∧ w'.cell? ⟨w.heap.size, 1, none⟩ = some (.int .u64 off) ∧ w'.cell? ⟨w.heap.size, 2, none⟩ = some (.int .u32 len) ∧ w'.cell? ⟨w.heap.size, 3, none⟩ = some (.int .u32 run)))
    go_region_held3 (fun w' => Up W w' ∧ w'.cell? ⟨w.heap.size, 0, none⟩ = some (.int .u64 id) ∧ w'.cell? ⟨w.heap.size, 1, none⟩ = some (.int .u64 off) ∧ w'.cell? ⟨w.heap.size, 2, none⟩ = some (.int .u32 len) ∧ w'.cell? ⟨w.heap.size, 3, none⟩ = some (.int .u32 run))
      (first
      | assumption
      | exact MK.out _ (Up.refl _)
      | exact MK.out _ (Up.refl _).drew
      | exact MK.out _ (Up.trans (And.left (by assumption)) (by assumption))
      | exact MK.out _ (Up.alloc (And.left (by assumption)) _)
      | exact MK.out _ (Up.trans (Up.alloc (And.left (by assumption)) _) (by assumption)))
      (first
        | (go_at_call 131; refine (WD _).out.mono ?_; rintro e w1 ⟨rfl, hu1⟩))
    all_goals
      obtain ⟨su, s0, s1, s2, s3⟩ : Up W w1 ∧ w1.cell? ⟨w.heap.size, 0, none⟩ = some (.int .u64 id) ∧ w1.cell? ⟨w.heap.size, 1, none⟩ = some (.int .u64 off) ∧ w1.cell? ⟨w.heap.size, 2, none⟩ = some (.int .u32 len) ∧ w1.cell? ⟨w.heap.size, 3, none⟩ = some (.int .u32 run) := by assumption
      go_wp2_with fail;go_ret;exact ⟨ret_int (by rw [H0.out]; omega), HU1.out.trans su⟩
  · rw [if_neg hc] at h0;rw [decide_eq_false hc] at MY;have H0 := Lib.hid h0;clear hc h0 hid;obtain ⟨id, off, len, run⟩ := e;simp only [entA] at *;have n0 := new4 w 72 (.int .u64 id) (.int .u64 off) (.int .u32 len) (.int .u32 run);have HU0 := Lib.hid n0.1;clear n0;go_enter Tryz.func77, Tryz.ntmps77;go_wp2_with fail;refine (MY _).out.mono ?_;rintro e w0 ⟨rfl, hu0⟩;go_wp2_with fail;go_ret;exact ⟨ret_int (by rw [H0.out]; rfl), HU0.out.trans hu0⟩
set_option maxHeartbeats 1000000 in
theorem has_any (e : Ent) (ho : okE e) (x : Nat) (w : World) :
    Calls Tryz.prog 117 #[entA e, .int .u64 x] w fun en w' => en = .returned (.bool (hasE e x)) ∧ Up w w' := by
  have MY := fun w => Lib.hid (may_any e ho w);have LS := fun w => Lib.hid (last_any e ho w);have h0 : hasE e x = (decide (chkE e = 0) && decide (0 < e.run) && decide (e.id ≤ x) && decide (x ≤ lastE e)) := rfl;generalize hasE e x = v at *;generalize lastE e = la at *;obtain ⟨mb, hmb⟩ : ∃ mb, decide (chkE e = 0) = mb := ⟨_, rfl⟩;rw [hmb] at MY h0;clear hmb;obtain ⟨id, off, len, run⟩ := e;obtain ⟨h1, h2, h3, h4⟩ := ho;simp only [entA] at *;have n0 := new4 w 72 (.int .u64 id) (.int .u64 off) (.int .u32 len) (.int .u32 run);have HU0 := Lib.hid n0.1;have N0 := Lib.hid n0.2;clear n0;have HZ := Lib.hid h0;clear h0;cases mb
  · go_enter Tryz.func117, Tryz.ntmps117;go_wp2_with fail;refine (MY _).out.mono ?_;rintro e w1 ⟨rfl, hu1⟩;go_wp2_with fail;go_ret;exact ⟨ret_bool (by rw [HZ.out]; rfl), HU0.out.trans hu1⟩
  have key : (∀ (hr : ¬ 0 < run), v = false) ∧ (∀ (hr : 0 < run) (hi : ¬ id ≤ x), v = false) ∧ (∀ (hr : 0 < run) (hi : id ≤ x), v = decide (x ≤ la)) := by
    have h := HZ.out;refine ⟨fun hr => ?_, fun hr hi => ?_, fun hr hi => ?_⟩
    · rw [h, decide_eq_false hr]; rfl
    · rw [h, decide_eq_true hr, decide_eq_false hi]; rfl
    · rw [h, decide_eq_true hr, decide_eq_true hi]; rfl
  have KEY := Lib.hid key;clear key;by_cases hr : 0 < run
  · by_cases hi : id ≤ x
    · have E := Lib.hid (KEY.out.2.2 hr hi);have hrI : (0 : Int) < (run : Int) := by omega
      have hiI : (id : Int) ≤ (x : Int) := by omega
      clear hr hi KEY HZ;go_enter Tryz.func117, Tryz.ntmps117;go_wp2_with fail;refine (MY _).out.mono ?_;rintro e w1 ⟨rfl, hu1⟩;obtain ⟨c0, c1, c2, c3⟩ := N0.out;replace c0 := hu1.cell c0;replace c1 := hu1.cell c1;replace c2 := hu1.cell c2;replace c3 := hu1.cell c3;clear N0;go_wp2_with fail;refine (LS _).out.mono ?_;rintro e w2 ⟨rfl, hu2⟩;go_wp2_with fail;go_ret;refine ⟨ret_bool ?_, HU0.out.trans (hu1.trans hu2)⟩;rw [E.out]
    · have E := Lib.hid (KEY.out.2.1 hr hi);have hrI : (0 : Int) < (run : Int) := by omega
      have hiI : ¬ (id : Int) ≤ (x : Int) := by omega
      clear hr hi KEY HZ;go_enter Tryz.func117, Tryz.ntmps117;go_wp2_with fail;refine (MY _).out.mono ?_;rintro e w1 ⟨rfl, hu1⟩;obtain ⟨c0, c1, c2, c3⟩ := N0.out;replace c0 := hu1.cell c0;replace c1 := hu1.cell c1;replace c2 := hu1.cell c2;replace c3 := hu1.cell c3;clear N0;go_wp2_with fail;go_ret;exact ⟨ret_bool E.out.symm, HU0.out.trans hu1⟩
  · have E := Lib.hid (KEY.out.1 hr);have hrI : ¬ (0 : Int) < (run : Int) := by omega
    clear hr KEY HZ;go_enter Tryz.func117, Tryz.ntmps117;go_wp2_with fail;refine (MY _).out.mono ?_;rintro e w1 ⟨rfl, hu1⟩;obtain ⟨c0, c1, c2, c3⟩ := N0.out;replace c0 := hu1.cell c0;replace c1 := hu1.cell c1;replace c2 := hu1.cell c2;replace c3 := hu1.cell c3;clear N0;go_wp2_with fail;go_ret;exact ⟨ret_bool E.out.symm, HU0.out.trans hu1⟩
theorem Rd.ent {w : World} {l : Ents} {A : Option Addr} {c : Nat} (h : Rd w 4 A l.length c (entV l)) {k : Nat} (hk : k < l.length) : ∃ b o, A = some ⟨b, o, none⟩ ∧ w.cell? ⟨b, o + k * 4, none⟩ = some (.int .u64 (l[k].id : Int)) ∧ w.cell? ⟨b, o + k * 4 + 1, none⟩ = some (.int .u64 (l[k].off : Int)) ∧
    w.cell? ⟨b, o + k * 4 + 2, none⟩ = some (.int .u32 (l[k].len : Int)) ∧ w.cell? ⟨b, o + k * 4 + 3, none⟩ = some (.int .u32 (l[k].run : Int)) := by
  obtain ⟨b, o, e, hc⟩ := h.2.2.2.2 (by omega);obtain ⟨g0, g1, g2, g3⟩ := entV_get l k hk;exact ⟨b, o, e, hc _ _ g0, by have := hc _ _ g1; rwa [← Nat.add_assoc] at this, by have := hc _ _ g2; rwa [← Nat.add_assoc] at this, by have := hc _ _ g3; rwa [← Nat.add_assoc] at this⟩
set_option maxHeartbeats 2000000 in
theorem row_any (l : Ents) (hok : ∀ e ∈ l, okE e) (hl : l.length ≤ 1000000) (A : Option Addr) (c : Nat) (w : World) (hr : Rd w 4 A l.length c (entV l)) :
    Calls Tryz.prog 54 #[.slice A l.length c] w fun e w' => e = .returned (.int .i64 (rowE l)) ∧ Up w w' := by
  have HR := Lib.hid hr;have HO := Lib.hid hok;clear hr hok;by_cases hbig : 4096 < l.length
  · have e : rowE l = 21 := by unfold rowE; rw [if_pos hbig]
    rw [e];have h' : (4096 : Int) < (l.length : Int) := by omega
    go_enter Tryz.func54, Tryz.ntmps54;go_wp2_with fail;go_ret;exact ⟨rfl, Up.refl w⟩
  have h0 : rowE l = rowGo 0 l := by unfold rowE; rw [if_neg hbig]
  rw [h0];have h' : ¬ (4096 : Int) < (l.length : Int) := by omega
  generalize hT : rowGo 0 l = T at *;have HT := Lib.hid hT;clear hT h0;go_enter Tryz.func54, Tryz.ntmps54;go_wp2_with fail;go_loopg [3, 12] l.length (fun gk fr i wr => ∃ k f : Nat, k + gk = l.length ∧ i = .int .i64 k ∧ fr = .int .u64 f ∧ f ≤ 6004799503160662 ∧ rowGo f (l.drop k) = T ∧ Up w wr)
  case atStart => exact ⟨0, 0, by omega, rfl, rfl, by omega, by simpa using HT.out, Up.refl w⟩
  case round =>
    obtain ⟨k, f, hk, rfl, rfl, hf, hd, hu⟩ := hrel;have HU := Lib.hid hu;by_cases hlt : k < l.length
    · obtain ⟨m, rfl⟩ : ∃ m, gk = m + 1 := ⟨gk - 1, by omega⟩;obtain ⟨B, o, rfl, d0, d1, d2, d3⟩ := (HR.out.up hu).ent hlt;rw [List.drop_eq_getElem_cons hlt] at hd;have ho := HO.out l[k] (List.getElem_mem hlt);obtain ⟨x, hx⟩ : ∃ x, l[k]'hlt = x := ⟨_, rfl⟩;rw [hx] at d0 d1 d2 d3 hd ho;have CK := fun w => Lib.hid (chk_any x ho w);have LS := fun w => Lib.hid (last_any x ho w);have hstep : (chkE x ≠ 0 → T = chkE x) ∧ (chkE x = 0 → x.id < f → T = 10) ∧ (chkE x = 0 → ¬ x.id < f → rowGo (lastE x + 1) (l.drop (k + 1)) = T ∧ lastE x + 1 ≤ 6004799503160662) := by
        unfold rowGo at hd;refine ⟨fun h => ?_, fun h h2 => ?_, fun h h2 => ?_⟩
        · rw [if_pos h] at hd; exact hd.symm
        · rw [if_neg (by omega), if_pos h2] at hd; exact hd.symm
        · rw [if_neg (by omega), if_neg h2] at hd;refine ⟨hd, ?_⟩;have h3 := chk_ok h;rw [last_ok h]; omega
      have HS := Lib.hid hstep;have hltI : (k : Int) < (l.length : Int) := by omega
      generalize chkE x = cv at *;generalize lastE x = la at *;obtain ⟨id, off, len, run⟩ := x;simp only [entA] at *;clear hd hstep hx ho hu;have n0 := new4 wr 72 (.int .u64 id) (.int .u64 off) (.int .u32 len) (.int .u32 run);have HU1 := Lib.hid (HU.out.trans n0.1);have N0 := Lib.hid n0.2;clear n0;by_cases hc : cv = 0
      · subst hc;by_cases hlf : id < f
        · have E := Lib.hid (HS.out.2.1 rfl hlf);have hlfI : (id : Int) < (f : Int) := by omega
          clear hlf HS;go_wp2_with fail;refine (CK _).out.mono ?_;rintro e w1 ⟨rfl, hu1⟩;have c0 := hu1.cell N0.out.1;go_wp2_with fail;go_ret;exact ⟨ret_int E.out.symm, HU1.out.trans hu1⟩
        · obtain ⟨hd, hle⟩ := HS.out.2.2 rfl hlf;have HD := Lib.hid hd;have hlfI : ¬ (id : Int) < (f : Int) := by omega
          have e1 : IntKind.u64.wrap ((la : Int) + 1) = (la : Int) + 1 := IntWalk.u64_in _ (by omega);clear hd HS;go_wp2_with fail;refine (CK _).out.mono ?_;rintro e w1 ⟨rfl, hu1⟩;obtain ⟨c0, c1, c2, c3⟩ := N0.out;replace c0 := hu1.cell c0;replace c1 := hu1.cell c1;replace c2 := hu1.cell c2;replace c3 := hu1.cell c3;have HU2 := Lib.hid (HU1.out.trans hu1);clear N0 hu1;go_wp2_with fail;refine (LS _).out.mono ?_;rintro e w2 ⟨rfl, hu2⟩;go_wp2_with fail;go_roundg m
          case measure => omega
          case rel => exact ⟨k + 1, la + 1, by omega, by go_num, by go_num, hle, HD.out, HU2.out.trans hu2⟩
      · have E := Lib.hid (HS.out.1 hc);have hb : (cv != 0) = true := by rw [bne_iff_ne]; exact hc
        clear hc HS;go_wp2_with fail;refine (CK _).out.mono ?_;rintro e w1 ⟨rfl, hu1⟩;go_wp2_with fail;go_ret;exact ⟨ret_int E.out.symm, HU1.out.trans hu1⟩
    · obtain rfl : k = l.length := by omega
      rw [List.drop_length] at hd;have hd : T = 0 := hd.symm;subst hd;clear hlt;go_wp2_with fail;go_ret;exact ⟨rfl, HU.out⟩
end Go.Proofs.YtcfmidmokciofaaGreatDoor
/- A list stays where the turned blocks hold no such cell. -/
namespace Go.Proofs.YtcfmidmokciofaaGreatDoor
open Go.RowKit Go.Gz
set_option maxRecDepth 100000
/-- a list stays where the turned blocks hold no such cell -/
theorem Rd.tw {w w' : World} {S : List Nat} {size n c : Nat} {A : Option Addr} {xs : List Value} (h : Rd w size A n c xs) (t : Tw S w w') (j0 : Nat) (hj : 0 < n → ∃ v0, xs[j0]? = some v0 ∧ ∀ q ∈ S, ∀ o, w.cell? ⟨q, o, none⟩ ≠ some v0) : Rd w' size A n c xs := by
  refine ⟨h.1, h.2.1, h.2.2.1, h.2.2.2.1, fun hn => ?_⟩;obtain ⟨b, o, e, hc⟩ := h.2.2.2.2 hn;obtain ⟨v0, h1, h2⟩ := hj hn;refine ⟨b, o, e, fun j u hu => ?_⟩;have hcu := hc j u hu;have hb : b ∉ S := fun hb => h2 b hb _ (hc j0 v0 h1);have hlt := World.block_lt_of_cell? _ _ hcu;unfold World.cell? at hcu ⊢;rw [t.block b hlt hb];exact hcu
end Go.Proofs.YtcfmidmokciofaaGreatDoor
