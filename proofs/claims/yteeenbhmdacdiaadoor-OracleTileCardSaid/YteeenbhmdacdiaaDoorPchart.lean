/- Plain laws: charts as lists of items. -/
import Derived.Test.YteeenbhmdacdiaaDoorWbs
namespace Go.Gz
def getL : Items → Nat → Option Bs
  | [], _ => none
  | x :: r, id => if x.1 = id then some x.2 else getL r id
def delL (L : Items) (id : Nat) : Items := L.filter fun x => !(x.1 == id)
def insL (L : Items) (id : Nat) (s : Bs) : Items := ((delL L id).takeWhile fun x => decide (x.1 < id)) ++ (id, s) :: ((delL L id).dropWhile fun x => decide (x.1 < id))
def putE (L : Items) (id : Nat) (s : Bs) : Int := wrongE id s (!(getL L id).isSome && decide (2048 ≤ L.length))
def putL (L : Items) (id : Nat) (s : Bs) : Items := if putE L id s = 0 then insL L id s else L
theorem srt_iff (L : Items) : Srt L ↔ L.Pairwise (fun a b => a.1 < b.1) := (List.pairwise_iff_getElem (R := fun a b : Item => a.1 < b.1) (l := L)).symm
theorem mem_get (L : Items) (id : Nat) : memL L id = (getL L id).isSome := by
  induction L with
  | nil => rfl
  | cons x r ih =>
    unfold memL at ih ⊢
    unfold getL
    rw [List.any_cons, ih]
    by_cases h : x.1 = id
    · simp [h]
    · simp [h]
theorem get_drop {L : Items} {id : Nat} {k : Nat} (hk : k < L.length) (h : getL L id = getL (L.drop k) id) : (L[k].1 = id → getL L id = some L[k].2) ∧ (L[k].1 ≠ id → getL L id = getL (L.drop (k + 1)) id) := by
  rw [List.drop_eq_getElem_cons hk] at h
  rw [h]
  refine ⟨fun e => ?_, fun e => ?_⟩
  · show (if L[k].1 = id then some L[k].2 else _) = _
    rw [if_pos e]
  · show (if L[k].1 = id then some L[k].2 else _) = _
    rw [if_neg e]
theorem del_take_succ {L : Items} {id : Nat} {k : Nat} (hk : k < L.length) : delL (L.take (k + 1)) id = delL (L.take k) id ++ (if L[k].1 = id then [] else [L[k]]) := by
  unfold delL
  rw [List.take_succ_eq_append_getElem hk, List.filter_append]
  by_cases h : L[k].1 = id
  · simp [h]
  · simp [h]
theorem del_len (L : Items) (id : Nat) : (delL L id).length ≤ L.length := List.length_filter_le _ _
theorem tw_pos (M : Items) (id : Nat) : (M.takeWhile fun x => decide (x.1 < id)) = M.take (posL M id) ∧ (M.dropWhile fun x => decide (x.1 < id)) = M.drop (posL M id) := by
  have h := List.takeWhile_append_dropWhile (p := fun x : Item => decide (x.1 < id)) (l := M)
  have h1 : M.take (posL M id) ++ M.drop (posL M id) = M := List.take_append_drop _ _
  have hl : (M.takeWhile fun x => decide (x.1 < id)).length = (M.take (posL M id)).length := by
    rw [List.length_take]; show posL M id = _
    have : posL M id ≤ M.length := (List.takeWhile_sublist (p := fun x : Item => decide (x.1 < id)) (l := M)).length_le
    omega
  exact List.append_inj (h.trans h1.symm) hl
theorem pos_le (M : Items) (id : Nat) : posL M id ≤ M.length := (List.takeWhile_sublist (p := fun x : Item => decide (x.1 < id)) (l := M)).length_le
theorem pos_below (M : Items) (id : Nat) : ∀ j (h : j < M.length), j < posL M id → M[j].1 < id := by
  induction M with
  | nil => intro j h; simp at h
  | cons x r ih =>
    intro j h hj
    by_cases hx : x.1 < id
    · have e : posL (x :: r) id = posL r id + 1 := by unfold posL; rw [List.takeWhile_cons, if_pos (by simpa using hx)]; simp
      cases j with
      | zero => exact hx
      | succ j => rw [e] at hj; exact ih j (by simpa using h) (by omega)
    · have e : posL (x :: r) id = 0 := by unfold posL; rw [List.takeWhile_cons, if_neg (by simpa using hx)]; rfl
      omega
theorem pos_at (M : Items) (id : Nat) (h : posL M id < M.length) : id ≤ M[posL M id].1 := by
  induction M with
  | nil => simp at h
  | cons x r ih =>
    by_cases hx : x.1 < id
    · have e : posL (x :: r) id = posL r id + 1 := by unfold posL; rw [List.takeWhile_cons, if_pos (by simpa using hx)]; simp
      have := ih (by rw [e] at h; simpa using h)
      simp only [e, List.getElem_cons_succ]
      exact this
    · have e : posL (x :: r) id = 0 := by unfold posL; rw [List.takeWhile_cons, if_neg (by simpa using hx)]; rfl
      simp only [e, List.getElem_cons_zero]; omega
theorem all_gt {x : Item} {r : Items} {id : Nat} (h : (x :: r).Pairwise (fun a b => a.1 < b.1)) (hx : id ≤ x.1) : ∀ y ∈ r, id < y.1 := by
  intro y hy
  have := (List.pairwise_cons.1 h).1 y hy
  omega
theorem del_all {r : Items} {id : Nat} (h : ∀ y ∈ r, id < y.1) : delL r id = r := by
  unfold delL
  rw [List.filter_eq_self]
  intro y hy
  have := h y hy
  simp; omega
theorem tw_none {r : Items} {id : Nat} (h : ∀ y ∈ r, id < y.1) : (r.takeWhile fun x => decide (x.1 < id)) = [] ∧ (r.dropWhile fun x => decide (x.1 < id)) = r := by
  cases r with
  | nil => exact ⟨rfl, rfl⟩
  | cons y t =>
    have := h y (by simp)
    constructor
    · rw [List.takeWhile_cons, if_neg (by simp; omega)]
    · rw [List.dropWhile_cons, if_neg (by simp; omega)]
theorem mem_none {r : Items} {id : Nat} (h : ∀ y ∈ r, id < y.1) : memL r id = false := by
  unfold memL
  rw [List.any_eq_false]
  intro y hy
  have := h y hy
  simp; omega
theorem ins_lt {x : Item} {r : Items} {id : Nat} {s : Bs} (h : x.1 < id) : insL (x :: r) id s = x :: insL r id s := by
  unfold insL delL
  rw [List.filter_cons, if_pos (by simp; omega), List.takeWhile_cons, if_pos (by simpa using h), List.dropWhile_cons, if_pos (by simpa using h)]
  rfl
theorem ins_same {x : Item} {r : Items} {id : Nat} {s : Bs} (h : x.1 = id) (hr : ∀ y ∈ r, id < y.1) : insL (x :: r) id s = (id, s) :: r := by
  have e : delL (x :: r) id = r := by
    have := del_all hr
    unfold delL at this ⊢
    rw [List.filter_cons, if_neg (by simp [h]), this]
  unfold insL
  rw [e, (tw_none hr).1, (tw_none hr).2]; rfl
theorem ins_gt {x : Item} {r : Items} {id : Nat} {s : Bs} (h : id < x.1) (hr : ∀ y ∈ r, id < y.1) : insL (x :: r) id s = (id, s) :: x :: r := by
  have hx : ∀ y ∈ x :: r, id < y.1 := by
    intro y hy
    rcases List.mem_cons.1 hy with rfl | hy
    · exact h
    · exact hr y hy
  unfold insL
  rw [del_all hx, (tw_none hx).1, (tw_none hx).2]; rfl
theorem ins_eq (id : Nat) (s : Bs) : ∀ L : Items, Srt L → insL L id s = L.take (posL L id) ++ (id, s) :: L.drop (posL L id + (memL L id).toNat) := by
  intro L
  rw [srt_iff]
  induction L with
  | nil => intro _; rfl
  | cons x r ih =>
    intro h
    have hr := (List.pairwise_cons.1 h).2
    rcases Nat.lt_trichotomy x.1 id with g | g | g
    · rw [ins_lt g, ih hr]
      have e : posL (x :: r) id = posL r id + 1 := by unfold posL; rw [List.takeWhile_cons, if_pos (by simpa using g)]; simp
      have e2 : memL (x :: r) id = memL r id := by
        unfold memL; rw [List.any_cons]
        have : (x.1 == id) = false := by rw [beq_eq_false_iff_ne]; omega
        rw [this]; rfl
      rw [e, e2, show posL r id + 1 + (memL r id).toNat = posL r id + (memL r id).toNat + 1 by omega]
      simp
    · have ha := all_gt h (by omega : id ≤ x.1)
      rw [ins_same g ha]
      have e : posL (x :: r) id = 0 := by unfold posL; rw [List.takeWhile_cons, if_neg (by simp; omega)]; rfl
      have e2 : memL (x :: r) id = true := by unfold memL; rw [List.any_cons]; simp [g]
      rw [e, e2]; rfl
    · have ha := all_gt h (by omega : id ≤ x.1)
      rw [ins_gt g ha]
      have e : posL (x :: r) id = 0 := by unfold posL; rw [List.takeWhile_cons, if_neg (by simp; omega)]; rfl
      have e2 : memL (x :: r) id = false := mem_none (by
        intro y hy
        rcases List.mem_cons.1 hy with rfl | hy
        · exact g
        · exact ha y hy)
      rw [e, e2]; rfl
theorem mem_ins {L : Items} {id : Nat} {s : Bs} {y : Item} (h : y ∈ insL L id s) : y = (id, s) ∨ y ∈ L := by
  unfold insL at h
  rcases List.mem_append.1 h with h | h
  · exact .inr (List.mem_filter.1 ((List.takeWhile_sublist _).subset h)).1
  · rcases List.mem_cons.1 h with h | h
    · exact .inl h
    · exact .inr (List.mem_filter.1 ((List.dropWhile_sublist _).subset h)).1
theorem srt_ins (id : Nat) (s : Bs) : ∀ L : Items, Srt L → Srt (insL L id s) := by
  intro L
  rw [srt_iff, srt_iff]
  induction L with
  | nil => intro _; exact List.pairwise_singleton _ _
  | cons x r ih =>
    intro h
    have hr := (List.pairwise_cons.1 h).2
    rcases Nat.lt_trichotomy x.1 id with g | g | g
    · rw [ins_lt g]
      refine List.pairwise_cons.2 ⟨fun y hy => ?_, ih hr⟩
      rcases mem_ins hy with rfl | hy
      · exact g
      · exact (List.pairwise_cons.1 h).1 y hy
    · have ha := all_gt h (by omega : id ≤ x.1)
      rw [ins_same g ha]
      exact List.pairwise_cons.2 ⟨ha, hr⟩
    · have ha := all_gt h (by omega : id ≤ x.1)
      rw [ins_gt g ha]
      refine List.pairwise_cons.2 ⟨fun y hy => ?_, h⟩
      rcases List.mem_cons.1 hy with rfl | hy
      · exact g
      · exact ha y hy
theorem get_pos (id : Nat) (L : Items) (hs : Srt L) (hm : memL L id = true) : ∃ h : posL L id < L.length, L[posL L id] = (id, (getL L id).getD []) := by
  rw [srt_iff] at hs
  induction L with
  | nil => simp [memL] at hm
  | cons x r ih =>
    have hr := (List.pairwise_cons.1 hs).2
    rcases Nat.lt_trichotomy x.1 id with g | g | g
    · have e : posL (x :: r) id = posL r id + 1 := by unfold posL; rw [List.takeWhile_cons, if_pos (by simpa using g)]; simp
      have e2 : memL (x :: r) id = memL r id := by
        unfold memL; rw [List.any_cons]
        have : (x.1 == id) = false := by rw [beq_eq_false_iff_ne]; omega
        rw [this]; rfl
      rw [e2] at hm
      obtain ⟨h, h2⟩ := ih hr hm
      refine ⟨by rw [e]; simp; omega, ?_⟩
      simp only [e, List.getElem_cons_succ]
      rw [h2]
      show _ = (id, (if x.1 = id then some x.2 else getL r id).getD [])
      rw [if_neg (by omega)]
    · have e : posL (x :: r) id = 0 := by unfold posL; rw [List.takeWhile_cons, if_neg (by simp; omega)]; rfl
      refine ⟨by rw [e]; simp, ?_⟩
      simp only [e, List.getElem_cons_zero]
      show x = (id, (if x.1 = id then some x.2 else getL r id).getD [])
      rw [if_pos g]
      subst g; rfl
    · have ha := all_gt hs (by omega : id ≤ x.1)
      have : memL (x :: r) id = false := mem_none (by
        intro y hy
        rcases List.mem_cons.1 hy with rfl | hy
        · exact g
        · exact ha y hy)
      rw [this] at hm; cases hm
theorem ins_len (L : Items) (id : Nat) (s : Bs) : (insL L id s).length = (delL L id).length + 1 := by
  unfold insL
  rw [(tw_pos _ id).1, (tw_pos _ id).2]
  have := pos_le (delL L id) id
  rw [List.length_append, List.length_cons, List.length_take, List.length_drop]
  omega
theorem put_len (L : Items) (id : Nat) (s : Bs) : (putL L id s).length ≤ L.length + 1 := by
  unfold putL; split
  · rw [ins_len]; have := del_len L id; omega
  · omega
theorem srt_put {L : Items} {id : Nat} {s : Bs} (h : Srt L) : Srt (putL L id s) := by
  unfold putL; split
  · exact srt_ins id s L h
  · exact h
end Go.Gz
