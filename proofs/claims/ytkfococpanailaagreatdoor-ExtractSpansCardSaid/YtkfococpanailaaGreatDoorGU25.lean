/- Plain laws: parts of parts of a chart. -/
import Derived.Test.YtkfococpanailaaGreatDoorGU08
namespace Go.Gz
theorem keep_comm (L : Items) (p q : Int → Int → Int → Bool) : keepL (keepL L p) q = keepL (keepL L q) p := by
  unfold keepL;rw [List.filter_filter, List.filter_filter];congr 1
  funext x
  exact Bool.and_comm _ _
theorem keep_self (L : Items) (p : Int → Int → Int → Bool) : keepL (keepL L p) p = keepL L p := by
  unfold keepL;rw [List.filter_filter];congr 1
  funext x
  exact Bool.and_self _
theorem any_app (a b : Rcs) (z x y : Int) : anyR (a ++ b) z x y = (anyR a z x y || anyR b z x y) := List.any_append
theorem keep_or_len (L : Items) (p q r : Int → Int → Int → Bool) (h : ∀ z x y, r z x y = (p z x y || q z x y)) : (keepL L r).length ≤ (keepL L p).length + (keepL L q).length := by
  induction L with
  | nil => simp [keepL]
  | cons s t ih =>
    unfold keepL at *;simp only [List.filter_cons, h] at *;cases p (zoomN s.1 : Int) ((tileXY s.1).1 : Int) ((tileXY s.1).2 : Int) <;> cases q (zoomN s.1 : Int) ((tileXY s.1).1 : Int) ((tileXY s.1).2 : Int) <;> simp <;> omega
/-- an item's own place in a rule -/
def itR (p : Int → Int → Int → Bool) (x : Item) : Bool := p (zoomN x.1 : Int) ((tileXY x.1).1 : Int) ((tileXY x.1).2 : Int)
theorem get_no (L : Items) (id : Nat) (h : ∀ x ∈ L, x.1 ≠ id) : getL L id = none := by
  induction L with
  | nil => rfl
  | cons s t ih =>
    unfold getL;rw [if_neg (h s (by simp)), ih fun x hx => h x (by simp [hx])]
theorem get_keepP (p : Int → Int → Int → Bool) : ∀ (L : Items), L.Pairwise (fun a b => a.1 < b.1) → ∀ x ∈ L, getL (keepL L p) x.1 = if itR p x = true then some x.2 else none
  | [], _, x, hx => by simp at hx
  | s :: t, hs, x, hx => by
    rw [List.pairwise_cons] at hs;have hk : keepL (s :: t) p = if itR p s = true then s :: keepL t p else keepL t p := List.filter_cons
    have hne : ∀ y ∈ keepL t p, y.1 ≠ s.1 := fun y hy => by
      have := hs.1 y (List.mem_filter.1 (show y ∈ List.filter _ t from hy)).1; omega
    rw [hk];rcases List.mem_cons.1 hx with rfl | hx
    · by_cases h : itR p x = true
      · rw [if_pos h, if_pos h]; unfold getL; rw [if_pos rfl]
      · rw [if_neg h, if_neg h, get_no _ _ hne]
    · have ih := get_keepP p t hs.2 x hx;have hl := hs.1 x hx;by_cases h : itR p s = true
      · rw [if_pos h]; unfold getL; rw [if_neg (by omega)]; exact ih
      · rw [if_neg h]; exact ih
theorem get_keep {L : Items} (hs : Srt L) (p : Int → Int → Int → Bool) {k : Nat} (hk : k < L.length) : getL (keepL L p) L[k].1 = if itR p L[k] = true then some L[k].2 else none :=
  get_keepP p L (List.pairwise_iff_getElem.2 fun i j hi hj h => hs i j hi hj h) _ (List.getElem_mem hk)
end Go.Gz
