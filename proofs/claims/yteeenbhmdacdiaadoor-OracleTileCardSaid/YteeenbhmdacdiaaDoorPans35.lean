/- Plain laws: answers have three codes; how many codes there are; what is put beside a tile does not matter. -/
import Derived.Test.YteeenbhmdacdiaaDoorWplay35
namespace Go.Gz
def allNe (L : Items) : Prop := ∀ x ∈ L, x.2 ≠ []
theorem put_ok_ne {L : Items} {id : Nat} {s : Bs} (h : putE L id s = 0) : s ≠ [] := by
  intro e
  unfold putE wrongE at h
  by_cases h1 : 6004799503160661 ≤ id
  · rw [if_pos h1] at h; cases h
  · rw [if_neg h1, if_pos e] at h; cases h
theorem ne_put {L : Items} {id : Nat} {s : Bs} (h : allNe L) : allNe (putL L id s) := by
  unfold putL
  split
  · rename_i h0
    intro x hx
    rcases mem_ins hx with rfl | hx
    · exact put_ok_ne h0
    · exact h x hx
  · exact h
theorem own_ne (l : Items) : allNe (ownL l) := by
  induction l using snoc_ind with
  | h0 => intro x hx; simp [ownL] at hx
  | h1 l a ih => rw [own_snoc]; exact ne_put ih
theorem get_ne {L : Items} (h : allNe L) {id : Nat} {t : Bs} (hg : getL L id = some t) : t ≠ [] := by
  induction L with
  | nil => cases hg
  | cons x r ih =>
    unfold getL at hg
    by_cases e : x.1 = id
    · rw [if_pos e] at hg; injection hg with hg; subst hg; exact h x (by simp)
    · rw [if_neg e] at hg; exact ih (fun y hy => h y (by simp [hy])) hg
/-- what the answers over two charts have to do with each other -/
def Ans2 (a b : Int × Bs) : Prop := (a.1 = 200 ∧ a.2 ≠ [] ∧ b.1 ≠ 400) ∨ (a.1 = 400 ∧ a.2 = [] ∧ b.1 = 400) ∨ (a.1 = 404 ∧ a.2 = [] ∧ b.1 ≠ 400)
theorem ans_two {L M : Items} (hL : allNe L) (p : Bs) : Ans2 (ansV L p) (ansV M p) := by
  unfold ansV Ans2
  by_cases h : (rt p).2.2 ≠ 0
  · rw [if_pos h, if_pos h]; exact .inr (.inl ⟨rfl, rfl, rfl⟩)
  · rw [if_neg h, if_neg h]
    have hm : (match getL M (idP p) with | none => ((404 : Int), ([] : Bs)) | some t => (200, t)).1 ≠ 400 := by split <;> simp
    cases hg : getL L (idP p) with
    | none => exact .inr (.inr ⟨rfl, rfl, hm⟩)
    | some t => exact .inl ⟨rfl, get_ne hL hg, hm⟩
theorem ans_code (L : Items) (p : Bs) : (ansV L p).1 = 200 ∨ (ansV L p).1 = 400 ∨ (ansV L p).1 = 404 := by
  unfold ansV
  split
  · exact .inr (.inl rfl)
  · split
    · exact .inr (.inr rfl)
    · exact .inl rfl
def three (T : Tolds) : Prop := ∀ x ∈ T, x.1 = 200 ∨ x.1 = 400 ∨ x.1 = 404
theorem three_map (L : Items) (ps : List Bs) : three (ps.map (ansV L)) := by
  intro x hx
  obtain ⟨p, _, rfl⟩ := List.mem_map.1 hx
  exact ans_code L p
theorem three_snoc {T : Tolds} {a : Int × Bs} (h : three (T ++ [a])) : three T ∧ (a.1 = 200 ∨ a.1 = 400 ∨ a.1 = 404) :=
  ⟨fun x hx => h x (by simp [hx]), h a (by simp)⟩
theorem cnt_sum (T : Tolds) : three T → cntT T 200 + cntT T 400 + cntT T 404 = T.length := by
  induction T using snoc_ind with
  | h0 => intro _; rfl
  | h1 T a ih =>
    intro h
    obtain ⟨h1, h2⟩ := three_snoc h
    have := ih h1
    rw [cnt_snoc, cnt_snoc, cnt_snoc, List.length_append]
    rcases h2 with e | e | e <;> rw [e] <;> simp <;> omega
def pos1 (n : Nat) : Nat := if 0 < n then 1 else 0
theorem seen_len (T : Tolds) : three T → (seenT T).length = pos1 (cntT T 200) + pos1 (cntT T 400) + pos1 (cntT T 404) := by
  induction T using snoc_ind with
  | h0 => intro _; rfl
  | h1 T a ih =>
    intro h
    obtain ⟨h1, h2⟩ := three_snoc h
    have := ih h1
    rw [seen_snoc, seen_iff, cnt_snoc, cnt_snoc, cnt_snoc]
    by_cases g : 0 < cntT T a.1
    · rw [if_pos (by simpa using g), this]
      unfold pos1
      rcases h2 with e | e | e <;> rw [e] at g ⊢ <;> simp [g]
    · rw [if_neg (by simpa using g), List.length_append, this]
      have g0 : cntT T a.1 = 0 := by omega
      unfold pos1
      rcases h2 with e | e | e <;> rw [e] at g0 ⊢ <;> simp [g0] <;> omega
/-- how many codes from 100 on, k of them, some answer has -/
def sumC (T : Tolds) : Nat → Nat
  | 0 => 0
  | k + 1 => sumC T k + pos1 (cntT T (100 + (k : Int)))
theorem cnt_zero (T : Tolds) (c : Int) : three T → c ≠ 200 → c ≠ 400 → c ≠ 404 → cntT T c = 0 := by
  induction T using snoc_ind with
  | h0 => intro _ _ _ _; rfl
  | h1 T a ih =>
    intro h a1 a2 a3
    obtain ⟨h1, h2⟩ := three_snoc h
    rw [cnt_snoc, ih h1 a1 a2 a3, if_neg (by rcases h2 with e | e | e <;> omega)]
theorem sum_at {T : Tolds} (h : three T) (k : Nat) : sumC T k = (if 100 < k then pos1 (cntT T 200) else 0) + (if 300 < k then pos1 (cntT T 400) else 0) + (if 304 < k then pos1 (cntT T 404) else 0) := by
  induction k with
  | zero => rfl
  | succ k ih =>
    unfold sumC
    rw [ih]
    by_cases e1 : k = 100
    · subst e1; simp
    by_cases e2 : k = 300
    · subst e2; simp
    by_cases e3 : k = 304
    · subst e3; simp
    have z : cntT T (100 + (k : Int)) = 0 := cnt_zero T _ h (by omega) (by omega) (by omega)
    rw [z]
    have p0 : pos1 0 = 0 := rfl
    rw [p0]
    have q1 : (100 < k + 1) = (100 < k) := by simp; omega
    have q2 : (300 < k + 1) = (300 < k) := by simp; omega
    have q3 : (304 < k + 1) = (304 < k) := by simp; omega
    simp only [q1, q2, q3, Nat.add_zero]
theorem sum_all {T : Tolds} (h : three T) : sumC T 500 = (seenT T).length := by rw [sum_at h, seen_len T h]; simp
theorem sumC_le (T : Tolds) (k : Nat) : sumC T k ≤ k := by
  induction k with
  | zero => exact Nat.le_refl _
  | succ k ih => unfold sumC pos1; split <;> omega
/-- a tile put beside -/
theorem get_ins_same (id : Nat) (s : Bs) : ∀ L : Items, Srt L → getL (insL L id s) id = some s := by
  intro L
  rw [srt_iff]
  induction L with
  | nil => intro _; show (if id = id then some s else _) = _; rw [if_pos rfl]
  | cons x r ih =>
    intro h
    have hr := (List.pairwise_cons.1 h).2
    rcases Nat.lt_trichotomy x.1 id with g | g | g
    · rw [ins_lt g]
      show (if x.1 = id then some x.2 else getL (insL r id s) id) = _
      rw [if_neg (by omega), ih hr]
    · rw [ins_same g (all_gt h (by omega))]
      show (if id = id then some s else _) = _
      rw [if_pos rfl]
    · rw [ins_gt g (all_gt h (by omega))]
      show (if id = id then some s else _) = _
      rw [if_pos rfl]
theorem get_ins_other (id q : Nat) (s : Bs) (hq : q ≠ id) : ∀ L : Items, Srt L → getL (insL L id s) q = getL L q := by
  intro L
  rw [srt_iff]
  induction L with
  | nil => intro _; show (if id = q then some s else none) = _; rw [if_neg (by omega)]; rfl
  | cons x r ih =>
    intro h
    have hr := (List.pairwise_cons.1 h).2
    rcases Nat.lt_trichotomy x.1 id with g | g | g
    · rw [ins_lt g]
      show (if x.1 = q then some x.2 else getL (insL r id s) q) = if x.1 = q then some x.2 else getL r q
      rw [ih hr]
    · rw [ins_same g (all_gt h (by omega))]
      show (if id = q then some s else getL r q) = if x.1 = q then some x.2 else getL r q
      rw [if_neg (by omega), if_neg (by omega)]
    · rw [ins_gt g (all_gt h (by omega))]
      show (if id = q then some s else getL (x :: r) q) = _
      rw [if_neg (by omega)]
end Go.Gz
