/- Plain laws: a range comes back of what asks for it, and of what tells it; a text that asks for a range is just that. -/
import Derived.Test.YteeenbhmdacdiaaDoorWrtell
namespace Go.Proofs.YteeenbhmdacdiaaDoor
open Go.RowKit Go.Gz

theorem cutC_app (c : UInt8) (a r : Bs) (h : a.all (fun x => !(x == c)) = true) : cutC c (a ++ c :: r) = some (a, r) := by
  induction a with
  | nil => show cutC c (c :: r) = _; unfold cutC; rw [if_pos rfl]
  | cons b t ih =>
    simp only [List.all_cons, Bool.and_eq_true] at h
    have hb : ¬ b = c := by intro e; subst e; simp at h
    show cutC c (b :: (t ++ c :: r)) = _
    unfold cutC; rw [if_neg hb, ih h.2]; rfl
theorem digs_no {n : Int} (c : UInt8) (hc : dig c = false) (h : 0 ≤ n) : (digs n).all (fun x => !(x == c)) = true := by
  have := digs_all h
  rw [List.all_eq_true] at this ⊢
  intro x hx
  have hx := this x hx
  simp only [Bool.not_eq_true', beq_eq_false_iff_ne]
  intro e; subst e; rw [hc] at hx; cases hx
theorem num_digs {n : Int} (h : 0 ≤ n) (h2 : n ≤ 9007199254740991) : numE (digs n) = 0 ∧ numV (digs n) = n := by
  have hv := numv_digs h
  have := num_ok (numOk_digs h) (by unfold BIG; omega)
  exact ⟨this.1, by rw [this.2]; exact hv⟩
theorem num_inv {l : Bs} (h : numE l = 0) : digs (numV l) = l ∧ 0 ≤ numV l ∧ numV l ≤ 9007199254740991 := by
  have hb := numV_le l
  by_cases ho : numOk l = true
  · by_cases hv : BIG < numv l
    · rw [(num_over ho hv).1] at h; cases h
    · rw [(num_ok ho hv).2]; rw [(num_ok ho hv).2] at hb; exact ⟨digs_numv ho, hb⟩
  · rw [(num_bad (by simpa using ho)).1] at h; cases h
theorem two_digs {f t : Int} (h : chk f t = 0) : twoV (digs f) (digs t) = ((f, t), 0) := by
  have k := chk_fits h
  have a := num_digs (n := f) (by omega) (by omega)
  have b := num_digs (n := t) (by omega) (by omega)
  rw [two_ok _ _ (by unfold twoV; rw [if_neg (by omega), if_neg (by omega)]), a.2, b.2]
theorem pre_app (p r : Bs) : Lib.hasPrefix (p ++ r) p = true := by rw [pre_take]; simp
theorem asked_ask {f t : Int} (h : chk f t = 0) : askedV ([98, 121, 116, 101, 115, 61] ++ textR f t) = ((f, t), 0) := by
  have k := chk_fits h
  unfold askedV
  rw [if_neg (by rw [pre_app]; simp), show List.drop 6 (([98, 121, 116, 101, 115, 61] : Bs) ++ textR f t) = textR f t from rfl]
  unfold textR
  rw [cutC_app 45 _ _ (digs_no 45 (by decide) (by omega))]
  simp only [two_digs h]
  rw [(num_digs (n := f) (by omega) (by omega)).2, (num_digs (n := t) (by omega) (by omega)).2, if_neg (by simp), if_neg (by omega)]
theorem tell_told {f t n : Int} (h : wrongV f t n = 0) : tellV ([98, 121, 116, 101, 115, 32] ++ textR f t ++ 47 :: digs n) = ((f, t), n, 0) := by
  obtain ⟨hc, h1, h2⟩ := wrong_fits h
  have k := chk_fits hc
  rw [tell_some _ (textR f t ++ 47 :: digs n) (digs f) (digs t ++ 47 :: digs n) (digs t) (digs n) (by rw [List.append_assoc, pre_app]) rfl
    (by unfold textR; rw [show digs f ++ 45 :: digs t ++ 47 :: digs n = digs f ++ 45 :: (digs t ++ 47 :: digs n) by simp]; exact cutC_app 45 _ _ (digs_no 45 (by decide) (by omega)))
    (cutC_app 47 _ _ (digs_no 47 (by decide) (by omega)))]
  rw [two_digs hc, (num_digs (n := f) (by omega) (by omega)).2, (num_digs (n := t) (by omega) (by omega)).2, (num_digs (n := n) (by omega) (by omega)).1, (num_digs (n := n) (by omega) (by omega)).2, if_neg (by simp), if_neg (by simp), if_neg (by omega)]
theorem two_inv {a b : Bs} (h : (twoV a b).2 = 0) : numE a = 0 ∧ numE b = 0 := by
  unfold twoV at h
  by_cases h1 : numE a ≠ 0
  · rw [if_pos h1] at h; exact absurd h h1
  · rw [if_neg h1] at h
    by_cases h2 : numE b ≠ 0
    · rw [if_pos h2] at h; exact absurd h h2
    · exact ⟨by omega, by omega⟩
theorem ask_asked {l : Bs} (h : (askedV l).2 = 0) : ∃ f t, askedV l = ((f, t), 0) ∧ chk f t = 0 ∧ l = [98, 121, 116, 101, 115, 61] ++ textR f t := by
  unfold askedV at h ⊢
  by_cases hp : Lib.hasPrefix l [98, 121, 116, 101, 115, 61] = false
  · rw [if_pos hp] at h; cases h
  rw [if_neg hp] at h ⊢
  have hl : l = [98, 121, 116, 101, 115, 61] ++ l.drop 6 := by
    have := (by simpa using hp : Lib.hasPrefix l [98, 121, 116, 101, 115, 61] = true)
    rw [pre_take, beq_iff_eq] at this
    exact (List.take_append_drop 6 l).symm.trans (by rw [← this]; rfl)
  cases hc : cutC 45 (l.drop 6) with
  | none => rw [hc] at h; cases h
  | some x =>
    obtain ⟨a, b⟩ := x
    rw [hc] at h
    simp only [] at h ⊢
    have e := cutC_len hc
    by_cases h1 : (twoV a b).2 ≠ 0
    · rw [if_pos h1] at h; exact absurd h h1
    rw [if_neg h1] at h ⊢
    by_cases h2 : chk (numV a) (numV b) ≠ 0
    · rw [if_pos h2] at h; cases h
    rw [if_neg h2]
    obtain ⟨n1, n2⟩ := two_inv (by omega : (twoV a b).2 = 0)
    refine ⟨_, _, rfl, by omega, ?_⟩
    rw [e] at hl
    unfold textR
    rw [(num_inv n1).1, (num_inv n2).1]
    exact hl
theorem told_tell {l : Bs} (h : (tellV l).2.2 = 0) : ∃ f t n, tellV l = ((f, t), n, 0) ∧ wrongV f t n = 0 ∧ l = [98, 121, 116, 101, 115, 32] ++ textR f t ++ 47 :: digs n := by
  unfold tellV at h ⊢
  by_cases hp : Lib.hasPrefix l [98, 121, 116, 101, 115, 32] = false
  · rw [if_pos hp] at h; cases h
  rw [if_neg hp] at h ⊢
  have hl : l = [98, 121, 116, 101, 115, 32] ++ l.drop 6 := by
    have := (by simpa using hp : Lib.hasPrefix l [98, 121, 116, 101, 115, 32] = true)
    rw [pre_take, beq_iff_eq] at this
    exact (List.take_append_drop 6 l).symm.trans (by rw [← this]; rfl)
  cases hc : cutC 45 (l.drop 6) with
  | none => rw [hc] at h; cases h
  | some x =>
    obtain ⟨a, r⟩ := x
    rw [hc] at h
    simp only [] at h ⊢
    have e := cutC_len hc
    cases hd : cutC 47 r with
    | none => rw [hd] at h; cases h
    | some y =>
      obtain ⟨b, c⟩ := y
      rw [hd] at h
      simp only [] at h ⊢
      have e2 := cutC_len hd
      by_cases h1 : (twoV a b).2 ≠ 0
      · rw [if_pos h1] at h; exact absurd h h1
      rw [if_neg h1] at h ⊢
      by_cases h2 : numE c ≠ 0
      · rw [if_pos h2] at h; exact absurd h h2
      rw [if_neg h2] at h ⊢
      by_cases h3 : wrongV (numV a) (numV b) (numV c) ≠ 0
      · rw [if_pos h3] at h; cases h
      rw [if_neg h3]
      obtain ⟨n1, n2⟩ := two_inv (by omega : (twoV a b).2 = 0)
      refine ⟨_, _, _, rfl, by omega, ?_⟩
      rw [e, e2] at hl
      unfold textR
      rw [(num_inv n1).1, (num_inv n2).1, (num_inv (by omega : numE c = 0)).1]
      rw [hl]; simp
theorem not_both {l : Bs} (h : (askedV l).2 = 0) : ¬ (tellV l).2.2 = 0 := by
  intro k
  obtain ⟨f, t, _, _, e⟩ := ask_asked h
  obtain ⟨f', t', n, _, _, e'⟩ := told_tell k
  rw [e] at e'
  simp at e'
theorem asked_bad {l : Bs} (h : ¬ (askedV l).2 = 0) : (askedV l).1 = (0, 0) := by
  unfold askedV at h ⊢
  split
  · rfl
  rename_i hp
  rw [if_neg hp] at h
  cases hc : cutC 45 (l.drop 6) with
  | none => rfl
  | some x =>
    obtain ⟨a, b⟩ := x
    rw [hc] at h
    simp only [] at h ⊢
    split
    · rfl
    rename_i h1
    rw [if_neg h1] at h
    split
    · rfl
    rename_i h2
    rw [if_neg h2] at h
    exact absurd rfl h
theorem text_len {f t : Int} (h : chk f t = 0) : (textR f t).length ≤ 41 := by
  have k := chk_fits h
  have a := digs_len (n := f) (by omega)
  have b := digs_len (n := t) (by omega)
  unfold textR; simp; omega
theorem clip_bad {f t n : Int} (h : ¬ (clipR f t n).2 = 0) : clipR f t n = ((0, 0), 8) := by
  unfold clipR at h ⊢
  split
  · rfl
  split
  · rfl
  rename_i h1 h2; rw [if_neg h1, if_neg h2] at h; exact absurd rfl h
theorem clip_good {f t n : Int} (h : (clipR f t n).2 = 0) : chk f t = 0 ∧ f < n ∧ clipR f t n = ((f, min t (n - 1)), 0) ∧ clipR f (min t (n - 1)) n = ((f, min t (n - 1)), 0) ∧ chk f (min t (n - 1)) = 0 := by
  unfold clipR at h
  split at h
  · cases h
  split at h
  · cases h
  rename_i h1 h2
  have k := chk_fits (by omega : chk f t = 0)
  have hc : chk f (min t (n - 1)) = 0 := chk_ok (by omega)
  refine ⟨by omega, by omega, ?_, ?_, hc⟩
  · unfold clipR; rw [if_neg h1, if_neg h2]
  · unfold clipR; rw [if_neg (by omega), if_neg h2]
    have : min (min t (n - 1)) (n - 1) = min t (n - 1) := by omega
    rw [this]
theorem clip_why {f t n : Int} (h : ¬ (clipR f t n).2 = 0) : n ≤ f ∨ chk f t = 8 := by
  rcases chk_cases f t with k | k
  · left
    unfold clipR at h
    rw [if_neg (by omega)] at h
    split at h
    · assumption
    · exact absurd rfl h
  · exact .inr k
end Go.Proofs.YteeenbhmdacdiaaDoor
