/- Plain laws: ranges of bytes. -/
import Derived.Test.YteeenbhmdacdiaaDoorPlaw34
import Derived.Lib.IndexMore
import Derived.Lib.Strings
namespace Go.Gz
def chk (f t : Int) : Int := if f < 0 ∨ t < f ∨ 9007199254740990 < t then 8 else 0
def lenR (f t : Int) : Int := if chk f t ≠ 0 then 0 else t - f + 1
def textR (f t : Int) : Bs := digs f ++ 45 :: digs t
def askR (f t : Int) : Bs × Int := if chk f t ≠ 0 then ([], 8) else ([98, 121, 116, 101, 115, 61] ++ textR f t, 0)
def wrongV (f t n : Int) : Int := if chk f t ≠ 0 then 8 else if n ≤ t ∨ 9007199254740991 < n then 8 else 0
def toldR (f t n : Int) : Bs × Int := if wrongV f t n ≠ 0 then ([], 8) else ([98, 121, 116, 101, 115, 32] ++ textR f t ++ 47 :: digs n, 0)
def clipR (f t n : Int) : (Int × Int) × Int := if chk f t ≠ 0 then ((0, 0), 8) else if n ≤ f then ((0, 0), 8) else ((f, min t (n - 1)), 0)
theorem chk_bad {f t : Int} (h : f < 0 ∨ t < f ∨ 9007199254740990 < t) : chk f t = 8 := by unfold chk; rw [if_pos h]
theorem chk_ok {f t : Int} (h : ¬ (f < 0 ∨ t < f ∨ 9007199254740990 < t)) : chk f t = 0 := by unfold chk; rw [if_neg h]
theorem chk_fits {f t : Int} (h : chk f t = 0) : 0 ≤ f ∧ f ≤ t ∧ t ≤ 9007199254740990 := by
  unfold chk at h; split at h
  · cases h
  · omega
theorem chk_cases (f t : Int) : chk f t = 0 ∨ chk f t = 8 := by
  unfold chk; split
  · exact .inr rfl
  · exact .inl rfl
theorem wrong_cases (f t n : Int) : wrongV f t n = 0 ∨ wrongV f t n = 8 := by
  unfold wrongV; split
  · exact .inr rfl
  · split
    · exact .inr rfl
    · exact .inl rfl
theorem wrong_fits {f t n : Int} (h : wrongV f t n = 0) : chk f t = 0 ∧ t < n ∧ n ≤ 9007199254740991 := by
  unfold wrongV at h; split at h
  · cases h
  · rename_i h1
    split at h
    · cases h
    · exact ⟨by omega, by omega, by omega⟩
/-- what stands ahead of the first c, and behind it -/
def cutC (c : UInt8) : Bs → Option (Bs × Bs)
  | [] => none
  | b :: r => if b = c then some ([], r) else (cutC c r).map fun (x, y) => (b :: x, y)
theorem cutC_at (c : UInt8) : ∀ (l : Bs) (k : Nat) (h : k < l.length), l[k] = c → (∀ j (h : j < l.length), j < k → l[j] ≠ c) → cutC c l = some (l.take k, l.drop (k + 1)) := by
  intro l
  induction l with
  | nil => intro k h; simp at h
  | cons b r ih =>
    intro k h hk hj
    cases k with
    | zero =>
      have : b = c := hk
      unfold cutC; rw [if_pos this]; simp
    | succ k =>
      have hb : ¬ b = c := fun e => hj 0 (by simp) (by omega) e
      have := ih k (by simp at h; omega) (by simpa using hk) (fun j h2 h3 => by have := hj (j + 1) (by simp; omega) (by omega); simpa using this)
      unfold cutC; rw [if_neg hb, this]; simp
theorem cutC_none (c : UInt8) : ∀ l : Bs, (∀ j (h : j < l.length), l[j] ≠ c) → cutC c l = none := by
  intro l
  induction l with
  | nil => intro _; rfl
  | cons b r ih =>
    intro hj
    have hb : ¬ b = c := fun e => hj 0 (by simp) e
    have := ih (fun j h2 => by have := hj (j + 1) (by simp; omega); simpa using this)
    unfold cutC; rw [if_neg hb, this]; rfl
theorem cut_eq (c : UInt8) (l : Bs) : Lib.cut l [c] = match cutC c l with | some (a, b) => (a, b, true) | none => (l, [], false) := by
  have key : (Lib.index l [c] = -1 ∧ cutC c l = none) ∨ ∃ k : Nat, Lib.index l [c] = k ∧ cutC c l = some (l.take k, l.drop (k + 1)) := by
    induction l with
    | nil => left; exact ⟨rfl, rfl⟩
    | cons b r ih =>
      by_cases hb : b = c
      · right
        refine ⟨0, ?_, ?_⟩
        · subst hb; simp [Lib.index, List.isPrefixOf]
        · unfold cutC; rw [if_pos hb]; simp
      · have hp : List.isPrefixOf [c] (b :: r) = false := by simp [List.isPrefixOf]; exact fun e => hb e.symm
        rcases ih with ⟨h1, h2⟩ | ⟨k, h1, h2⟩
        · left
          refine ⟨?_, ?_⟩
          · unfold Lib.index; rw [hp, h1]; rfl
          · unfold cutC; rw [if_neg hb, h2]; rfl
        · right
          refine ⟨k + 1, ?_, ?_⟩
          · unfold Lib.index; rw [hp, h1]
            have : ((k : Int) == -1) = false := by rw [beq_eq_false_iff_ne]; omega
            simp [this]
          · unfold cutC; rw [if_neg hb, h2]; simp
  rcases key with ⟨h1, h2⟩ | ⟨k, h1, h2⟩
  · unfold Lib.cut; rw [h1, h2]; rfl
  · unfold Lib.cut
    rw [h1, h2, if_pos (by omega)]
    simp
def rcutV (c : UInt8) (l : Bs) : Bs × Bs × Bool := match cutC c l with | some (a, b) => (a, b, true) | none => ([], [], false)
theorem cutC_len {c : UInt8} : ∀ {l a b : Bs}, cutC c l = some (a, b) → l = a ++ c :: b := by
  intro l
  induction l with
  | nil => intro a b h; cases h
  | cons x r ih =>
    intro a b h
    unfold cutC at h
    by_cases hx : x = c
    · rw [if_pos hx] at h
      injection h with h; injection h with h1 h2
      subst h1 h2 hx; rfl
    · rw [if_neg hx] at h
      obtain ⟨⟨a1, b1⟩, h1, h2⟩ := Option.map_eq_some_iff.1 h
      injection h2 with h2 h3
      subst h2 h3
      rw [ih h1]; rfl
/-- the error of the first text that is no number -/
def firstE : List Bs → Int
  | [] => 0
  | a :: r => if numE a ≠ 0 then numE a else firstE r
def twoV (a b : Bs) : (Int × Int) × Int := if numE a ≠ 0 then ((0, 0), numE a) else if numE b ≠ 0 then ((0, 0), numE b) else ((numV a, numV b), 0)
def askedV (l : Bs) : (Int × Int) × Int :=
  if Lib.hasPrefix l [98, 121, 116, 101, 115, 61] = false then ((0, 0), 4) else match cutC 45 (l.drop 6) with
    | none => ((0, 0), 4)
    | some (a, b) => if (twoV a b).2 ≠ 0 then ((0, 0), (twoV a b).2) else if chk (numV a) (numV b) ≠ 0 then ((0, 0), 8) else ((numV a, numV b), 0)
def tellV (l : Bs) : (Int × Int) × Int × Int :=
  if Lib.hasPrefix l [98, 121, 116, 101, 115, 32] = false then ((0, 0), 0, 4) else match cutC 45 (l.drop 6) with
    | none => ((0, 0), 0, 4)
    | some (a, r) => match cutC 47 r with
      | none => ((0, 0), 0, 4)
      | some (b, c) => if (twoV a b).2 ≠ 0 then ((0, 0), 0, (twoV a b).2) else if numE c ≠ 0 then ((0, 0), 0, numE c) else if wrongV (numV a) (numV b) (numV c) ≠ 0 then ((0, 0), 0, 8) else ((numV a, numV b), numV c, 0)
end Go.Gz
