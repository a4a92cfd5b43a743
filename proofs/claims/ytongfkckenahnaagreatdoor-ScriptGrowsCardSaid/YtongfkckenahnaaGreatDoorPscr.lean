/- Plain laws: the play of bytes (script.Read), and what more bytes behind it change. -/
import Derived.Test.YtongfkckenahnaaGreatDoorPure
namespace Go.Gz
/-- the next byte; 0 behind the end -/
def nxN (s : Bs) : Nat := (s.headD 0).toNat
/-- the steps of what is left, at most so many: the byte of the path, how many faults -/
def stepsV : Nat → Bs → List (Nat × Nat)
  | 0, _ => []
  | _ + 1, [] => []
  | k + 1, c :: s => (c.toNat, nxN s % 4) :: stepsV k ((s.drop 1).drop (nxN s % 4))
theorem stepsV_len : ∀ (k : Nat) (s : Bs), (stepsV k s).length ≤ k
  | 0, _ => Nat.le_refl _
  | _ + 1, [] => Nat.zero_le _
  | k + 1, c :: s => by
    rw [stepsV, List.length_cons]
    have := stepsV_len k ((s.drop 1).drop (nxN s % 4))
    omega
theorem steps_grow : ∀ (k : Nat) (s t : Bs), (stepsV k s).length ≤ (stepsV k (s ++ t)).length ∧ ∀ i, i + 1 < (stepsV k s).length → (stepsV k s)[i]? = (stepsV k (s ++ t))[i]?
  | 0, s, t => ⟨Nat.le_refl _, fun i h => by simp [stepsV] at h⟩
  | k + 1, [], t => ⟨by simp [stepsV], fun i h => by simp [stepsV] at h⟩
  | k + 1, c :: s, t => by
    rw [List.cons_append, stepsV, stepsV]
    by_cases hr : (s.drop 1).drop (nxN s % 4) = []
    · rw [hr]
      have e : stepsV k [] = [] := by cases k <;> rfl
      rw [e]
      refine ⟨by simp, fun i h => ?_⟩
      simp at h
    · have hs : s ≠ [] := by rintro rfl; simp at hr
      have h1 : nxN (s ++ t) = nxN s := by
        cases s with
        | nil => exact absurd rfl hs
        | cons a r => rfl
      have hlen : nxN s % 4 < (s.drop 1).length := by
        rcases Nat.lt_or_ge (nxN s % 4) (s.drop 1).length with h | h
        · exact h
        · exact absurd (List.drop_eq_nil_of_le h) hr
      have hl : 1 ≤ s.length := by
        cases s with
        | nil => exact absurd rfl hs
        | cons a r => simp
      have h2 : ((s ++ t).drop 1).drop (nxN s % 4) = (s.drop 1).drop (nxN s % 4) ++ t := by
        rw [List.drop_append_of_le_length hl, List.drop_append_of_le_length (Nat.le_of_lt hlen)]
      rw [h1, h2]
      obtain ⟨a, b⟩ := steps_grow k ((s.drop 1).drop (nxN s % 4)) t
      refine ⟨by rw [List.length_cons, List.length_cons]; omega, fun i h => ?_⟩
      cases i with
      | zero => rfl
      | succ i =>
        rw [List.getElem?_cons_succ, List.getElem?_cons_succ]
        exact b i (by rw [List.length_cons] at h; omega)
def retV (s : Bs) : Nat := nxN s % 4
def mosV (s : Bs) : Nat := nxN (s.drop 1) % 5
def itmN (s : Bs) : Nat := nxN (s.drop 2) % 32
/-- what is left behind the tiles -/
def rstV (s : Bs) : Bs := (s.drop 3).drop (2 * itmN s)
def plyV (s : Bs) : List (Nat × Nat) := stepsV 64 (rstV s)
theorem nxN_app {s : Bs} (t : Bs) {k : Nat} (h : k < s.length) : nxN ((s ++ t).drop k) = nxN (s.drop k) := by
  rw [List.drop_append_of_le_length (Nat.le_of_lt h)]
  have : s.drop k ≠ [] := by
    intro e
    have := congrArg List.length e
    rw [List.length_drop] at this
    simp at this
    omega
  cases hd : s.drop k with
  | nil => exact absurd hd this
  | cons a r => rfl
theorem ply_short {s : Bs} (h : s.length < 3) : plyV s = [] ∧ itmN s = 0 := by
  have e2 : s.drop 2 = [] ∨ ∃ c, s.drop 2 = [c] := by
    rcases s with _ | ⟨a, _ | ⟨b, _ | ⟨c, r⟩⟩⟩
    · exact .inl rfl
    · exact .inl rfl
    · exact .inl rfl
    · simp at h; omega
  have e3 : s.drop 3 = [] := List.drop_eq_nil_of_le (by omega)
  have e4 : s.drop 2 = [] := List.drop_eq_nil_of_le (by omega)
  refine ⟨?_, ?_⟩
  · unfold plyV rstV; rw [e3, List.drop_nil]; rfl
  · unfold itmN; rw [e4]; rfl
/-- WITH MORE BYTES BEHIND IT -/
theorem ply_grow (s t : Bs) : (2 ≤ s.length → retV s = retV (s ++ t) ∧ mosV s = mosV (s ++ t)) ∧
    ((plyV s).length ≤ (plyV (s ++ t)).length ∨ s.length < 3) ∧
    ∀ i, i + 1 < (plyV s).length → (plyV s)[i]? = (plyV (s ++ t))[i]? := by
  refine ⟨fun h => ?_, ?_, ?_⟩
  · unfold retV mosV
    have h0 := nxN_app t (k := 0) (s := s) (by omega)
    rw [List.drop_zero, List.drop_zero] at h0
    rw [h0, nxN_app t (by omega : 1 < s.length)]
    exact ⟨rfl, rfl⟩
  all_goals
    by_cases h3 : s.length < 3
  · exact .inr h3
  · left
    have hi : itmN (s ++ t) = itmN s := by unfold itmN; rw [nxN_app t (by omega : 2 < s.length)]
    by_cases hr : rstV s = []
    · unfold plyV; rw [hr]; simp [stepsV]
    · have hl : 2 * itmN s < (s.drop 3).length := by
        rcases Nat.lt_or_ge (2 * itmN s) (s.drop 3).length with h | h
        · exact h
        · exact absurd (List.drop_eq_nil_of_le h) hr
      have e : rstV (s ++ t) = rstV s ++ t := by
        unfold rstV
        rw [hi, List.drop_append_of_le_length (by omega), List.drop_append_of_le_length (Nat.le_of_lt hl)]
      unfold plyV; rw [e]
      exact (steps_grow 64 (rstV s) t).1
  · intro i h
    rw [(ply_short h3).1] at h
    simp at h
  · intro i h
    have hi : itmN (s ++ t) = itmN s := by unfold itmN; rw [nxN_app t (by omega : 2 < s.length)]
    by_cases hr : rstV s = []
    · unfold plyV at h; rw [hr] at h; simp [stepsV] at h
    · have hl : 2 * itmN s < (s.drop 3).length := by
        rcases Nat.lt_or_ge (2 * itmN s) (s.drop 3).length with h | h
        · exact h
        · exact absurd (List.drop_eq_nil_of_le h) hr
      have e : rstV (s ++ t) = rstV s ++ t := by
        unfold rstV
        rw [hi, List.drop_append_of_le_length (by omega), List.drop_append_of_le_length (Nat.le_of_lt hl)]
      unfold plyV at h ⊢; rw [e]
      exact (steps_grow 64 (rstV s) t).2 i h
end Go.Gz
