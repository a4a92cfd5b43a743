/- Plain laws: an archive does not hang on the order in which its tiles were put. -/
import Derived.Test.YtcfmidmokciofaaGreatDoorKM20
import Derived.Test.YtcfmidmokciofaaGreatDoorKM18
namespace Go.Gz
theorem del_none {L : Items} {id : Nat} (h : memL L id = false) : delL L id = L := by
  unfold delL
  rw [List.filter_eq_self]
  intro y hy
  unfold memL at h
  rw [List.any_eq_false] at h
  have := h y hy
  simpa using this
theorem del_ins {L : Items} {id : Nat} {s : Bs} (h : memL L id = false) : delL (insL L id s) id = L := by
  unfold insL
  rw [del_none h]
  have e : ∀ A B : Items, delL (A ++ (id, s) :: B) id = delL A id ++ delL B id := by
    intro A B
    unfold delL
    rw [List.filter_append, List.filter_cons, if_neg (by simp)]
  rw [e]
  have := del_none h
  unfold delL at this ⊢
  rw [← List.filter_append, List.takeWhile_append_dropWhile, this]
theorem good_nil : Good [] := ⟨by intro i j hi; simp at hi, by simp, by simp, by simp, by simp⟩
theorem wrongE_zero {id : Nat} {s : Bs} {full : Bool} (h : wrongE id s full = 0) : id < 6004799503160661 ∧ s ≠ [] ∧ s.length ≤ 65536 ∧ full = false := by
  unfold wrongE at h
  by_cases h1 : 6004799503160661 ≤ id
  · rw [if_pos h1] at h; exact absurd h (by decide)
  rw [if_neg h1] at h
  by_cases h2 : s = []
  · rw [if_pos h2] at h; exact absurd h (by decide)
  rw [if_neg h2] at h
  by_cases h3 : 65536 < s.length
  · rw [if_pos h3] at h; exact absurd h (by decide)
  rw [if_neg h3] at h
  cases full
  · exact ⟨by omega, h2, by omega, rfl⟩
  · exact absurd h (by decide)
theorem good_put {L : Items} (h : Good L) (hl : L.length < 2048) (id : Nat) (s : Bs) : Good (putL L id s) := by
  have hsrt := srt_put (id := id) (s := s) h.srt
  have hlen := put_len L id s
  unfold putL at hsrt hlen ⊢
  split
  · rename_i hE
    rw [if_pos hE] at hsrt hlen
    have hx : ∀ y ∈ insL L id s, y = (id, s) ∨ y ∈ L := fun y hy => mem_ins hy
    obtain ⟨e1, e2, e3, _⟩ := wrongE_zero hE
    refine ⟨hsrt, by omega, fun y hy => ?_, fun y hy => ?_, fun y hy => ?_⟩
    · rcases hx y hy with rfl | hy
      · exact e1
      · exact h.id y hy
    · rcases hx y hy with rfl | hy
      · exact e2
      · exact h.ne y hy
    · rcases hx y hy with rfl | hy
      · exact e3
      · exact h.sz y hy
  · exact h
theorem good_own (l : Items) (hl : l.length ≤ 2048) : Good (ownL l) := by
  induction l using snoc_ind with
  | h0 => exact good_nil
  | h1 l a ih =>
    have hl' : l.length + 1 ≤ 2048 := by simpa using hl
    rw [own_snoc]
    exact good_put (ih (by omega)) (by have := own_len l; omega) _ _
theorem total_app (A B : Items) : total (A ++ B) = total A + total B := by unfold total; rw [List.map_append, List.sum_append]
theorem total_cons (x : Item) (B : Items) : total (x :: B) = x.2.length + total B := by unfold total; rw [List.map_cons, List.sum_cons]
theorem total_sub {A B : Items} (h : List.Sublist A B) : total A ≤ total B := by
  induction h with
  | slnil => exact Nat.le_refl _
  | cons a _ ih => rw [total_cons]; omega
  | cons_cons a _ ih => rw [total_cons, total_cons]; omega
theorem total_ins (L : Items) (id : Nat) (s : Bs) : total (insL L id s) ≤ total L + s.length := by
  unfold insL
  rw [total_app, total_cons]
  have h := total_sub (List.filter_sublist (p := fun x : Item => !(x.1 == id)) (l := L))
  have h2 := List.takeWhile_append_dropWhile (p := fun x : Item => decide (x.1 < id)) (l := delL L id)
  have h3 := congrArg total h2
  rw [total_app] at h3
  have h4 : total (delL L id) ≤ total L := h
  show total _ + (s.length + total (List.dropWhile (fun x : Item => decide (x.1 < id)) (delL L id))) ≤ _
  have h5 : total (List.dropWhile (fun x : Item => decide (x.1 < id)) (delL L id)) = total (List.dropWhile (fun x => decide (x.1 < id)) (delL L id)) := rfl
  omega
theorem total_put (L : Items) (id : Nat) (s : Bs) : total (putL L id s) ≤ total L + s.length := by
  unfold putL; split
  · exact total_ins L id s
  · omega
theorem total_own (l : Items) : total (ownL l) ≤ sumL l := by
  induction l using snoc_ind with
  | h0 => exact Nat.le_refl _
  | h1 l a ih =>
    rw [own_snoc]
    have := total_put (ownL l) a.1 a.2
    have h : sumL (l ++ [a]) = sumL l + a.2.length := by unfold sumL; rw [List.map_append, List.sum_append]; simp
    omega
/-- items that a chart may be made of: no identifier twice, each may be put -/
structure Fit (L : Items) : Prop where
  nd : (L.map (·.1)).Nodup
  ok : ∀ x ∈ L, wrongE x.1 x.2 false = 0
theorem good_fit {L : Items} (h : Good L) : Fit L := by
  refine ⟨?_, fun x hx => ?_⟩
  · have h1 := (srt_iff L).1 h.srt
    unfold List.Nodup
    rw [List.pairwise_map]
    exact h1.imp (fun h => by omega)
  · have h1 := h.id x hx
    have h2 := h.ne x hx
    have h3 := h.sz x hx
    unfold wrongE
    rw [if_neg (by omega), if_neg h2, if_neg (by omega)]
    rfl
theorem fit_perm {L M : Items} (h : Fit L) (p : M.Perm L) : Fit M := by
  refine ⟨?_, fun x hx => h.ok x (p.subset hx)⟩
  exact (p.map _).nodup_iff.2 h.nd
theorem srt_perm {L M : Items} (hL : Srt L) (hM : Srt M) (p : M.Perm L) : M = L := by
  rw [srt_iff] at hL hM
  refine p.eq_of_pairwise (le := fun a b : Item => a.1 < b.1) (fun a b _ _ h1 h2 => by omega) hM hL
theorem rot_perm (L : Items) (k : Nat) : (L.drop k ++ L.take k).Perm L := by
  have h := List.perm_append_comm (l₁ := L.drop k) (l₂ := L.take k)
  rwa [List.take_append_drop] at h
end Go.Gz
