/- Plain laws: a row of entries cut into a root and leaves, and put together again. -/
import Derived.Test.YtkfococpanailaaGreatDoorGB10
namespace Go.Gz
def cutF : Nat → Nat → Ents → List Ents
  | 0, _, _ => []
  | f + 1, n, l => if l = [] then [] else l.take n :: cutF f n (l.drop n)
/-- pieces of so many entries -/
def cutL (n : Nat) (l : Ents) : List Ents := cutF l.length n l
theorem cutF_flat : ∀ f n (l : Ents), 0 < n → l.length ≤ f → (cutF f n l).flatten = l := by
  intro f
  induction f with
  | zero => intro n l _ h; have : l = [] := List.eq_nil_of_length_eq_zero (by omega); subst this; rfl
  | succ f ih =>
    intro n l hn h
    unfold cutF
    split
    · rename_i e; rw [e]; rfl
    · rename_i e
      have hp := List.length_pos_iff.2 e
      rw [List.flatten_cons, ih n _ hn (by rw [List.length_drop]; omega), List.take_append_drop]
theorem cutF_ne : ∀ f n (l : Ents), 0 < n → ∀ c ∈ cutF f n l, c ≠ [] := by
  intro f
  induction f with
  | zero => intro n l _ c hc; simp [cutF] at hc
  | succ f ih =>
    intro n l hn c hc
    unfold cutF at hc
    split at hc
    · simp at hc
    · rename_i e
      rcases List.mem_cons.1 hc with rfl | hc
      · have hp := List.length_pos_iff.2 e
        exact List.length_pos_iff.1 (by rw [List.length_take]; omega)
      · exact ih n _ hn c hc
theorem cut_flat {n : Nat} (l : Ents) (hn : 0 < n) : (cutL n l).flatten = l := cutF_flat _ n l hn (Nat.le_refl _)
theorem cut_ne {n : Nat} (l : Ents) (hn : 0 < n) : ∀ c ∈ cutL n l, c ≠ [] := cutF_ne _ n l hn
theorem cutF_get : ∀ f n (l : Ents), 0 < n → l.length ≤ f → ∀ k, (k * n < l.length → (cutF f n l)[k]? = some ((l.drop (k * n)).take n)) ∧ (¬ k * n < l.length → (cutF f n l)[k]? = none) := by
  intro f
  induction f with
  | zero =>
    intro n l hn hl k
    have : l = [] := List.eq_nil_of_length_eq_zero (by omega)
    subst this
    simp [cutF]
  | succ f ih =>
    intro n l hn hl k
    unfold cutF
    split
    · rename_i e; subst e; simp
    · rename_i e
      have hp := List.length_pos_iff.2 e
      cases k with
      | zero => simp; omega
      | succ k =>
        have h := ih n (l.drop n) hn (by rw [List.length_drop]; omega) k
        rw [List.length_drop, List.drop_drop] at h
        have e1 : (k + 1) * n = n + k * n := by rw [Nat.add_mul]; omega
        rw [List.getElem?_cons_succ, e1]
        exact ⟨fun hk => h.1 (by omega), fun hk => h.2 (by omega)⟩
theorem cut_get {n : Nat} (l : Ents) (hn : 0 < n) (k : Nat) : (k * n < l.length ↔ k < (cutL n l).length) ∧ ∀ (h : k < (cutL n l).length), (cutL n l)[k] = (l.drop (k * n)).take n := by
  have h := cutF_get l.length n l hn (Nat.le_refl _) k
  have h1 : k * n < l.length ↔ k < (cutL n l).length := by
    constructor
    · intro hk
      have := h.1 hk
      exact (List.getElem?_eq_some_iff.1 this).1
    · intro hk
      rcases Nat.lt_or_ge (k * n) l.length with g | g
      · exact g
      · have := h.2 (by omega)
        rw [List.getElem?_eq_none_iff] at this
        unfold cutL at hk
        omega
  refine ⟨h1, fun hk => ?_⟩
  have := h.1 (h1.2 hk)
  exact (List.getElem?_eq_some_iff.1 this).2
theorem cut_one {n : Nat} {l : Ents} (h0 : l ≠ []) (h : l.length ≤ n) : cutL n l = [l] := by
  unfold cutL
  have hp := List.length_pos_iff.2 h0
  obtain ⟨f, hf⟩ : ∃ f, l.length = f + 1 := ⟨l.length - 1, by omega⟩
  rw [hf]
  unfold cutF
  rw [if_neg h0, List.take_of_length_le h, List.drop_eq_nil_of_le h]
  cases f <;> simp [cutF]
theorem flat_len {cs : List Ents} (h : ∀ c ∈ cs, c ≠ []) : cs.length ≤ cs.flatten.length := by
  induction cs with
  | nil => simp
  | cons c r ih =>
    have := ih (fun d hd => h d (by simp [hd]))
    have := List.length_pos_iff.2 (h c (by simp))
    rw [List.flatten_cons, List.length_append, List.length_cons]; omega
/-- the pointers to the pieces' bytes -/
def roots : Nat → List Ents → Ents
  | _, [] => []
  | o, c :: r => ⟨(c.headD zE).id, o, (dirB c).length, 0⟩ :: roots (o + (dirB c).length) r
theorem roots_len (cs : List Ents) : ∀ o, (roots o cs).length = cs.length := by
  induction cs with
  | nil => intro o; rfl
  | cons c r ih => intro o; unfold roots; simp [ih]
theorem roots_snoc (cs : List Ents) (c : Ents) : ∀ o, roots o (cs ++ [c]) = roots o cs ++ [⟨(c.headD zE).id, o + (cs.flatMap dirB).length, (dirB c).length, 0⟩] := by
  induction cs with
  | nil => intro o; simp [roots]
  | cons d r ih =>
    intro o
    rw [List.cons_append]
    unfold roots
    rw [ih, List.flatMap_cons, List.length_append, Nat.add_assoc]; rfl
theorem dirB_pos (l : Ents) : 0 < (dirB l).length := by
  unfold dirB nums
  rw [List.flatMap_cons, List.length_append]
  have := vB_pos l.length
  omega
theorem enc_ok {l : Ents} (h : encE l = 0) : rowE l = 0 ∧ (dirB l).length ≤ 65536 := by
  unfold encE at h
  split at h
  · contradiction
  · rename_i h1
    split at h
    · simp at h
    · exact ⟨by simpa using h1, by omega⟩
theorem enc_mk {l : Ents} (h1 : rowE l = 0) (h2 : (dirB l).length ≤ 65536) : encE l = 0 := by
  unfold encE
  rw [if_neg (by omega), if_neg (by omega)]
theorem dirs_len {cs : List Ents} (h : ∀ c ∈ cs, encE c = 0) : (cs.flatMap dirB).length ≤ 65536 * cs.length := by
  induction cs with
  | nil => simp
  | cons c r ih =>
    have h1 := (enc_ok (h c (by simp))).2
    have := ih (fun d hd => h d (by simp [hd]))
    rw [List.flatMap_cons, List.length_append, List.length_cons]
    omega
theorem roots_row (cs : List Ents) : ∀ o f, (∀ c ∈ cs, encE c = 0) → (∀ c ∈ cs, c ≠ []) → rowGo f cs.flatten = 0 → o + 65536 * cs.length ≤ 1099511627776 → rowGo f (roots o cs) = 0 := by
  induction cs with
  | nil => intro o f _ _ _ _; rfl
  | cons c r ih =>
    intro o f h1 h2 h3 h4
    have e1 := enc_ok (h1 c (by simp))
    have e2 := dirB_pos c
    rw [List.length_cons] at h4
    obtain ⟨x, t, rfl⟩ : ∃ x t, c = x :: t := by
      cases c with
      | nil => exact absurd rfl (h2 [] (by simp))
      | cons x t => exact ⟨x, t, rfl⟩
    rw [List.flatten_cons, List.cons_append] at h3
    have hgo := (rowGo_iff _ _).1 h3
    obtain ⟨g1, g2, g3⟩ := rowGo_cons h3
    have hw := wide_pos x
    have hc := chk_ok g1
    unfold roots
    refine rowGo_mk (chk_mk e2 (by simp [wideE]; omega) (by simp; omega)) g2 ?_
    refine ih _ _ (fun d hd => h1 d (by simp [hd])) (fun d hd => h2 d (by simp [hd])) ?_ (by omega)
    refine (rowGo_iff _ _).2 ⟨fun e he => ?_, ?_⟩
    · have := (rowGo_iff _ _).1 g3
      have h5 := this.1 e (by simp [he])
      refine ⟨h5.1, ?_⟩
      simp [wideE]; omega
    · have := ((rowGo_iff _ _).1 g3).2
      rw [List.pairwise_append] at this
      exact this.2.1
def splitAt (n : Nat) (l : Ents) (b : Nat) : Option (Ents × Bs) :=
  if (cutL n l).all (fun c => encE c == 0) = false then none
  else if b < sizeD (roots 0 (cutL n l)) then none else some (roots 0 (cutL n l), (cutL n l).flatMap dirB)
def splitS : List Nat → Ents → Nat → Int × Ents × Bs × Nat
  | [], _, _ => (15, [], [], 0)
  | n :: r, l, b => match splitAt n l b with
    | some st => (0, st.1, st.2, n)
    | none => splitS r l b
def sizesL : List Nat := [1, 2, 4, 8, 16, 32, 64, 128, 256, 512, 1024, 2048, 4096]
def splitV (l : Ents) (b : Nat) : Int × Ents × Bs × Nat :=
  if b < 1 ∨ 16257 < b then (2, [], [], 0) else if rowE l ≠ 0 then (rowE l, [], [], 0) else if l.any (fun e => e.run == 0) then (14, [], [], 0)
  else if sizeD l ≤ b then (0, l, [], 0) else splitS sizesL l b
theorem splitS_ok (ns : List Nat) (l : Ents) (b n : Nat) (hn : n ∈ ns) (h : (splitAt n l b).isSome) : (splitS ns l b).1 = 0 := by
  induction ns with
  | nil => simp at hn
  | cons m r ih =>
    unfold splitS
    cases e : splitAt m l b with
    | some st => rfl
    | none =>
      rcases List.mem_cons.1 hn with rfl | hn
      · rw [e] at h; simp at h
      · exact ih hn
theorem splitS_at (ns : List Nat) (l : Ents) (b : Nat) (h : (splitS ns l b).1 = 0) : ∃ n ∈ ns, splitAt n l b = some ((splitS ns l b).2.1, (splitS ns l b).2.2.1) ∧ (splitS ns l b).2.2.2 = n := by
  induction ns with
  | nil => simp [splitS] at h
  | cons m r ih =>
    unfold splitS at h ⊢
    cases e : splitAt m l b with
    | some st => exact ⟨m, by simp, by simpa using e, rfl⟩
    | none =>
      rw [e] at h
      obtain ⟨n, h1, h2⟩ := ih h
      exact ⟨n, by simp [h1], h2⟩
theorem split_at {n : Nat} {l : Ents} {b : Nat} {st : Ents × Bs} (hn : 0 < n) (hr : rowE l = 0) (h : splitAt n l b = some st) :
    st = (roots 0 (cutL n l), (cutL n l).flatMap dirB) ∧ (∀ c ∈ cutL n l, encE c = 0) ∧ rowE st.1 = 0 ∧ (dirB st.1).length ≤ b := by
  unfold splitAt at h
  split at h
  · simp at h
  · rename_i h1
    have h1 : ∀ c ∈ cutL n l, encE c = 0 := by
      intro c hc
      simp only [Bool.not_eq_false, List.all_eq_true, beq_iff_eq] at h1
      exact h1 c hc
    split at h
    · simp at h
    · rename_i h2
      simp only [Option.some.injEq] at h
      subst h
      have hl : (cutL n l).length ≤ 4096 := by
        have a := flat_len (cut_ne l hn)
        rw [cut_flat l hn] at a
        have := row_len hr
        omega
      have hrow : rowE (roots 0 (cutL n l)) = 0 := row_mk (by rw [roots_len]; exact hl) (roots_row _ 0 0 h1 (cut_ne l hn) (by rw [cut_flat l hn]; exact row_go hr) (by omega))
      refine ⟨rfl, h1, hrow, ?_⟩
      unfold sizeD at h2
      rw [if_neg (by omega)] at h2
      show (dirB (roots 0 (cutL n l))).length ≤ b
      omega
theorem dir_le {l : Ents} (h : rowE l = 0) (h2 : ∀ e ∈ l, okE e) : (dirB l).length ≤ 10 + 40 * l.length := by
  rw [dirB_len]
  have := size_le _ (nums_lt h h2)
  rw [nums_len] at this
  omega
/-- a row that is not too long is cut -/
theorem split_ok {l : Ents} {b : Nat} (hb : 512 ≤ b) (hb2 : b ≤ 16257) (hr : rowE l = 0) (hok : ∀ e ∈ l, okE e) (hl : l.length ≤ 1024) (hrun : ∀ e ∈ l, 1 ≤ e.run) :
    (splitV l b).1 = 0 ∧ rowE (splitV l b).2.1 = 0 ∧ (dirB (splitV l b).2.1).length ≤ b ∧ ((splitV l b).2.2.1 = [] ∧ (splitV l b).2.1 = l ∨ ∃ n, 0 < n ∧ (splitV l b).2.1 = roots 0 (cutL n l) ∧ (splitV l b).2.2.1 = (cutL n l).flatMap dirB ∧ ∀ c ∈ cutL n l, encE c = 0) := by
  have hp : l.any (fun e => e.run == 0) = false := by
    rw [List.any_eq_false]
    intro e he
    have := hrun e he
    simp; omega
  unfold splitV
  rw [if_neg (by omega), if_neg (by omega), if_neg (by rw [hp]; simp)]
  by_cases hs : sizeD l ≤ b
  · rw [if_pos hs]
    unfold sizeD at hs
    rw [if_neg (by omega)] at hs
    exact ⟨rfl, hr, hs, .inl ⟨rfl, rfl⟩⟩
  · rw [if_neg hs]
    have h0 : l ≠ [] := by
      intro e
      subst e
      have : sizeD ([] : Ents) = 1 := by unfold sizeD dirB nums colN; simp [rowE, rowGo, vB_small]
      omega
    have hd := dir_le hr hok
    have hcut := cut_one (n := 1024) h0 hl
    have henc : encE l = 0 := enc_mk hr (by omega)
    have hsome : (splitAt 1024 l b).isSome := by
      unfold splitAt
      rw [hcut, if_neg (by simp [henc])]
      have hroot : sizeD (roots 0 [l]) ≤ 50 := by
        unfold sizeD
        split
        · omega
        · rename_i hh
          have hh : rowE (roots 0 [l]) = 0 := by omega
          have := dir_le hh (by
            intro e he
            simp [roots] at he
            subst he
            obtain ⟨x, t, rfl⟩ : ∃ x t, l = x :: t := by
              cases l with
              | nil => exact absurd rfl h0
              | cons x t => exact ⟨x, t, rfl⟩
            have hx := hok x (by simp)
            unfold okE at hx ⊢
            simp
            omega)
          rw [roots_len] at this
          simp at this; exact this
      rw [if_neg (by omega)]
      rfl
    have h1 := splitS_ok sizesL l b 1024 (by decide) hsome
    obtain ⟨n, hn, hat, _⟩ := splitS_at _ _ _ h1
    have hn0 : 0 < n := by
      have : ∀ m ∈ sizesL, 0 < m := by decide
      exact this n hn
    obtain ⟨k1, k2, k3, k4⟩ := split_at hn0 hr hat
    refine ⟨h1, k3, k4, .inr ⟨n, hn0, ?_, ?_, k2⟩⟩
    · exact (Prod.mk.inj k1).1
    · exact (Prod.mk.inj k1).2
end Go.Gz
