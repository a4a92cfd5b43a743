/- Plain laws: an archive does not hang on the order in which its tiles were put. -/
import Derived.Test.YtkfococpanailaaGreatDoorGU07
import Derived.Test.YtkfococpanailaaGreatDoorGU06
namespace Go.Gz
theorem del_none {L : Items} {id : Nat} (h : memL L id = false) : delL L id = L := by
  unfold delL;rw [List.filter_eq_self];intro y hy;unfold memL at h;rw [List.any_eq_false] at h;have := h y hy;simpa using this
theorem del_ins {L : Items} {id : Nat} {s : Bs} (h : memL L id = false) : delL (insL L id s) id = L := by
  unfold insL;rw [del_none h];have e : ∀ A B : Items, delL (A ++ (id, s) :: B) id = delL A id ++ delL B id := by
    intro A B;unfold delL;rw [List.filter_append, List.filter_cons, if_neg (by simp)]
  rw [e];have := del_none h;unfold delL at this ⊢;rw [← List.filter_append, List.takeWhile_append_dropWhile, this]
theorem good_nil : Good [] := ⟨by intro i j hi; simp at hi, by simp, by simp, by simp, by simp⟩
theorem wrongE_zero {id : Nat} {s : Bs} {full : Bool} (h : wrongE id s full = 0) : id < 6004799503160661 ∧ s ≠ [] ∧ s.length ≤ 65536 ∧ full = false := by
  unfold wrongE at h;by_cases h1 : 6004799503160661 ≤ id
  · rw [if_pos h1] at h; exact absurd h (by decide)
  rw [if_neg h1] at h;by_cases h2 : s = []
  · rw [if_pos h2] at h; exact absurd h (by decide)
  rw [if_neg h2] at h;by_cases h3 : 65536 < s.length
  · rw [if_pos h3] at h; exact absurd h (by decide)
  rw [if_neg h3] at h;cases full
  · exact ⟨by omega, h2, by omega, rfl⟩
  · exact absurd h (by decide)
theorem good_put {L : Items} (h : Good L) (hl : L.length < 2048) (id : Nat) (s : Bs) : Good (putL L id s) := by
  have hsrt := srt_put (id := id) (s := s) h.srt;have hlen := put_len L id s;unfold putL at hsrt hlen ⊢;split
  · rename_i hE;rw [if_pos hE] at hsrt hlen;have hx : ∀ y ∈ insL L id s, y = (id, s) ∨ y ∈ L := fun y hy => mem_ins hy;obtain ⟨e1, e2, e3, _⟩ := wrongE_zero hE;refine ⟨hsrt, by omega, fun y hy => ?_, fun y hy => ?_, fun y hy => ?_⟩
    · rcases hx y hy with rfl | hy
      · exact e1
      · exact h.id y hy
    · rcases hx y hy with rfl | hy
      · exact e2
      · exact h.ne y hy
    · rcases hx y hy with rfl | hy
      · exact e3
      · exact h.sz y hy
  · exact h
theorem good_own (l : Items) (hl : l.length ≤ 2048) : Good (ownL l) := by
  induction l using snoc_ind with
  | h0 => exact good_nil
  | h1 l a ih =>
    have hl' : l.length + 1 ≤ 2048 := by simpa using hl
    rw [own_snoc];exact good_put (ih (by omega)) (by have := own_len l; omega) _ _
theorem total_app (A B : Items) : total (A ++ B) = total A + total B := by unfold total; rw [List.map_append, List.sum_append]
theorem total_cons (x : Item) (B : Items) : total (x :: B) = x.2.length + total B := by unfold total; rw [List.map_cons, List.sum_cons]
theorem total_sub {A B : Items} (h : List.Sublist A B) : total A ≤ total B := by
  induction h with
  | slnil => exact Nat.le_refl _
  | cons a _ ih => rw [total_cons]; omega
  | cons_cons a _ ih => rw [total_cons, total_cons]; omega
theorem total_ins (L : Items) (id : Nat) (s : Bs) : total (insL L id s) ≤ total L + s.length := by
  unfold insL;rw [total_app, total_cons];have h := total_sub (List.filter_sublist (p := fun x : Item => !(x.1 == id)) (l := L));have h2 := List.takeWhile_append_dropWhile (p := fun x : Item => decide (x.1 < id)) (l := delL L id);have h3 := congrArg total h2;rw [total_app] at h3;have h4 : total (delL L id) ≤ total L := h;show total _ + (s.length + total (List.dropWhile (fun x : Item => decide (x.1 < id)) (delL L id))) ≤ _
  have h5 : total (List.dropWhile (fun x : Item => decide (x.1 < id)) (delL L id)) = total (List.dropWhile (fun x => decide (x.1 < id)) (delL L id)) := rfl;omega
theorem total_put (L : Items) (id : Nat) (s : Bs) : total (putL L id s) ≤ total L + s.length := by
  unfold putL; split
  · exact total_ins L id s
  · omega
theorem total_own (l : Items) : total (ownL l) ≤ sumL l := by
  induction l using snoc_ind with
  | h0 => exact Nat.le_refl _
  | h1 l a ih =>
    rw [own_snoc];have := total_put (ownL l) a.1 a.2;have h : sumL (l ++ [a]) = sumL l + a.2.length := by unfold sumL; rw [List.map_append, List.sum_append]; simp
    omega
/-- items that a chart may be made of: no identifier twice, each may be put -/
structure Fit (L : Items) : Prop where
  nd : (L.map (·.1)).Nodup
  ok : ∀ x ∈ L, wrongE x.1 x.2 false = 0
theorem good_fit {L : Items} (h : Good L) : Fit L := by
  refine ⟨?_, fun x hx => ?_⟩
  · have h1 := (srt_iff L).1 h.srt;unfold List.Nodup;rw [List.pairwise_map];exact h1.imp (fun h => by omega)
  · have h1 := h.id x hx;have h2 := h.ne x hx;have h3 := h.sz x hx;unfold wrongE;rw [if_neg (by omega), if_neg h2, if_neg (by omega)];rfl
theorem fit_perm {L M : Items} (h : Fit L) (p : M.Perm L) : Fit M := by
  refine ⟨?_, fun x hx => h.ok x (p.subset hx)⟩;exact (p.map _).nodup_iff.2 h.nd
theorem srt_perm {L M : Items} (hL : Srt L) (hM : Srt M) (p : M.Perm L) : M = L := by
  rw [srt_iff] at hL hM;refine p.eq_of_pairwise (le := fun a b : Item => a.1 < b.1) (fun a b _ _ h1 h2 => by omega) hM hL
theorem rot_perm (L : Items) (k : Nat) : (L.drop k ++ L.take k).Perm L := by
  have h := List.perm_append_comm (l₁ := L.drop k) (l₂ := L.take k);rwa [List.take_append_drop] at h
end Go.Gz
/- Plain laws: charts over each other, and what of one the other has. -/
namespace Go.Gz
/-- the tiles of one chart that another one has, or has not -/
def someL (L M : Items) (t : Bool) : Items := L.filter fun x => memL M x.1 == t
theorem mem_memL {L : Items} {x : Item} (h : x ∈ L) : memL L x.1 = true := by
  unfold memL; rw [List.any_eq_true]; exact ⟨x, h, by simp⟩
theorem memL_iff {L : Items} {id : Nat} : memL L id = true ↔ ∃ x ∈ L, x.1 = id := by
  unfold memL; rw [List.any_eq_true]; simp
theorem memL_false {L : Items} {id : Nat} : memL L id = false ↔ ∀ x ∈ L, x.1 ≠ id := by
  rw [← Bool.not_eq_true, memL_iff];exact ⟨fun h x hx e => h ⟨x, hx, e⟩, fun h ⟨x, hx, e⟩ => h x hx e⟩
theorem mem_some {L M : Items} {t : Bool} {x : Item} : x ∈ someL L M t ↔ x ∈ L ∧ memL M x.1 = t := by
  unfold someL; rw [List.mem_filter]; simp
theorem srt_nodup {L : Items} (h : Srt L) : L.Nodup := by
  rw [srt_iff] at h;exact h.imp fun h e => by rw [e] at h; omega
theorem srt_sub {L M : Items} (h : Srt L) (s : List.Sublist M L) : Srt M := by
  rw [srt_iff] at h ⊢;exact h.sublist s
theorem srt_some {L : Items} (h : Srt L) (M : Items) (t : Bool) : Srt (someL L M t) := srt_sub h (List.filter_sublist)
/-- sorted items with the same members are the same -/
theorem srt_ext {A B : Items} (hA : Srt A) (hB : Srt B) (h : ∀ x, x ∈ A ↔ x ∈ B) : A = B :=
  (srt_perm hA hB ((List.perm_ext_iff_of_nodup (srt_nodup hB) (srt_nodup hA)).2 fun x => (h x).symm)).symm
theorem srt_inj {L : Items} (h : Srt L) {x y : Item} (hx : x ∈ L) (hy : y ∈ L) (e : x.1 = y.1) : x = y := by
  obtain ⟨i, hi, rfl⟩ := List.getElem_of_mem hx;obtain ⟨j, hj, rfl⟩ := List.getElem_of_mem hy;rcases Nat.lt_trichotomy i j with g | g | g
  · have := h i j hi hj g; omega
  · subst g; rfl
  · have := h j i hj hi g; omega
theorem mem_insL {L : Items} {id : Nat} {s : Bs} {x : Item} : x ∈ insL L id s ↔ x = (id, s) ∨ (x ∈ L ∧ x.1 ≠ id) := by
  have h : x ∈ insL L id s ↔ x = (id, s) ∨ x ∈ delL L id := by
    unfold insL;rw [List.mem_append, List.mem_cons];have e : x ∈ delL L id ↔ x ∈ (delL L id).takeWhile (fun x => decide (x.1 < id)) ∨ x ∈ (delL L id).dropWhile (fun x => decide (x.1 < id)) := by
      rw [← List.mem_append, List.takeWhile_append_dropWhile]
    rw [e];constructor
    · rintro (a | a | a)
      · exact .inr (.inl a)
      · exact .inl a
      · exact .inr (.inr a)
    · rintro (a | a | a)
      · exact .inr (.inl a)
      · exact .inl a
      · exact .inr (.inr a)
  rw [h];unfold delL;rw [List.mem_filter];simp
/-- one chart laid over another one -/
def overL (L M : Items) : Items := M.foldl (fun r x => insL r x.1 x.2) L
theorem over_cons (L : Items) (x : Item) (M : Items) : overL L (x :: M) = overL (insL L x.1 x.2) M := rfl
theorem srt_over : ∀ (M L : Items), Srt L → Srt (overL L M)
  | [], _, h => h
  | x :: M, L, h => by rw [over_cons]; exact srt_over M _ (srt_ins x.1 x.2 L h)
theorem mem_over : ∀ (M L : Items), Srt M → ∀ {x : Item}, x ∈ overL L M ↔ x ∈ M ∨ (x ∈ L ∧ memL M x.1 = false)
  | [], L, _, x => by
    show x ∈ L ↔ _
    simp [memL]
  | y :: M, L, h, x => by
    have h0 := (srt_iff _).1 h;have h1 := (List.pairwise_cons.1 h0);rw [over_cons, mem_over M _ ((srt_iff _).2 h1.2), mem_insL];have hy : memL M y.1 = false := memL_false.2 fun z hz e => by have := h1.1 z hz; omega
    have e : memL (y :: M) x.1 = (y.1 == x.1 || memL M x.1) := by unfold memL; rw [List.any_cons]
    rw [e, Bool.or_eq_false_iff, List.mem_cons];constructor
    · rintro (a | ⟨a | a, b⟩)
      · exact .inl (.inr a)
      · exact .inl (.inl a)
      · exact .inr ⟨a.1, by simp; omega, b⟩
    · rintro ((a | a) | ⟨a, b, c⟩)
      · subst a; exact .inr ⟨.inl rfl, hy⟩
      · exact .inl a
      · exact .inr ⟨.inr ⟨a, by simp at b; omega⟩, c⟩
theorem memL_over {L M : Items} (h : Srt M) (id : Nat) : memL (overL L M) id = (memL M id || memL L id) := by
  rw [Bool.eq_iff_iff, Bool.or_eq_true, memL_iff, memL_iff, memL_iff];constructor
  · rintro ⟨x, hx, e⟩;rcases (mem_over M L h).1 hx with a | a
    · exact .inl ⟨x, a, e⟩
    · exact .inr ⟨x, a.1, e⟩
  · rintro (⟨x, hx, e⟩ | ⟨x, hx, e⟩)
    · exact ⟨x, (mem_over M L h).2 (.inl hx), e⟩
    · by_cases g : memL M x.1 = true
      · obtain ⟨y, hy, f⟩ := memL_iff.1 g;exact ⟨y, (mem_over M L h).2 (.inl hy), by omega⟩
      · exact ⟨x, (mem_over M L h).2 (.inr ⟨hx, by simpa using g⟩), e⟩
theorem memL_some (L M : Items) (t : Bool) (id : Nat) : memL (someL L M t) id = (memL L id && (memL M id == t)) := by
  rw [Bool.eq_iff_iff, Bool.and_eq_true, memL_iff, memL_iff];constructor
  · rintro ⟨x, hx, e⟩;obtain ⟨a, b⟩ := mem_some.1 hx;exact ⟨⟨x, a, e⟩, by rw [← e, b]; simp⟩
  · rintro ⟨⟨x, hx, e⟩, b⟩;exact ⟨x, mem_some.2 ⟨hx, by rw [e]; simpa using b⟩, e⟩
/-- what the program makes: the rest and the other one, in order -/
theorem over_perm {L M : Items} (hL : Srt L) (hM : Srt M) : (overL L M).Perm (someL L M false ++ M) := by
  refine (List.perm_ext_iff_of_nodup (srt_nodup (srt_over M L hL)) ?_).2 fun x => ?_
  · rw [List.nodup_append];refine ⟨srt_nodup (srt_some hL M false), srt_nodup hM, ?_⟩;rintro x hx y hy rfl;have := (mem_some.1 hx).2;rw [mem_memL hy] at this;cases this
  · rw [mem_over M L hM, List.mem_append, mem_some];exact Or.comm
theorem over_len {L M : Items} (hL : Srt L) (hM : Srt M) : (overL L M).length = (someL L M false).length + M.length := by
  rw [(over_perm hL hM).length_eq, List.length_append]
theorem over_sorted {L M N : Items} (hL : Srt L) (hM : Srt M) (hN : Srt N) (p : N.Perm (someL L M false ++ M)) : N = overL L M :=
  srt_perm (srt_over M L hL) hN (p.trans (over_perm hL hM).symm)
theorem some_len (L M : Items) (t : Bool) : (someL L M t).length ≤ L.length := List.length_filter_le _ _
theorem some_sum (L M : Items) : (someL L M false).length + (someL L M true).length = L.length := by
  unfold someL;induction L with
  | nil => rfl
  | cons x r ih =>
    rw [List.filter_cons, List.filter_cons, List.length_cons];cases memL M x.1
    · rw [if_pos (by rfl), if_neg (by decide), List.length_cons]; omega
    · rw [if_neg (by decide), if_pos (by rfl), List.length_cons]; omega
theorem good_some {L : Items} (h : Good L) (M : Items) (t : Bool) : Good (someL L M t) := by
  have hs : List.Sublist (someL L M t) L := List.filter_sublist;exact ⟨srt_some h.srt M t, Nat.le_trans (some_len L M t) h.len, fun x hx => h.id x (hs.subset hx), fun x hx => h.ne x (hs.subset hx), fun x hx => h.sz x (hs.subset hx)⟩
theorem good_over {L M : Items} (hL : Good L) (hM : Good M) (hl : (someL L M false).length + M.length ≤ 2048) : Good (overL L M) := by
  have hs := over_len hL.srt hM.srt;refine ⟨srt_over M L hL.srt, by omega, fun x hx => ?_, fun x hx => ?_, fun x hx => ?_⟩;all_goals
    rcases (mem_over M L hM.srt).1 hx with a | a
  · exact hM.id x a
  · exact hL.id x a.1
  · exact hM.ne x a
  · exact hL.ne x a.1
  · exact hM.sz x a
  · exact hL.sz x a.1
theorem fit_over {L M : Items} (hL : Good L) (hM : Good M) : Fit (someL L M false ++ M) := by
  refine ⟨?_, fun x hx => ?_⟩
  · rw [List.map_append, List.nodup_append];refine ⟨(good_fit (good_some hL M false)).nd, (good_fit hM).nd, ?_⟩;rintro a ha b hb rfl;obtain ⟨x, hx, rfl⟩ := List.mem_map.1 ha;obtain ⟨y, hy, e⟩ := List.mem_map.1 hb;have h1 := (mem_some.1 hx).2;rw [← e, mem_memL hy] at h1;cases h1
  · rcases List.mem_append.1 hx with a | a
    · exact (good_fit (good_some hL M false)).ok x a
    · exact (good_fit hM).ok x a
/-- the reference's way: one put behind the other -/
theorem putL_ins {L : Items} {x : Item} (hx : wrongE x.1 x.2 false = 0) (hl : L.length < 2048) : putE L x.1 x.2 = 0 ∧ putL L x.1 x.2 = insL L x.1 x.2 := by
  have h : putE L x.1 x.2 = 0 := by
    unfold putE;have e : (!(getL L x.1).isSome && decide (2048 ≤ L.length)) = false := by
      rw [show decide (2048 ≤ L.length) = false from decide_eq_false (by omega), Bool.and_false]
    rw [e]; exact hx
  exact ⟨h, by unfold putL; rw [if_pos h]⟩
theorem insL_len (L : Items) (id : Nat) (s : Bs) : (insL L id s).length ≤ L.length + 1 := by
  rw [ins_len]; have := del_len L id; omega
/-- laws of parts -/
theorem over_parts {L M : Items} (hL : Srt L) : overL (someL L M false) (someL L M true) = L := by
  refine srt_ext (srt_over _ _ (srt_some hL M false)) hL fun x => ?_;rw [mem_over _ _ (srt_some hL M true), mem_some, mem_some, memL_some];constructor
  · rintro (a | a)
    · exact a.1
    · exact a.1.1
  · intro a;cases hm : memL M x.1
    · exact .inr ⟨⟨a, rfl⟩, by simp⟩
    · exact .inl ⟨a, rfl⟩
theorem over_only {L M : Items} (hL : Srt L) (hM : Srt M) : overL (someL L M false) M = overL L M := by
  refine srt_ext (srt_over _ _ (srt_some hL M false)) (srt_over _ _ hL) fun x => ?_;rw [mem_over _ _ hM, mem_over _ _ hM, mem_some];constructor
  · rintro (a | a)
    · exact .inl a
    · exact .inr ⟨a.1.1, a.2⟩
  · rintro (a | a)
    · exact .inl a
    · exact .inr ⟨⟨a.1, a.2⟩, a.2⟩
theorem some_only (L M : Items) : someL (someL L M false) M false = someL L M false := by
  unfold someL;rw [List.filter_filter];simp
theorem some_parts (L M : Items) : someL (someL L M false) (someL L M true) false = someL L M false := by
  show List.filter _ (someL L M false) = _
  rw [List.filter_eq_self];intro x hx;have := (mem_some.1 hx).2;rw [memL_some, this]; simp
theorem over_assoc {A B C : Items} (hA : Srt A) (hB : Srt B) (hC : Srt C) : overL (overL A B) C = overL A (overL B C) := by
  refine srt_ext (srt_over _ _ (srt_over _ _ hA)) (srt_over _ _ hA) fun x => ?_;rw [mem_over _ _ hC, mem_over _ _ hB, mem_over _ _ (srt_over _ _ hB), mem_over _ _ hC, memL_over hC, Bool.or_eq_false_iff];constructor
  · rintro (a | ⟨a | a, b⟩)
    · exact .inl (.inl a)
    · exact .inl (.inr ⟨a, b⟩)
    · exact .inr ⟨a.1, b, a.2⟩
  · rintro ((a | a) | ⟨a, b, c⟩)
    · exact .inl a
    · exact .inr ⟨.inl a.1, a.2⟩
    · exact .inr ⟨.inr ⟨a, c⟩, b⟩
theorem over_self {L : Items} (hL : Srt L) : overL L L = L := by
  refine srt_ext (srt_over _ _ hL) hL fun x => ?_;rw [mem_over _ _ hL];constructor
  · rintro (a | a)
    · exact a
    · exact a.1
  · exact .inl
theorem total_some (L M : Items) (t : Bool) : total (someL L M t) ≤ total L := total_sub List.filter_sublist
theorem total_over {L M : Items} : total (overL L M) ≤ total L + total M := by
  induction M generalizing L with
  | nil => exact Nat.le_add_right _ _
  | cons x M ih =>
    rw [over_cons, total_cons];have := ih (L := insL L x.1 x.2);have := total_ins L x.1 x.2;omega
theorem over_len_le (L M : Items) : (overL L M).length ≤ L.length + M.length := by
  induction M generalizing L with
  | nil => exact Nat.le_refl _
  | cons x M ih =>
    rw [over_cons, List.length_cons];have := ih (insL L x.1 x.2);have := insL_len L x.1 x.2;omega
end Go.Gz
/- Plain laws: rectangles of tiles; the tiles of a chart that a rule keeps. -/
namespace Go.Gz
/-- a rectangle of tiles -/
structure Rc where
  z : Int
  x0 : Int
  y0 : Int
  x1 : Int
  y1 : Int
abbrev Rcs := List Rc
def rcV (l : Rcs) : List Value := l.flatMap fun r => [.int .i64 r.z, .int .i64 r.x0, .int .i64 r.y0, .int .i64 r.x1, .int .i64 r.y1]
theorem rcV_cons (r : Rc) (l : Rcs) : rcV (r :: l) = .int .i64 r.z :: .int .i64 r.x0 :: .int .i64 r.y0 :: .int .i64 r.x1 :: .int .i64 r.y1 :: rcV l := rfl
theorem rcV_app (a b : Rcs) : rcV (a ++ b) = rcV a ++ rcV b := by simp [rcV]
theorem rcV_len (l : Rcs) : (rcV l).length = l.length * 5 := by
  induction l with
  | nil => rfl
  | cons r t ih => rw [rcV_cons]; simp only [List.length_cons, ih]; omega
theorem rcV_one (l : Rcs) : ∀ u ∈ rcV l, u.oneCell' = true := by
  intro u hu;simp only [rcV, List.mem_flatMap] at hu;obtain ⟨x, _, hx⟩ := hu;simp at hx;rcases hx with rfl | rfl | rfl | rfl | rfl <;> rfl
theorem rcV_get (l : Rcs) : ∀ k (h : k < l.length), (rcV l)[k * 5]? = some (.int .i64 l[k].z) ∧ (rcV l)[k * 5 + 1]? = some (.int .i64 l[k].x0) ∧ (rcV l)[k * 5 + 2]? = some (.int .i64 l[k].y0) ∧ (rcV l)[k * 5 + 3]? = some (.int .i64 l[k].x1) ∧ (rcV l)[k * 5 + 4]? = some (.int .i64 l[k].y1) := by
  induction l with
  | nil => intro k h; simp at h
  | cons r t ih =>
    intro k h;rw [rcV_cons];cases k with
    | zero => exact ⟨rfl, rfl, rfl, rfl, rfl⟩
    | succ k =>
      have := ih k (by simp at h; omega);rw [show (k + 1) * 5 = k * 5 + 1 + 1 + 1 + 1 + 1 by omega];simpa using this
def inR (a b n : Int) : Bool := decide (0 ≤ a) && (decide (a ≤ b) && decide (b < n))
def chkR (r : Rc) : Int := if sideV r.z = 0 then 2 else if inR r.x0 r.x1 (sideV r.z) = true ∧ inR r.y0 r.y1 (sideV r.z) = true then 0 else 8
def hasR (r : Rc) (z x y : Int) : Bool := decide (chkR r = 0) && (decide (z = r.z) && (decide (r.x0 ≤ x) && (decide (x ≤ r.x1) && (decide (r.y0 ≤ y) && decide (y ≤ r.y1)))))
/-- what a rule keeps of a chart -/
def keepL (L : Items) (p : Int → Int → Int → Bool) : Items := L.filter fun x => p (zoomN x.1 : Int) ((tileXY x.1).1 : Int) ((tileXY x.1).2 : Int)
theorem keep_succ (L : Items) (p : Int → Int → Int → Bool) {k : Nat} (hk : k < L.length) : keepL (L.take (k + 1)) p = keepL (L.take k) p ++ (if p (zoomN L[k].1 : Int) ((tileXY L[k].1).1 : Int) ((tileXY L[k].1).2 : Int) = true then [L[k]] else []) := by
  unfold keepL;rw [List.take_succ_eq_append_getElem hk, List.filter_append];by_cases h : p (zoomN L[k].1 : Int) ((tileXY L[k].1).1 : Int) ((tileXY L[k].1).2 : Int) = true
  · simp [h]
  · simp [h]
theorem keep_len (L : Items) (p : Int → Int → Int → Bool) : (keepL L p).length ≤ L.length := List.length_filter_le _ _
theorem good_keep {L : Items} (h : Good L) (p : Int → Int → Int → Bool) : Good (keepL L p) := by
  have hs : List.Sublist (keepL L p) L := List.filter_sublist;exact ⟨srt_sub h.srt hs, Nat.le_trans (keep_len L p) h.len, fun x hx => h.id x (hs.subset hx), fun x hx => h.ne x (hs.subset hx), fun x hx => h.sz x (hs.subset hx)⟩
def anyR (l : Rcs) (z x y : Int) : Bool := l.any fun r => hasR r z x y
end Go.Gz
/- Plain laws: spans of identifiers; joining them. -/
namespace Go.Gz
abbrev Sp := Nat × Nat
abbrev Sps := List Sp
def spV (l : Sps) : List Value := l.flatMap fun s => [.int .u64 (s.1 : Int), .int .u64 (s.2 : Int)]
theorem spV_cons (s : Sp) (l : Sps) : spV (s :: l) = .int .u64 (s.1 : Int) :: .int .u64 (s.2 : Int) :: spV l := rfl
theorem spV_app (a b : Sps) : spV (a ++ b) = spV a ++ spV b := by simp [spV]
theorem spV_len (l : Sps) : (spV l).length = l.length * 2 := by
  induction l with
  | nil => rfl
  | cons s t ih => rw [spV_cons]; simp only [List.length_cons, ih]; omega
theorem spV_one (l : Sps) : ∀ u ∈ spV l, u.oneCell' = true := by
  intro u hu;simp only [spV, List.mem_flatMap] at hu;obtain ⟨x, _, hx⟩ := hu;simp at hx;rcases hx with rfl | rfl <;> rfl
theorem spV_get (l : Sps) : ∀ k (h : k < l.length), (spV l)[k * 2]? = some (.int .u64 (l[k].1 : Int)) ∧ (spV l)[k * 2 + 1]? = some (.int .u64 (l[k].2 : Int)) := by
  induction l with
  | nil => intro k h; simp at h
  | cons s t ih =>
    intro k h;rw [spV_cons];cases k with
    | zero => exact ⟨rfl, rfl⟩
    | succ k =>
      have := ih k (by simp at h; omega);rw [show (k + 1) * 2 = k * 2 + 1 + 1 by omega];simpa using this
theorem spV_set (l : Sps) : ∀ k (h : k < l.length) (v : Nat), (spV l).set (k * 2 + 1) (.int .u64 (v : Int)) = spV (l.set k (l[k].1, v)) := by
  induction l with
  | nil => intro k h; simp at h
  | cons s t ih =>
    intro k h v;cases k with
    | zero => rfl
    | succ k =>
      rw [spV_cons, show (k + 1) * 2 + 1 = (k * 2 + 1) + 1 + 1 by omega, List.set_cons_succ, List.set_cons_succ, List.set_cons_succ, spV_cons];rw [ih k (by simp at h; omega)];rfl
theorem spV_last (pre : Sps) (x : Sp) : (spV (pre ++ [x]))[pre.length * 2]? = some (.int .u64 (x.1 : Int)) ∧ (spV (pre ++ [x]))[pre.length * 2 + 1]? = some (.int .u64 (x.2 : Int)) := by
  have := spV_get (pre ++ [x]) pre.length (by simp);simpa using this
theorem spV_put (pre : Sps) (x : Sp) (v : Nat) : (spV (pre ++ [x])).set (pre.length * 2 + 1) (.int .u64 (v : Int)) = spV (pre ++ [(x.1, v)]) := by
  rw [spV_set (pre ++ [x]) pre.length (by simp) v];simp
/-- one span more: put together with the last one where it begins no later than right behind it -/
def joinL (l : Sps) (s : Sp) : Sps := match l.getLast? with
  | none => [s]
  | some x => if s.1 ≤ x.2 + 1 then l.dropLast ++ [(x.1, max x.2 s.2)] else l ++ [s]
theorem join_nil (s : Sp) : joinL [] s = [s] := rfl
theorem join_snoc (pre : Sps) (x s : Sp) : joinL (pre ++ [x]) s = if s.1 ≤ x.2 + 1 then pre ++ [(x.1, max x.2 s.2)] else pre ++ [x] ++ [s] := by
  unfold joinL;rw [List.getLast?_concat];simp
theorem join_len (l : Sps) (s : Sp) : (joinL l s).length ≤ l.length + 1 := by
  rcases List.eq_nil_or_concat l with rfl | ⟨pre, x, rfl⟩
  · simp [join_nil]
  · rw [List.concat_eq_append, join_snoc];split <;> simp
end Go.Gz
/- Plain laws: each content stands just once. -/
namespace Go.Gz
theorem good_pre {L : Items} {x : Item} (h : Good (L ++ [x])) : Good L := by
  refine ⟨?_, by have := h.len; simp at this; omega, fun y hy => h.id y (by simp [hy]), fun y hy => h.ne y (by simp [hy]), fun y hy => h.sz y (by simp [hy])⟩;have := (srt_iff _).1 h.srt;rw [List.pairwise_append] at this;exact (srt_iff _).2 this.1
theorem rows2_snoc (L : Items) (x : Item) : (rowsL (L ++ [x])).2 = addC (rowsL L).2 x.2 := by rw [rows_snoc]; rfl
theorem rows2_succ {L : Items} {k : Nat} (hk : k < L.length) : (rowsL (L.take (k + 1))).2 = addC (rowsL (L.take k)).2 L[k].2 := by
  rw [List.take_succ_eq_append_getElem hk, rows2_snoc]
theorem rows2_mem (L : Items) (t : Bs) : t ∈ (rowsL L).2 ↔ ∃ x ∈ L, x.2 = t := by
  induction L using snoc_ind with
  | h0 => simp [rowsL]
  | h1 L x ih =>
    rw [rows2_snoc];constructor
    · intro h;unfold addC at h;split at h
      · obtain ⟨y, hy, e⟩ := ih.1 h; exact ⟨y, by simp [hy], e⟩
      · rcases List.mem_append.1 h with h | h
        · obtain ⟨y, hy, e⟩ := ih.1 h; exact ⟨y, by simp [hy], e⟩
        · simp at h; exact ⟨x, by simp, h.symm⟩
    · rintro ⟨y, hy, rfl⟩;rcases List.mem_append.1 hy with hy | hy
      · exact add_sub (ih.2 ⟨y, hy, rfl⟩)
      · simp at hy; subst hy; exact add_mem _ _
theorem rows2_nodup (L : Items) : (rowsL L).2.Nodup := by
  induction L using snoc_ind with
  | h0 => exact List.nodup_nil
  | h1 L x ih => rw [rows2_snoc]; exact add_nodup ih _
/-- charts of the same contents -/
theorem rows2_same {L N : Items} (h : ∀ t, (∃ x ∈ L, x.2 = t) ↔ ∃ x ∈ N, x.2 = t) : (rowsL N).2.length = (rowsL L).2.length ∧ (rowsL N).2.flatten.length = (rowsL L).2.flatten.length := by
  have p : (rowsL N).2.Perm (rowsL L).2 := (List.perm_ext_iff_of_nodup (rows2_nodup N) (rows2_nodup L)).2 (fun t => by rw [rows2_mem, rows2_mem, h]);exact ⟨p.length_eq, p.flatten.length_eq⟩
theorem rows2_put {L : Items} {id : Nat} {s : Bs} (hE : putE L id s = 0) (hm : memL L id = false) (hs : ∃ x ∈ L, x.2 = s) :
    (rowsL (putL L id s)).2.length = (rowsL L).2.length ∧ (rowsL (putL L id s)).2.flatten.length = (rowsL L).2.flatten.length ∧ (putL L id s).length = L.length + 1 := by
  unfold putL;rw [if_pos hE];have hl : (insL L id s).length = L.length + 1 := by rw [ins_len, del_none hm]
  have hmem : ∀ y, y ∈ insL L id s ↔ y = (id, s) ∨ y ∈ L := by
    intro y;refine ⟨mem_ins, fun h => ?_⟩;unfold insL;rw [del_none hm];rcases h with h | h
    · rw [h]; simp
    · rw [← List.takeWhile_append_dropWhile (p := fun x : Item => decide (x.1 < id)) (l := L)] at h;rcases List.mem_append.1 h with h | h
      · exact List.mem_append_left _ h
      · exact List.mem_append_right _ (List.mem_cons_of_mem _ h)
  have := rows2_same (L := L) (N := insL L id s) (fun t => by
    constructor
    · rintro ⟨x, hx, e⟩;exact ⟨x, (hmem x).2 (Or.inr hx), e⟩
    · rintro ⟨x, hx, e⟩;rcases (hmem x).1 hx with h | h
      · rw [h] at e;obtain ⟨y, hy, e2⟩ := hs;exact ⟨y, hy, e2.trans e⟩
      · exact ⟨x, h, e⟩)
  exact ⟨this.1, this.2, hl⟩
/-- the entries tell of each content once -/
theorem seen_rows (L : Items) (h : Good L) (ht : total L ≤ 1099511627776) : seenE (rowsL L).1 = (rowsL L).2.map fun s => (offC (rowsL L).2 s, s.length) := by
  induction L using snoc_ind with
  | h0 => rfl
  | h1 L x ih =>
    have hg := good_pre h;have htt : total (L ++ [x]) = total L + x.2.length := by unfold total; simp
    have ih := ih hg (by omega);obtain ⟨_, _, _, i4, _, i6, _, _⟩ := rows_inv L hg (by omega);obtain ⟨_, _, _, _, _, j6, _, _⟩ := rows_inv (L ++ [x]) h ht;have hx2 := h.ne x (by simp);have hxl : 0 < x.2.length := List.length_pos_iff.2 hx2;rw [rows_snoc] at j6 ⊢;unfold rowsStep at j6 ⊢;simp only at j6 ⊢;generalize hcs : (rowsL L).2 = cs at *;generalize hes : (rowsL L).1 = es at *
    -- what the last one tells
    have hin : (offC (addC cs x.2) x.2, x.2.length) ∈ seenE es → x.2 ∈ cs := by
      intro hm;rw [ih] at hm;obtain ⟨s, hs, he⟩ := List.mem_map.1 hm;apply Classical.byContradiction;intro hn;have h1 : offC (addC cs x.2) x.2 = cs.flatten.length := by unfold addC; rw [if_neg hn]; exact off_new hn
      have h2 := off_end hs;injection he with e1 e2;omega
    have hin2 : x.2 ∈ cs → (offC (addC cs x.2) x.2, x.2.length) ∈ seenE es := by
      intro hm;rw [ih, off_add hm];exact List.mem_map.2 ⟨x.2, hm, rfl⟩
    have hsame : x.2 ∈ cs → (addC cs x.2) = cs := by intro hm; unfold addC; rw [if_pos hm]
    have hnew : x.2 ∉ cs → (addC cs x.2).map (fun s => (offC (addC cs x.2) s, s.length)) = seenE es ++ [(offC (addC cs x.2) x.2, x.2.length)] := by
      intro hm;have e : addC cs x.2 = cs ++ [x.2] := by unfold addC; rw [if_neg hm]
      rw [ih, e, List.map_append];congr 1
      apply List.map_congr_left;intro s hs;rw [off_app hs]
    have hend : seenE (es ++ [itemE cs x]) = (addC cs x.2).map (fun s => (offC (addC cs x.2) s, s.length)) ∨ itemE cs x ∉ pushE es (itemE cs x) := by
      by_cases hmm : itemE cs x ∈ pushE es (itemE cs x)
      · left;obtain ⟨c1, c2, _⟩ := j6 _ hmm;rw [seenE_snoc, if_pos ⟨c1, by omega⟩];show (if (offC (addC cs x.2) x.2, x.2.length) ∈ seenE es then seenE es else seenE es ++ [(offC (addC cs x.2) x.2, x.2.length)]) = _
        by_cases hm : x.2 ∈ cs
        · rw [if_pos (hin2 hm), hsame hm, ih]
        · rw [if_neg (fun g => hm (hin g)), hnew hm]
      · exact Or.inr hmm
    unfold pushE at j6 hend ⊢;cases hb : es.getLast? with
    | none =>
      rw [hb] at hend;have : es = [] := by simpa using hb
      subst this;rcases hend with g | g
      · exact g
      · exact absurd (by simp) g
    | some b =>
      rw [hb] at hend j6;simp only at hend j6 ⊢;by_cases hgo : goesE b (itemE cs x) = true
      · rw [if_pos hgo] at j6 ⊢;obtain ⟨pre, hpre⟩ := List.getLast?_eq_some_iff.1 hb;have hbm := List.mem_of_getLast? hb;obtain ⟨c1, c2, _⟩ := i6 b hbm;obtain ⟨d1, d2, _⟩ := j6 { b with run := b.run + 1 } (by simp);unfold goesE at hgo;simp only [Bool.and_eq_true, decide_eq_true_eq] at hgo;obtain ⟨⟨_, g2⟩, g3⟩ := hgo;have hse : seenE (es.dropLast ++ [{ b with run := b.run + 1 }]) = seenE es := by
          rw [hpre, List.dropLast_concat, seenE_snoc pre b, if_pos ⟨c1, by omega⟩, seenE_snoc pre { b with run := b.run + 1 }, if_pos ⟨d1, by simp⟩]
        have hbi : (b.off, b.len) ∈ seenE es := by
          rw [hpre, seenE_snoc, if_pos ⟨c1, by omega⟩];split
          · assumption
          · simp
        have hm : x.2 ∈ cs := hin (by
          have e1 : offC (addC cs x.2) x.2 = b.off := g2;have e2 : x.2.length = b.len := g3;rw [e1, e2]; exact hbi)
        rw [hse, hsame hm, ih]
      · rw [if_neg hgo] at hend ⊢;rcases hend with g | g
        · exact g
        · exact absurd (by simp) g
theorem cont_rows {L : Items} (h : Good L) (ht : total L ≤ 1099511627776) : contE (rowsL L).1 = (rowsL L).2.length := by
  unfold contE;rw [seen_rows L h ht, List.length_map]
end Go.Gz
