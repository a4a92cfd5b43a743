/- Plain laws: an archive does not hang on the order in which its tiles were put. -/
import Derived.Test.YtjhgaildbeokkaaGreatDoorGT08
import Derived.Test.YtjhgaildbeokkaaGreatDoorGT09
import Derived.Test.YtjhgaildbeokkaaGreatDoorGT07
namespace Go.Gz
theorem del_none {L : Items} {id : Nat} (h : memL L id = false) : delL L id = L := by
  unfold delL;rw [List.filter_eq_self];intro y hy;unfold memL at h;rw [List.any_eq_false] at h;have := h y hy;simpa using this
theorem del_ins {L : Items} {id : Nat} {s : Bs} (h : memL L id = false) : delL (insL L id s) id = L := by
  unfold insL;rw [del_none h];have e : ∀ A B : Items, delL (A ++ (id, s) :: B) id = delL A id ++ delL B id := by
    intro A B;unfold delL;rw [List.filter_append, List.filter_cons, if_neg (by simp)]
  rw [e];have := del_none h;unfold delL at this ⊢;rw [← List.filter_append, List.takeWhile_append_dropWhile, this]
theorem good_nil : Good [] := ⟨by intro i j hi; simp at hi, by simp, by simp, by simp, by simp⟩
theorem wrongE_zero {id : Nat} {s : Bs} {full : Bool} (h : wrongE id s full = 0) : id < 6004799503160661 ∧ s ≠ [] ∧ s.length ≤ 65536 ∧ full = false := by
  unfold wrongE at h;by_cases h1 : 6004799503160661 ≤ id
  · rw [if_pos h1] at h; exact absurd h (by decide)
  rw [if_neg h1] at h;by_cases h2 : s = []
  · rw [if_pos h2] at h; exact absurd h (by decide)
  rw [if_neg h2] at h;by_cases h3 : 65536 < s.length
  · rw [if_pos h3] at h; exact absurd h (by decide)
  rw [if_neg h3] at h;cases full
  · exact ⟨by omega, h2, by omega, rfl⟩
  · exact absurd h (by decide)
theorem good_put {L : Items} (h : Good L) (hl : L.length < 2048) (id : Nat) (s : Bs) : Good (putL L id s) := by
  have hsrt := srt_put (id := id) (s := s) h.srt;have hlen := put_len L id s;unfold putL at hsrt hlen ⊢;split
  · rename_i hE;rw [if_pos hE] at hsrt hlen;have hx : ∀ y ∈ insL L id s, y = (id, s) ∨ y ∈ L := fun y hy => mem_ins hy;obtain ⟨e1, e2, e3, _⟩ := wrongE_zero hE;refine ⟨hsrt, by omega, fun y hy => ?_, fun y hy => ?_, fun y hy => ?_⟩
    · rcases hx y hy with rfl | hy
      · exact e1
      · exact h.id y hy
    · rcases hx y hy with rfl | hy
      · exact e2
      · exact h.ne y hy
    · rcases hx y hy with rfl | hy
      · exact e3
      · exact h.sz y hy
  · exact h
theorem good_own (l : Items) (hl : l.length ≤ 2048) : Good (ownL l) := by
  induction l using snoc_ind with
  | h0 => exact good_nil
  | h1 l a ih =>
    have hl' : l.length + 1 ≤ 2048 := by simpa using hl
    rw [own_snoc];exact good_put (ih (by omega)) (by have := own_len l; omega) _ _
theorem total_app (A B : Items) : total (A ++ B) = total A + total B := by unfold total; rw [List.map_append, List.sum_append]
theorem total_cons (x : Item) (B : Items) : total (x :: B) = x.2.length + total B := by unfold total; rw [List.map_cons, List.sum_cons]
theorem total_sub {A B : Items} (h : List.Sublist A B) : total A ≤ total B := by
  induction h with
  | slnil => exact Nat.le_refl _
  | cons a _ ih => rw [total_cons]; omega
  | cons_cons a _ ih => rw [total_cons, total_cons]; omega
theorem total_ins (L : Items) (id : Nat) (s : Bs) : total (insL L id s) ≤ total L + s.length := by
  unfold insL;rw [total_app, total_cons];have h := total_sub (List.filter_sublist (p := fun x : Item => !(x.1 == id)) (l := L));have h2 := List.takeWhile_append_dropWhile (p := fun x : Item => decide (x.1 < id)) (l := delL L id);have h3 := congrArg total h2;rw [total_app] at h3;have h4 : total (delL L id) ≤ total L := h;show total _ + (s.length + total (List.dropWhile (fun x : Item => decide (x.1 < id)) (delL L id))) ≤ _
  have h5 : total (List.dropWhile (fun x : Item => decide (x.1 < id)) (delL L id)) = total (List.dropWhile (fun x => decide (x.1 < id)) (delL L id)) := rfl;omega
theorem total_put (L : Items) (id : Nat) (s : Bs) : total (putL L id s) ≤ total L + s.length := by
  unfold putL; split
  · exact total_ins L id s
  · omega
theorem total_own (l : Items) : total (ownL l) ≤ sumL l := by
  induction l using snoc_ind with
  | h0 => exact Nat.le_refl _
  | h1 l a ih =>
    rw [own_snoc];have := total_put (ownL l) a.1 a.2;have h : sumL (l ++ [a]) = sumL l + a.2.length := by unfold sumL; rw [List.map_append, List.sum_append]; simp
    omega
/-- items that a chart may be made of: no identifier twice, each may be put -/
structure Fit (L : Items) : Prop where
  nd : (L.map (·.1)).Nodup
  ok : ∀ x ∈ L, wrongE x.1 x.2 false = 0
theorem good_fit {L : Items} (h : Good L) : Fit L := by
  refine ⟨?_, fun x hx => ?_⟩
  · have h1 := (srt_iff L).1 h.srt;unfold List.Nodup;rw [List.pairwise_map];exact h1.imp (fun h => by omega)
  · have h1 := h.id x hx;have h2 := h.ne x hx;have h3 := h.sz x hx;unfold wrongE;rw [if_neg (by omega), if_neg h2, if_neg (by omega)];rfl
theorem fit_perm {L M : Items} (h : Fit L) (p : M.Perm L) : Fit M := by
  refine ⟨?_, fun x hx => h.ok x (p.subset hx)⟩;exact (p.map _).nodup_iff.2 h.nd
theorem srt_perm {L M : Items} (hL : Srt L) (hM : Srt M) (p : M.Perm L) : M = L := by
  rw [srt_iff] at hL hM;refine p.eq_of_pairwise (le := fun a b : Item => a.1 < b.1) (fun a b _ _ h1 h2 => by omega) hM hL
theorem rot_perm (L : Items) (k : Nat) : (L.drop k ++ L.take k).Perm L := by
  have h := List.perm_append_comm (l₁ := L.drop k) (l₂ := L.take k);rwa [List.take_append_drop] at h
end Go.Gz
/- Plain laws: charts over each other, and what of one the other has. -/
namespace Go.Gz
/-- the tiles of one chart that another one has, or has not -/
def someL (L M : Items) (t : Bool) : Items := L.filter fun x => memL M x.1 == t
theorem mem_memL {L : Items} {x : Item} (h : x ∈ L) : memL L x.1 = true := by
  unfold memL; rw [List.any_eq_true]; exact ⟨x, h, by simp⟩
theorem memL_iff {L : Items} {id : Nat} : memL L id = true ↔ ∃ x ∈ L, x.1 = id := by
  unfold memL; rw [List.any_eq_true]; simp
theorem memL_false {L : Items} {id : Nat} : memL L id = false ↔ ∀ x ∈ L, x.1 ≠ id := by
  rw [← Bool.not_eq_true, memL_iff];exact ⟨fun h x hx e => h ⟨x, hx, e⟩, fun h ⟨x, hx, e⟩ => h x hx e⟩
theorem mem_some {L M : Items} {t : Bool} {x : Item} : x ∈ someL L M t ↔ x ∈ L ∧ memL M x.1 = t := by
  unfold someL; rw [List.mem_filter]; simp
theorem srt_nodup {L : Items} (h : Srt L) : L.Nodup := by
  rw [srt_iff] at h;exact h.imp fun h e => by rw [e] at h; omega
theorem srt_sub {L M : Items} (h : Srt L) (s : List.Sublist M L) : Srt M := by
  rw [srt_iff] at h ⊢;exact h.sublist s
theorem srt_some {L : Items} (h : Srt L) (M : Items) (t : Bool) : Srt (someL L M t) := srt_sub h (List.filter_sublist)
/-- sorted items with the same members are the same -/
theorem srt_ext {A B : Items} (hA : Srt A) (hB : Srt B) (h : ∀ x, x ∈ A ↔ x ∈ B) : A = B :=
  (srt_perm hA hB ((List.perm_ext_iff_of_nodup (srt_nodup hB) (srt_nodup hA)).2 fun x => (h x).symm)).symm
theorem srt_inj {L : Items} (h : Srt L) {x y : Item} (hx : x ∈ L) (hy : y ∈ L) (e : x.1 = y.1) : x = y := by
  obtain ⟨i, hi, rfl⟩ := List.getElem_of_mem hx;obtain ⟨j, hj, rfl⟩ := List.getElem_of_mem hy;rcases Nat.lt_trichotomy i j with g | g | g
  · have := h i j hi hj g; omega
  · subst g; rfl
  · have := h j i hj hi g; omega
theorem mem_insL {L : Items} {id : Nat} {s : Bs} {x : Item} : x ∈ insL L id s ↔ x = (id, s) ∨ (x ∈ L ∧ x.1 ≠ id) := by
  have h : x ∈ insL L id s ↔ x = (id, s) ∨ x ∈ delL L id := by
    unfold insL;rw [List.mem_append, List.mem_cons];have e : x ∈ delL L id ↔ x ∈ (delL L id).takeWhile (fun x => decide (x.1 < id)) ∨ x ∈ (delL L id).dropWhile (fun x => decide (x.1 < id)) := by
      rw [← List.mem_append, List.takeWhile_append_dropWhile]
    rw [e];constructor
    · rintro (a | a | a)
      · exact .inr (.inl a)
      · exact .inl a
      · exact .inr (.inr a)
    · rintro (a | a | a)
      · exact .inr (.inl a)
      · exact .inl a
      · exact .inr (.inr a)
  rw [h];unfold delL;rw [List.mem_filter];simp
/-- one chart laid over another one -/
def overL (L M : Items) : Items := M.foldl (fun r x => insL r x.1 x.2) L
theorem over_cons (L : Items) (x : Item) (M : Items) : overL L (x :: M) = overL (insL L x.1 x.2) M := rfl
theorem srt_over : ∀ (M L : Items), Srt L → Srt (overL L M)
  | [], _, h => h
  | x :: M, L, h => by rw [over_cons]; exact srt_over M _ (srt_ins x.1 x.2 L h)
theorem mem_over : ∀ (M L : Items), Srt M → ∀ {x : Item}, x ∈ overL L M ↔ x ∈ M ∨ (x ∈ L ∧ memL M x.1 = false)
  | [], L, _, x => by
    show x ∈ L ↔ _
    simp [memL]
  | y :: M, L, h, x => by
    have h0 := (srt_iff _).1 h;have h1 := (List.pairwise_cons.1 h0);rw [over_cons, mem_over M _ ((srt_iff _).2 h1.2), mem_insL];have hy : memL M y.1 = false := memL_false.2 fun z hz e => by have := h1.1 z hz; omega
    have e : memL (y :: M) x.1 = (y.1 == x.1 || memL M x.1) := by unfold memL; rw [List.any_cons]
    rw [e, Bool.or_eq_false_iff, List.mem_cons];constructor
    · rintro (a | ⟨a | a, b⟩)
      · exact .inl (.inr a)
      · exact .inl (.inl a)
      · exact .inr ⟨a.1, by simp; omega, b⟩
    · rintro ((a | a) | ⟨a, b, c⟩)
      · subst a; exact .inr ⟨.inl rfl, hy⟩
      · exact .inl a
      · exact .inr ⟨.inr ⟨a, by simp at b; omega⟩, c⟩
theorem memL_over {L M : Items} (h : Srt M) (id : Nat) : memL (overL L M) id = (memL M id || memL L id) := by
  rw [Bool.eq_iff_iff, Bool.or_eq_true, memL_iff, memL_iff, memL_iff];constructor
  · rintro ⟨x, hx, e⟩;rcases (mem_over M L h).1 hx with a | a
    · exact .inl ⟨x, a, e⟩
    · exact .inr ⟨x, a.1, e⟩
  · rintro (⟨x, hx, e⟩ | ⟨x, hx, e⟩)
    · exact ⟨x, (mem_over M L h).2 (.inl hx), e⟩
    · by_cases g : memL M x.1 = true
      · obtain ⟨y, hy, f⟩ := memL_iff.1 g;exact ⟨y, (mem_over M L h).2 (.inl hy), by omega⟩
      · exact ⟨x, (mem_over M L h).2 (.inr ⟨hx, by simpa using g⟩), e⟩
theorem memL_some (L M : Items) (t : Bool) (id : Nat) : memL (someL L M t) id = (memL L id && (memL M id == t)) := by
  rw [Bool.eq_iff_iff, Bool.and_eq_true, memL_iff, memL_iff];constructor
  · rintro ⟨x, hx, e⟩;obtain ⟨a, b⟩ := mem_some.1 hx;exact ⟨⟨x, a, e⟩, by rw [← e, b]; simp⟩
  · rintro ⟨⟨x, hx, e⟩, b⟩;exact ⟨x, mem_some.2 ⟨hx, by rw [e]; simpa using b⟩, e⟩
/-- what the program makes: the rest and the other one, in order -/
theorem over_perm {L M : Items} (hL : Srt L) (hM : Srt M) : (overL L M).Perm (someL L M false ++ M) := by
  refine (List.perm_ext_iff_of_nodup (srt_nodup (srt_over M L hL)) ?_).2 fun x => ?_
  · rw [List.nodup_append];refine ⟨srt_nodup (srt_some hL M false), srt_nodup hM, ?_⟩;rintro x hx y hy rfl;have := (mem_some.1 hx).2;rw [mem_memL hy] at this;cases this
  · rw [mem_over M L hM, List.mem_append, mem_some];exact Or.comm
theorem over_len {L M : Items} (hL : Srt L) (hM : Srt M) : (overL L M).length = (someL L M false).length + M.length := by
  rw [(over_perm hL hM).length_eq, List.length_append]
theorem over_sorted {L M N : Items} (hL : Srt L) (hM : Srt M) (hN : Srt N) (p : N.Perm (someL L M false ++ M)) : N = overL L M :=
  srt_perm (srt_over M L hL) hN (p.trans (over_perm hL hM).symm)
theorem some_len (L M : Items) (t : Bool) : (someL L M t).length ≤ L.length := List.length_filter_le _ _
theorem some_sum (L M : Items) : (someL L M false).length + (someL L M true).length = L.length := by
  unfold someL;induction L with
  | nil => rfl
  | cons x r ih =>
    rw [List.filter_cons, List.filter_cons, List.length_cons];cases memL M x.1
    · rw [if_pos (by rfl), if_neg (by decide), List.length_cons]; omega
    · rw [if_neg (by decide), if_pos (by rfl), List.length_cons]; omega
theorem good_some {L : Items} (h : Good L) (M : Items) (t : Bool) : Good (someL L M t) := by
  have hs : List.Sublist (someL L M t) L := List.filter_sublist;exact ⟨srt_some h.srt M t, Nat.le_trans (some_len L M t) h.len, fun x hx => h.id x (hs.subset hx), fun x hx => h.ne x (hs.subset hx), fun x hx => h.sz x (hs.subset hx)⟩
theorem good_over {L M : Items} (hL : Good L) (hM : Good M) (hl : (someL L M false).length + M.length ≤ 2048) : Good (overL L M) := by
  have hs := over_len hL.srt hM.srt;refine ⟨srt_over M L hL.srt, by omega, fun x hx => ?_, fun x hx => ?_, fun x hx => ?_⟩;all_goals
    rcases (mem_over M L hM.srt).1 hx with a | a
  · exact hM.id x a
  · exact hL.id x a.1
  · exact hM.ne x a
  · exact hL.ne x a.1
  · exact hM.sz x a
  · exact hL.sz x a.1
theorem fit_over {L M : Items} (hL : Good L) (hM : Good M) : Fit (someL L M false ++ M) := by
  refine ⟨?_, fun x hx => ?_⟩
  · rw [List.map_append, List.nodup_append];refine ⟨(good_fit (good_some hL M false)).nd, (good_fit hM).nd, ?_⟩;rintro a ha b hb rfl;obtain ⟨x, hx, rfl⟩ := List.mem_map.1 ha;obtain ⟨y, hy, e⟩ := List.mem_map.1 hb;have h1 := (mem_some.1 hx).2;rw [← e, mem_memL hy] at h1;cases h1
  · rcases List.mem_append.1 hx with a | a
    · exact (good_fit (good_some hL M false)).ok x a
    · exact (good_fit hM).ok x a
/-- the reference's way: one put behind the other -/
theorem putL_ins {L : Items} {x : Item} (hx : wrongE x.1 x.2 false = 0) (hl : L.length < 2048) : putE L x.1 x.2 = 0 ∧ putL L x.1 x.2 = insL L x.1 x.2 := by
  have h : putE L x.1 x.2 = 0 := by
    unfold putE;have e : (!(getL L x.1).isSome && decide (2048 ≤ L.length)) = false := by
      rw [show decide (2048 ≤ L.length) = false from decide_eq_false (by omega), Bool.and_false]
    rw [e]; exact hx
  exact ⟨h, by unfold putL; rw [if_pos h]⟩
theorem insL_len (L : Items) (id : Nat) (s : Bs) : (insL L id s).length ≤ L.length + 1 := by
  rw [ins_len]; have := del_len L id; omega
/-- laws of parts -/
theorem over_parts {L M : Items} (hL : Srt L) : overL (someL L M false) (someL L M true) = L := by
  refine srt_ext (srt_over _ _ (srt_some hL M false)) hL fun x => ?_;rw [mem_over _ _ (srt_some hL M true), mem_some, mem_some, memL_some];constructor
  · rintro (a | a)
    · exact a.1
    · exact a.1.1
  · intro a;cases hm : memL M x.1
    · exact .inr ⟨⟨a, rfl⟩, by simp⟩
    · exact .inl ⟨a, rfl⟩
theorem over_only {L M : Items} (hL : Srt L) (hM : Srt M) : overL (someL L M false) M = overL L M := by
  refine srt_ext (srt_over _ _ (srt_some hL M false)) (srt_over _ _ hL) fun x => ?_;rw [mem_over _ _ hM, mem_over _ _ hM, mem_some];constructor
  · rintro (a | a)
    · exact .inl a
    · exact .inr ⟨a.1.1, a.2⟩
  · rintro (a | a)
    · exact .inl a
    · exact .inr ⟨⟨a.1, a.2⟩, a.2⟩
theorem some_only (L M : Items) : someL (someL L M false) M false = someL L M false := by
  unfold someL;rw [List.filter_filter];simp
theorem some_parts (L M : Items) : someL (someL L M false) (someL L M true) false = someL L M false := by
  show List.filter _ (someL L M false) = _
  rw [List.filter_eq_self];intro x hx;have := (mem_some.1 hx).2;rw [memL_some, this]; simp
theorem over_assoc {A B C : Items} (hA : Srt A) (hB : Srt B) (hC : Srt C) : overL (overL A B) C = overL A (overL B C) := by
  refine srt_ext (srt_over _ _ (srt_over _ _ hA)) (srt_over _ _ hA) fun x => ?_;rw [mem_over _ _ hC, mem_over _ _ hB, mem_over _ _ (srt_over _ _ hB), mem_over _ _ hC, memL_over hC, Bool.or_eq_false_iff];constructor
  · rintro (a | ⟨a | a, b⟩)
    · exact .inl (.inl a)
    · exact .inl (.inr ⟨a, b⟩)
    · exact .inr ⟨a.1, b, a.2⟩
  · rintro ((a | a) | ⟨a, b, c⟩)
    · exact .inl a
    · exact .inr ⟨.inl a.1, a.2⟩
    · exact .inr ⟨.inr ⟨a, c⟩, b⟩
theorem over_self {L : Items} (hL : Srt L) : overL L L = L := by
  refine srt_ext (srt_over _ _ hL) hL fun x => ?_;rw [mem_over _ _ hL];constructor
  · rintro (a | a)
    · exact a
    · exact a.1
  · exact .inl
theorem total_some (L M : Items) (t : Bool) : total (someL L M t) ≤ total L := total_sub List.filter_sublist
theorem total_over {L M : Items} : total (overL L M) ≤ total L + total M := by
  induction M generalizing L with
  | nil => exact Nat.le_add_right _ _
  | cons x M ih =>
    rw [over_cons, total_cons];have := ih (L := insL L x.1 x.2);have := total_ins L x.1 x.2;omega
theorem over_len_le (L M : Items) : (overL L M).length ≤ L.length + M.length := by
  induction M generalizing L with
  | nil => exact Nat.le_refl _
  | cons x M ih =>
    rw [over_cons, List.length_cons];have := ih (insL L x.1 x.2);have := insL_len L x.1 x.2;omega
end Go.Gz
/- Plain laws: rectangles of tiles; the tiles of a chart that a rule keeps. -/
namespace Go.Gz
/-- a rectangle of tiles -/
structure Rc where
  z : Int
  x0 : Int
  y0 : Int
  x1 : Int
  y1 : Int
abbrev Rcs := List Rc
def rcV (l : Rcs) : List Value := l.flatMap fun r => [.int .i64 r.z, .int .i64 r.x0, .int .i64 r.y0, .int .i64 r.x1, .int .i64 r.y1]
theorem rcV_cons (r : Rc) (l : Rcs) : rcV (r :: l) = .int .i64 r.z :: .int .i64 r.x0 :: .int .i64 r.y0 :: .int .i64 r.x1 :: .int .i64 r.y1 :: rcV l := rfl
theorem rcV_app (a b : Rcs) : rcV (a ++ b) = rcV a ++ rcV b := by simp [rcV]
theorem rcV_len (l : Rcs) : (rcV l).length = l.length * 5 := by
  induction l with
  | nil => rfl
  | cons r t ih => rw [rcV_cons]; simp only [List.length_cons, ih]; omega
theorem rcV_one (l : Rcs) : ∀ u ∈ rcV l, u.oneCell' = true := by
  intro u hu;simp only [rcV, List.mem_flatMap] at hu;obtain ⟨x, _, hx⟩ := hu;simp at hx;rcases hx with rfl | rfl | rfl | rfl | rfl <;> rfl
theorem rcV_get (l : Rcs) : ∀ k (h : k < l.length), (rcV l)[k * 5]? = some (.int .i64 l[k].z) ∧ (rcV l)[k * 5 + 1]? = some (.int .i64 l[k].x0) ∧ (rcV l)[k * 5 + 2]? = some (.int .i64 l[k].y0) ∧ (rcV l)[k * 5 + 3]? = some (.int .i64 l[k].x1) ∧ (rcV l)[k * 5 + 4]? = some (.int .i64 l[k].y1) := by
  induction l with
  | nil => intro k h; simp at h
  | cons r t ih =>
    intro k h;rw [rcV_cons];cases k with
    | zero => exact ⟨rfl, rfl, rfl, rfl, rfl⟩
    | succ k =>
      have := ih k (by simp at h; omega);rw [show (k + 1) * 5 = k * 5 + 1 + 1 + 1 + 1 + 1 by omega];simpa using this
def inR (a b n : Int) : Bool := decide (0 ≤ a) && (decide (a ≤ b) && decide (b < n))
def chkR (r : Rc) : Int := if sideV r.z = 0 then 2 else if inR r.x0 r.x1 (sideV r.z) = true ∧ inR r.y0 r.y1 (sideV r.z) = true then 0 else 8
def hasR (r : Rc) (z x y : Int) : Bool := decide (chkR r = 0) && (decide (z = r.z) && (decide (r.x0 ≤ x) && (decide (x ≤ r.x1) && (decide (r.y0 ≤ y) && decide (y ≤ r.y1)))))
/-- what a rule keeps of a chart -/
def keepL (L : Items) (p : Int → Int → Int → Bool) : Items := L.filter fun x => p (zoomN x.1 : Int) ((tileXY x.1).1 : Int) ((tileXY x.1).2 : Int)
theorem keep_succ (L : Items) (p : Int → Int → Int → Bool) {k : Nat} (hk : k < L.length) : keepL (L.take (k + 1)) p = keepL (L.take k) p ++ (if p (zoomN L[k].1 : Int) ((tileXY L[k].1).1 : Int) ((tileXY L[k].1).2 : Int) = true then [L[k]] else []) := by
  unfold keepL;rw [List.take_succ_eq_append_getElem hk, List.filter_append];by_cases h : p (zoomN L[k].1 : Int) ((tileXY L[k].1).1 : Int) ((tileXY L[k].1).2 : Int) = true
  · simp [h]
  · simp [h]
theorem keep_len (L : Items) (p : Int → Int → Int → Bool) : (keepL L p).length ≤ L.length := List.length_filter_le _ _
theorem good_keep {L : Items} (h : Good L) (p : Int → Int → Int → Bool) : Good (keepL L p) := by
  have hs : List.Sublist (keepL L p) L := List.filter_sublist;exact ⟨srt_sub h.srt hs, Nat.le_trans (keep_len L p) h.len, fun x hx => h.id x (hs.subset hx), fun x hx => h.ne x (hs.subset hx), fun x hx => h.sz x (hs.subset hx)⟩
def anyR (l : Rcs) (z x y : Int) : Bool := l.any fun r => hasR r z x y
end Go.Gz
/- Plain laws: spans of identifiers; joining them. -/
namespace Go.Gz
abbrev Sp := Nat × Nat
abbrev Sps := List Sp
def spV (l : Sps) : List Value := l.flatMap fun s => [.int .u64 (s.1 : Int), .int .u64 (s.2 : Int)]
theorem spV_cons (s : Sp) (l : Sps) : spV (s :: l) = .int .u64 (s.1 : Int) :: .int .u64 (s.2 : Int) :: spV l := rfl
theorem spV_app (a b : Sps) : spV (a ++ b) = spV a ++ spV b := by simp [spV]
theorem spV_len (l : Sps) : (spV l).length = l.length * 2 := by
  induction l with
  | nil => rfl
  | cons s t ih => rw [spV_cons]; simp only [List.length_cons, ih]; omega
theorem spV_one (l : Sps) : ∀ u ∈ spV l, u.oneCell' = true := by
  intro u hu;simp only [spV, List.mem_flatMap] at hu;obtain ⟨x, _, hx⟩ := hu;simp at hx;rcases hx with rfl | rfl <;> rfl
theorem spV_get (l : Sps) : ∀ k (h : k < l.length), (spV l)[k * 2]? = some (.int .u64 (l[k].1 : Int)) ∧ (spV l)[k * 2 + 1]? = some (.int .u64 (l[k].2 : Int)) := by
  induction l with
  | nil => intro k h; simp at h
  | cons s t ih =>
    intro k h;rw [spV_cons];cases k with
    | zero => exact ⟨rfl, rfl⟩
    | succ k =>
      have := ih k (by simp at h; omega);rw [show (k + 1) * 2 = k * 2 + 1 + 1 by omega];simpa using this
theorem spV_set (l : Sps) : ∀ k (h : k < l.length) (v : Nat), (spV l).set (k * 2 + 1) (.int .u64 (v : Int)) = spV (l.set k (l[k].1, v)) := by
  induction l with
  | nil => intro k h; simp at h
  | cons s t ih =>
    intro k h v;cases k with
    | zero => rfl
    | succ k =>
      rw [spV_cons, show (k + 1) * 2 + 1 = (k * 2 + 1) + 1 + 1 by omega, List.set_cons_succ, List.set_cons_succ, List.set_cons_succ, spV_cons];rw [ih k (by simp at h; omega)];rfl
theorem spV_last (pre : Sps) (x : Sp) : (spV (pre ++ [x]))[pre.length * 2]? = some (.int .u64 (x.1 : Int)) ∧ (spV (pre ++ [x]))[pre.length * 2 + 1]? = some (.int .u64 (x.2 : Int)) := by
  have := spV_get (pre ++ [x]) pre.length (by simp);simpa using this
theorem spV_put (pre : Sps) (x : Sp) (v : Nat) : (spV (pre ++ [x])).set (pre.length * 2 + 1) (.int .u64 (v : Int)) = spV (pre ++ [(x.1, v)]) := by
  rw [spV_set (pre ++ [x]) pre.length (by simp) v];simp
/-- one span more: put together with the last one where it begins no later than right behind it -/
def joinL (l : Sps) (s : Sp) : Sps := match l.getLast? with
  | none => [s]
  | some x => if s.1 ≤ x.2 + 1 then l.dropLast ++ [(x.1, max x.2 s.2)] else l ++ [s]
theorem join_nil (s : Sp) : joinL [] s = [s] := rfl
theorem join_snoc (pre : Sps) (x s : Sp) : joinL (pre ++ [x]) s = if s.1 ≤ x.2 + 1 then pre ++ [(x.1, max x.2 s.2)] else pre ++ [x] ++ [s] := by
  unfold joinL;rw [List.getLast?_concat];simp
theorem join_len (l : Sps) (s : Sp) : (joinL l s).length ≤ l.length + 1 := by
  rcases List.eq_nil_or_concat l with rfl | ⟨pre, x, rfl⟩
  · simp [join_nil]
  · rw [List.concat_eq_append, join_snoc];split <;> simp
end Go.Gz
/- Plain laws: parts of parts of a chart. -/
namespace Go.Gz
theorem keep_comm (L : Items) (p q : Int → Int → Int → Bool) : keepL (keepL L p) q = keepL (keepL L q) p := by
  unfold keepL;rw [List.filter_filter, List.filter_filter];congr 1
  funext x
  exact Bool.and_comm _ _
theorem keep_self (L : Items) (p : Int → Int → Int → Bool) : keepL (keepL L p) p = keepL L p := by
  unfold keepL;rw [List.filter_filter];congr 1
  funext x
  exact Bool.and_self _
theorem any_app (a b : Rcs) (z x y : Int) : anyR (a ++ b) z x y = (anyR a z x y || anyR b z x y) := List.any_append
theorem keep_or_len (L : Items) (p q r : Int → Int → Int → Bool) (h : ∀ z x y, r z x y = (p z x y || q z x y)) : (keepL L r).length ≤ (keepL L p).length + (keepL L q).length := by
  induction L with
  | nil => simp [keepL]
  | cons s t ih =>
    unfold keepL at *;simp only [List.filter_cons, h] at *;cases p (zoomN s.1 : Int) ((tileXY s.1).1 : Int) ((tileXY s.1).2 : Int) <;> cases q (zoomN s.1 : Int) ((tileXY s.1).1 : Int) ((tileXY s.1).2 : Int) <;> simp <;> omega
/-- an item's own place in a rule -/
def itR (p : Int → Int → Int → Bool) (x : Item) : Bool := p (zoomN x.1 : Int) ((tileXY x.1).1 : Int) ((tileXY x.1).2 : Int)
theorem get_no (L : Items) (id : Nat) (h : ∀ x ∈ L, x.1 ≠ id) : getL L id = none := by
  induction L with
  | nil => rfl
  | cons s t ih =>
    unfold getL;rw [if_neg (h s (by simp)), ih fun x hx => h x (by simp [hx])]
theorem get_keepP (p : Int → Int → Int → Bool) : ∀ (L : Items), L.Pairwise (fun a b => a.1 < b.1) → ∀ x ∈ L, getL (keepL L p) x.1 = if itR p x = true then some x.2 else none
  | [], _, x, hx => by simp at hx
  | s :: t, hs, x, hx => by
    rw [List.pairwise_cons] at hs;have hk : keepL (s :: t) p = if itR p s = true then s :: keepL t p else keepL t p := List.filter_cons
    have hne : ∀ y ∈ keepL t p, y.1 ≠ s.1 := fun y hy => by
      have := hs.1 y (List.mem_filter.1 (show y ∈ List.filter _ t from hy)).1; omega
    rw [hk];rcases List.mem_cons.1 hx with rfl | hx
    · by_cases h : itR p x = true
      · rw [if_pos h, if_pos h]; unfold getL; rw [if_pos rfl]
      · rw [if_neg h, if_neg h, get_no _ _ hne]
    · have ih := get_keepP p t hs.2 x hx;have hl := hs.1 x hx;by_cases h : itR p s = true
      · rw [if_pos h]; unfold getL; rw [if_neg (by omega)]; exact ih
      · rw [if_neg h]; exact ih
theorem get_keep {L : Items} (hs : Srt L) (p : Int → Int → Int → Bool) {k : Nat} (hk : k < L.length) : getL (keepL L p) L[k].1 = if itR p L[k] = true then some L[k].2 else none :=
  get_keepP p L (List.pairwise_iff_getElem.2 fun i j hi hj h => hs i j hi hj h) _ (List.getElem_mem hk)
end Go.Gz
/- Walks: gazetteerlaw12.Back, gazetteerref12.Same. -/
namespace Go.Proofs.YtjhgaildbeokkaaGreatDoor
open Go.RowKit Go.Gz Go.Shelf

set_option maxRecDepth 100000
set_option maxHeartbeats 1000000 in
theorem back12_any (L : Items) (hl : L.length ≤ 100000) (A : Option Addr) (c : Nat) (w : World) (hr : Rd w 2 A L.length c (itV L)) :
    Calls Tryz.prog 28 #[.slice A L.length c] w (DelEnd w L) := by
  obtain ⟨i0, hi, hz0, hz1, hz2⟩ := info_parts infoIt;have HR := Lib.hid hr;clear hr;go_enter Tryz.func28, Tryz.ntmps28;go_wp2_with fail;go_loopg [3, 4] L.length (fun gk v i wr => ∃ k : Nat, k + gk = L.length ∧ i = .int .i64 k ∧ OwnR wr w.heap.size v (L.take k) ∧ Up w wr)
  case atStart => exact ⟨0, by omega, rfl, World.ownsRow_nil _ _ _ _, Up.refl w⟩
  case round =>
    obtain ⟨k, hk, rfl, ho, hu⟩ := hrel;have HO := Lib.hid ho;have HU := Lib.hid hu;clear ho;by_cases hlt : k < L.length
    · obtain ⟨m, rfl⟩ : ∃ m, gk = m + 1 := ⟨gk - 1, by omega⟩;have hd : L.take (k + 1) = L.take k ++ [L[k]] := List.take_succ_eq_append_getElem hlt;obtain ⟨B, o, rfl, hc1, hc2⟩ := (HR.out.up hu).item hlt;obtain ⟨⟨xid, xt⟩, hx⟩ : ∃ x, L[k]'hlt = x := ⟨_, rfl⟩;rw [hx] at hc1 hc2 hd;simp only at hc1 hc2;have hltI : (k : Int) < (L.length : Int) := by omega
      have hml : (L.take k).length ≤ k := by rw [List.length_take]; omega
      have HD := Lib.hid hd;clear hx hu hd;go_wp2_with (at_builtin; refine app_one wr rfl _ _ 22 rfl w.heap.size 100 i0 _ 2 24 Tryz.underlying22 hi hz0 hz1 hz2 rfl (by decide) _ _ _ HO.out rfl #[.int .u64 xid, .string ⟨xt.toArray⟩] rfl rfl (by simp [Value.oneCell']) (by omega) (by omega) (by have := HU.out.le; omega) ?_; intro v3 w3 ho3 hg3 hb3)
      go_roundg m
      case measure => omega
      case rel =>
        refine ⟨k + 1, by omega, by go_num, ?_, Up.of (Below.trans HU.out.below hb3)⟩;rw [HD.out];unfold OwnR;rw [itV_app, List.length_append];exact ho3
    · obtain rfl : k = L.length := by omega
      have hO := HO.out;rw [List.take_length] at hO;have HO2 := Lib.hid hO;clear hO hu hlt;go_wp2_with fail;go_ret;exact ⟨_, rfl, HO2.out, HU.out⟩
set_option maxHeartbeats 4000000 in
theorem rsame12_any (M : Items) (hl : M.length ≤ 1000000) (A1 : Option Addr) (c1 : Nat) (A2 : Option Addr) (c2 : Nat) (w : World) (h1 : Rd w 2 A1 M.length c1 (itV M)) (h2 : Rd w 2 A2 M.length c2 (itV M)) :
    Calls Tryz.prog 27 #[.slice A1 M.length c1, .slice A2 M.length c2] w fun e w' => e = .returned (.bool true) ∧ Up w w' := by
  have HR1 := Lib.hid h1;have HR2 := Lib.hid h2;clear h1 h2;go_enter Tryz.func27, Tryz.ntmps27;go_wp2_with fail;go_loopg [5] M.length (fun gk i wr => ∃ k : Nat, k + gk = M.length ∧ i = .int .i64 (k : Int) ∧ Up w wr)
  case atStart => exact ⟨0, by omega, rfl, Up.refl w⟩
  case round =>
    obtain ⟨k, hk, rfl, hu⟩ := hrel;by_cases hlt : k < M.length
    · obtain ⟨m, rfl⟩ : ∃ x, gk = x + 1 := ⟨gk - 1, by omega⟩;obtain ⟨b1, o1, rfl, p0, p1⟩ := (HR1.out.up hu).item hlt;obtain ⟨b2, o2, rfl, q0, q1⟩ := (HR2.out.up hu).item hlt;obtain ⟨⟨n, t⟩, hx⟩ : ∃ x, M[k] = x := ⟨_, rfl⟩;rw [hx] at p0 p1 q0 q1;simp only at p0 p1 q0 q1;have HU := Lib.hid hu;have kI : (k : Int) < (M.length : Int) := by omega
      clear hx hu;go_wp2_with fail;refine wp_region_held_drew (S := fun w' => (w'.cell? ⟨b1, o1 + k * 2, none⟩ = some (.int .u64 (n : Int)) ∧ w'.cell? ⟨b1, o1 + k * 2 + 1, none⟩ = some (.string ⟨t.toArray⟩) ∧ w'.cell? ⟨b2, o2 + k * 2, none⟩ = some (.int .u64 (n : Int)) ∧ w'.cell? ⟨b2, o2 + k * 2 + 1, none⟩ = some (.string ⟨t.toArray⟩))) (by kernel_rfl) ⟨p0, p1, q0, q1⟩ (fun hHeld => ?_);refine tk 0 rfl ?_;(try simp only [Act.put, tz1, tz2, tz3]);refine tk 1 rfl ?_;(try simp only [Act.put, tz1, tz2, tz3]);refine tk 2 rfl ?_;(try simp only [Act.put, tz1, tz2, tz3]);refine tk 3 rfl ?_;(try simp only [Act.put, tz1, tz2, tz3]);refine tk 4 rfl ?_;(try simp only [Act.put, tz1, tz2, tz3]);refine tk 5 rfl ?_;(try simp only [Act.put, tz1, tz2, tz3]);refine tk 6 rfl ?_;(try simp only [Act.put, tz1, tz2, tz3]);refine tk 7 rfl ?_;(try simp only [Act.put, tz1, tz2, tz3]);refine tk 8 rfl ?_;(try simp only [Act.put, tz1, tz2, tz3]);refine wpAnyH_done (by kernel_rfl) ?_ _;clear hHeld;go_wp2_with fail;go_roundg m
      case measure => omega
      case rel => exact ⟨k + 1, by omega, by go_num, HU.out.drew⟩
    · obtain rfl : k = M.length := by omega
      obtain rfl : gk = 0 := by omega
      have kI : ¬ (M.length : Int) < (M.length : Int) := by omega
      go_wp2_with fail;go_ret;exact ⟨rfl, hu⟩
end Go.Proofs.YtjhgaildbeokkaaGreatDoor
