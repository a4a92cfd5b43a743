/- Plain laws: an archive does not hang on the order in which its tiles were put. -/
import Derived.Test.YtcfmidmokciofaaGreatDoorKG06
import Derived.Test.YtcfmidmokciofaaGreatDoorKG07
namespace Go.Gz
theorem del_none {L : Items} {id : Nat} (h : memL L id = false) : delL L id = L := by
  unfold delL;rw [List.filter_eq_self];intro y hy;unfold memL at h;rw [List.any_eq_false] at h;have := h y hy;simpa using this
theorem del_ins {L : Items} {id : Nat} {s : Bs} (h : memL L id = false) : delL (insL L id s) id = L := by
  unfold insL;rw [del_none h];have e : ∀ A B : Items, delL (A ++ (id, s) :: B) id = delL A id ++ delL B id := by
    intro A B;unfold delL;rw [List.filter_append, List.filter_cons, if_neg (by simp)]
  rw [e];have := del_none h;unfold delL at this ⊢;rw [← List.filter_append, List.takeWhile_append_dropWhile, this]
theorem good_nil : Good [] := ⟨by intro i j hi; simp at hi, by simp, by simp, by simp, by simp⟩
theorem wrongE_zero {id : Nat} {s : Bs} {full : Bool} (h : wrongE id s full = 0) : id < 6004799503160661 ∧ s ≠ [] ∧ s.length ≤ 65536 ∧ full = false := by
  unfold wrongE at h;by_cases h1 : 6004799503160661 ≤ id
  · rw [if_pos h1] at h; exact absurd h (by decide)
  rw [if_neg h1] at h;by_cases h2 : s = []
  · rw [if_pos h2] at h; exact absurd h (by decide)
  rw [if_neg h2] at h;by_cases h3 : 65536 < s.length
  · rw [if_pos h3] at h; exact absurd h (by decide)
  rw [if_neg h3] at h;cases full
  · exact ⟨by omega, h2, by omega, rfl⟩
  · exact absurd h (by decide)
theorem good_put {L : Items} (h : Good L) (hl : L.length < 2048) (id : Nat) (s : Bs) : Good (putL L id s) := by
  have hsrt := srt_put (id := id) (s := s) h.srt;have hlen := put_len L id s;unfold putL at hsrt hlen ⊢;split
  · rename_i hE;rw [if_pos hE] at hsrt hlen;have hx : ∀ y ∈ insL L id s, y = (id, s) ∨ y ∈ L := fun y hy => mem_ins hy;obtain ⟨e1, e2, e3, _⟩ := wrongE_zero hE;refine ⟨hsrt, by omega, fun y hy => ?_, fun y hy => ?_, fun y hy => ?_⟩
    · rcases hx y hy with rfl | hy
      · exact e1
      · exact h.id y hy
    · rcases hx y hy with rfl | hy
      · exact e2
      · exact h.ne y hy
    · rcases hx y hy with rfl | hy
      · exact e3
      · exact h.sz y hy
  · exact h
theorem good_own (l : Items) (hl : l.length ≤ 2048) : Good (ownL l) := by
  induction l using snoc_ind with
  | h0 => exact good_nil
  | h1 l a ih =>
    have hl' : l.length + 1 ≤ 2048 := by simpa using hl
    rw [own_snoc];exact good_put (ih (by omega)) (by have := own_len l; omega) _ _
theorem total_app (A B : Items) : total (A ++ B) = total A + total B := by unfold total; rw [List.map_append, List.sum_append]
theorem total_cons (x : Item) (B : Items) : total (x :: B) = x.2.length + total B := by unfold total; rw [List.map_cons, List.sum_cons]
theorem total_sub {A B : Items} (h : List.Sublist A B) : total A ≤ total B := by
  induction h with
  | slnil => exact Nat.le_refl _
  | cons a _ ih => rw [total_cons]; omega
  | cons_cons a _ ih => rw [total_cons, total_cons]; omega
theorem total_ins (L : Items) (id : Nat) (s : Bs) : total (insL L id s) ≤ total L + s.length := by
  unfold insL;rw [total_app, total_cons];have h := total_sub (List.filter_sublist (p := fun x : Item => !(x.1 == id)) (l := L));have h2 := List.takeWhile_append_dropWhile (p := fun x : Item => decide (x.1 < id)) (l := delL L id);have h3 := congrArg total h2;rw [total_app] at h3;have h4 : total (delL L id) ≤ total L := h;show total _ + (s.length + total (List.dropWhile (fun x : Item => decide (x.1 < id)) (delL L id))) ≤ _
  have h5 : total (List.dropWhile (fun x : Item => decide (x.1 < id)) (delL L id)) = total (List.dropWhile (fun x => decide (x.1 < id)) (delL L id)) := rfl;omega
theorem total_put (L : Items) (id : Nat) (s : Bs) : total (putL L id s) ≤ total L + s.length := by
  unfold putL; split
  · exact total_ins L id s
  · omega
theorem total_own (l : Items) : total (ownL l) ≤ sumL l := by
  induction l using snoc_ind with
  | h0 => exact Nat.le_refl _
  | h1 l a ih =>
    rw [own_snoc];have := total_put (ownL l) a.1 a.2;have h : sumL (l ++ [a]) = sumL l + a.2.length := by unfold sumL; rw [List.map_append, List.sum_append]; simp
    omega
/-- items that a chart may be made of: no identifier twice, each may be put -/
structure Fit (L : Items) : Prop where
  nd : (L.map (·.1)).Nodup
  ok : ∀ x ∈ L, wrongE x.1 x.2 false = 0
theorem good_fit {L : Items} (h : Good L) : Fit L := by
  refine ⟨?_, fun x hx => ?_⟩
  · have h1 := (srt_iff L).1 h.srt;unfold List.Nodup;rw [List.pairwise_map];exact h1.imp (fun h => by omega)
  · have h1 := h.id x hx;have h2 := h.ne x hx;have h3 := h.sz x hx;unfold wrongE;rw [if_neg (by omega), if_neg h2, if_neg (by omega)];rfl
theorem fit_perm {L M : Items} (h : Fit L) (p : M.Perm L) : Fit M := by
  refine ⟨?_, fun x hx => h.ok x (p.subset hx)⟩;exact (p.map _).nodup_iff.2 h.nd
theorem srt_perm {L M : Items} (hL : Srt L) (hM : Srt M) (p : M.Perm L) : M = L := by
  rw [srt_iff] at hL hM;refine p.eq_of_pairwise (le := fun a b : Item => a.1 < b.1) (fun a b _ _ h1 h2 => by omega) hM hL
theorem rot_perm (L : Items) (k : Nat) : (L.drop k ++ L.take k).Perm L := by
  have h := List.perm_append_comm (l₁ := L.drop k) (l₂ := L.take k);rwa [List.take_append_drop] at h
end Go.Gz
/- Plain laws: each content stands just once. -/
namespace Go.Gz
theorem good_pre {L : Items} {x : Item} (h : Good (L ++ [x])) : Good L := by
  refine ⟨?_, by have := h.len; simp at this; omega, fun y hy => h.id y (by simp [hy]), fun y hy => h.ne y (by simp [hy]), fun y hy => h.sz y (by simp [hy])⟩;have := (srt_iff _).1 h.srt;rw [List.pairwise_append] at this;exact (srt_iff _).2 this.1
theorem rows2_snoc (L : Items) (x : Item) : (rowsL (L ++ [x])).2 = addC (rowsL L).2 x.2 := by rw [rows_snoc]; rfl
theorem rows2_succ {L : Items} {k : Nat} (hk : k < L.length) : (rowsL (L.take (k + 1))).2 = addC (rowsL (L.take k)).2 L[k].2 := by
  rw [List.take_succ_eq_append_getElem hk, rows2_snoc]
theorem rows2_mem (L : Items) (t : Bs) : t ∈ (rowsL L).2 ↔ ∃ x ∈ L, x.2 = t := by
  induction L using snoc_ind with
  | h0 => simp [rowsL]
  | h1 L x ih =>
    rw [rows2_snoc];constructor
    · intro h;unfold addC at h;split at h
      · obtain ⟨y, hy, e⟩ := ih.1 h; exact ⟨y, by simp [hy], e⟩
      · rcases List.mem_append.1 h with h | h
        · obtain ⟨y, hy, e⟩ := ih.1 h; exact ⟨y, by simp [hy], e⟩
        · simp at h; exact ⟨x, by simp, h.symm⟩
    · rintro ⟨y, hy, rfl⟩;rcases List.mem_append.1 hy with hy | hy
      · exact add_sub (ih.2 ⟨y, hy, rfl⟩)
      · simp at hy; subst hy; exact add_mem _ _
theorem rows2_nodup (L : Items) : (rowsL L).2.Nodup := by
  induction L using snoc_ind with
  | h0 => exact List.nodup_nil
  | h1 L x ih => rw [rows2_snoc]; exact add_nodup ih _
/-- charts of the same contents -/
theorem rows2_same {L N : Items} (h : ∀ t, (∃ x ∈ L, x.2 = t) ↔ ∃ x ∈ N, x.2 = t) : (rowsL N).2.length = (rowsL L).2.length ∧ (rowsL N).2.flatten.length = (rowsL L).2.flatten.length := by
  have p : (rowsL N).2.Perm (rowsL L).2 := (List.perm_ext_iff_of_nodup (rows2_nodup N) (rows2_nodup L)).2 (fun t => by rw [rows2_mem, rows2_mem, h]);exact ⟨p.length_eq, p.flatten.length_eq⟩
theorem rows2_put {L : Items} {id : Nat} {s : Bs} (hE : putE L id s = 0) (hm : memL L id = false) (hs : ∃ x ∈ L, x.2 = s) :
    (rowsL (putL L id s)).2.length = (rowsL L).2.length ∧ (rowsL (putL L id s)).2.flatten.length = (rowsL L).2.flatten.length ∧ (putL L id s).length = L.length + 1 := by
  unfold putL;rw [if_pos hE];have hl : (insL L id s).length = L.length + 1 := by rw [ins_len, del_none hm]
  have hmem : ∀ y, y ∈ insL L id s ↔ y = (id, s) ∨ y ∈ L := by
    intro y;refine ⟨mem_ins, fun h => ?_⟩;unfold insL;rw [del_none hm];rcases h with h | h
    · rw [h]; simp
    · rw [← List.takeWhile_append_dropWhile (p := fun x : Item => decide (x.1 < id)) (l := L)] at h;rcases List.mem_append.1 h with h | h
      · exact List.mem_append_left _ h
      · exact List.mem_append_right _ (List.mem_cons_of_mem _ h)
  have := rows2_same (L := L) (N := insL L id s) (fun t => by
    constructor
    · rintro ⟨x, hx, e⟩;exact ⟨x, (hmem x).2 (Or.inr hx), e⟩
    · rintro ⟨x, hx, e⟩;rcases (hmem x).1 hx with h | h
      · rw [h] at e;obtain ⟨y, hy, e2⟩ := hs;exact ⟨y, hy, e2.trans e⟩
      · exact ⟨x, h, e⟩)
  exact ⟨this.1, this.2, hl⟩
/-- the entries tell of each content once -/
theorem seen_rows (L : Items) (h : Good L) (ht : total L ≤ 1099511627776) : seenE (rowsL L).1 = (rowsL L).2.map fun s => (offC (rowsL L).2 s, s.length) := by
  induction L using snoc_ind with
  | h0 => rfl
  | h1 L x ih =>
    have hg := good_pre h;have htt : total (L ++ [x]) = total L + x.2.length := by unfold total; simp
    have ih := ih hg (by omega);obtain ⟨_, _, _, i4, _, i6, _, _⟩ := rows_inv L hg (by omega);obtain ⟨_, _, _, _, _, j6, _, _⟩ := rows_inv (L ++ [x]) h ht;have hx2 := h.ne x (by simp);have hxl : 0 < x.2.length := List.length_pos_iff.2 hx2;rw [rows_snoc] at j6 ⊢;unfold rowsStep at j6 ⊢;simp only at j6 ⊢;generalize hcs : (rowsL L).2 = cs at *;generalize hes : (rowsL L).1 = es at *
    -- what the last one tells
    have hin : (offC (addC cs x.2) x.2, x.2.length) ∈ seenE es → x.2 ∈ cs := by
      intro hm;rw [ih] at hm;obtain ⟨s, hs, he⟩ := List.mem_map.1 hm;apply Classical.byContradiction;intro hn;have h1 : offC (addC cs x.2) x.2 = cs.flatten.length := by unfold addC; rw [if_neg hn]; exact off_new hn
      have h2 := off_end hs;injection he with e1 e2;omega
    have hin2 : x.2 ∈ cs → (offC (addC cs x.2) x.2, x.2.length) ∈ seenE es := by
      intro hm;rw [ih, off_add hm];exact List.mem_map.2 ⟨x.2, hm, rfl⟩
    have hsame : x.2 ∈ cs → (addC cs x.2) = cs := by intro hm; unfold addC; rw [if_pos hm]
    have hnew : x.2 ∉ cs → (addC cs x.2).map (fun s => (offC (addC cs x.2) s, s.length)) = seenE es ++ [(offC (addC cs x.2) x.2, x.2.length)] := by
      intro hm;have e : addC cs x.2 = cs ++ [x.2] := by unfold addC; rw [if_neg hm]
      rw [ih, e, List.map_append];congr 1
      apply List.map_congr_left;intro s hs;rw [off_app hs]
    have hend : seenE (es ++ [itemE cs x]) = (addC cs x.2).map (fun s => (offC (addC cs x.2) s, s.length)) ∨ itemE cs x ∉ pushE es (itemE cs x) := by
      by_cases hmm : itemE cs x ∈ pushE es (itemE cs x)
      · left;obtain ⟨c1, c2, _⟩ := j6 _ hmm;rw [seenE_snoc, if_pos ⟨c1, by omega⟩];show (if (offC (addC cs x.2) x.2, x.2.length) ∈ seenE es then seenE es else seenE es ++ [(offC (addC cs x.2) x.2, x.2.length)]) = _
        by_cases hm : x.2 ∈ cs
        · rw [if_pos (hin2 hm), hsame hm, ih]
        · rw [if_neg (fun g => hm (hin g)), hnew hm]
      · exact Or.inr hmm
    unfold pushE at j6 hend ⊢;cases hb : es.getLast? with
    | none =>
      rw [hb] at hend;have : es = [] := by simpa using hb
      subst this;rcases hend with g | g
      · exact g
      · exact absurd (by simp) g
    | some b =>
      rw [hb] at hend j6;simp only at hend j6 ⊢;by_cases hgo : goesE b (itemE cs x) = true
      · rw [if_pos hgo] at j6 ⊢;obtain ⟨pre, hpre⟩ := List.getLast?_eq_some_iff.1 hb;have hbm := List.mem_of_getLast? hb;obtain ⟨c1, c2, _⟩ := i6 b hbm;obtain ⟨d1, d2, _⟩ := j6 { b with run := b.run + 1 } (by simp);unfold goesE at hgo;simp only [Bool.and_eq_true, decide_eq_true_eq] at hgo;obtain ⟨⟨_, g2⟩, g3⟩ := hgo;have hse : seenE (es.dropLast ++ [{ b with run := b.run + 1 }]) = seenE es := by
          rw [hpre, List.dropLast_concat, seenE_snoc pre b, if_pos ⟨c1, by omega⟩, seenE_snoc pre { b with run := b.run + 1 }, if_pos ⟨d1, by simp⟩]
        have hbi : (b.off, b.len) ∈ seenE es := by
          rw [hpre, seenE_snoc, if_pos ⟨c1, by omega⟩];split
          · assumption
          · simp
        have hm : x.2 ∈ cs := hin (by
          have e1 : offC (addC cs x.2) x.2 = b.off := g2;have e2 : x.2.length = b.len := g3;rw [e1, e2]; exact hbi)
        rw [hse, hsame hm, ih]
      · rw [if_neg hgo] at hend ⊢;rcases hend with g | g
        · exact g
        · exact absurd (by simp) g
theorem cont_rows {L : Items} (h : Good L) (ht : total L ≤ 1099511627776) : contE (rowsL L).1 = (rowsL L).2.length := by
  unfold contE;rw [seen_rows L h ht, List.length_map]
end Go.Gz
/- Plain laws: the rows of a chart are as few as may be; their first and last tile (what an audit asks). -/
namespace Go.Gz
/-- no two rows that follow each other could be one -/
def apartE : Ents → Prop
  | a :: b :: r => goesE a b = false ∧ apartE (b :: r)
  | _ => True
theorem nil_or_snoc {α : Type} (l : List α) : l = [] ∨ ∃ r b, l = r ++ [b] := by
  induction l using snoc_ind with
  | h0 => exact .inl rfl
  | h1 l a _ => exact .inr ⟨l, a, rfl⟩
theorem apart_snoc : ∀ (l : Ents) (e : Ent), apartE (l ++ [e]) ↔ apartE l ∧ ∀ b, l.getLast? = some b → goesE b e = false
  | [], e => by simp [apartE]
  | [a], e => by simp [apartE]
  | a :: b :: r, e => by
    have ih := apart_snoc (b :: r) e;show goesE a b = false ∧ apartE ((b :: r) ++ [e]) ↔ (goesE a b = false ∧ apartE (b :: r)) ∧ _
    rw [ih, List.getLast?_cons_cons];exact ⟨fun ⟨h1, h2, h3⟩ => ⟨⟨h1, h2⟩, h3⟩, fun ⟨⟨h1, h2⟩, h3⟩ => ⟨h1, h2, h3⟩⟩
theorem push_apart {out : Ents} (h : apartE out) (e : Ent) : apartE (pushE out e) := by
  unfold pushE;rcases nil_or_snoc out with rfl | ⟨l, b, rfl⟩
  · simp [apartE]
  · have hg : (l ++ [b]).getLast? = some b := by simp
    rw [hg];simp only;have hb := (apart_snoc l b).1 h;split
    · rw [List.dropLast_concat, apart_snoc];exact ⟨hb.1, fun c hc => hb.2 c hc⟩
    · rename_i hn;rw [apart_snoc];refine ⟨h, fun c hc => ?_⟩;rw [hg] at hc;cases hc;simpa using hn
theorem rows_apart (L : Items) : apartE (rowsL L).1 := by
  induction L using snoc_ind with
  | h0 => simp [rowsL, apartE]
  | h1 L x ih => rw [rows_snoc]; exact push_apart ih _
theorem push_head (out : Ents) (e : Ent) : (pushE out e).head?.map (fun e => e.id) = some ((out.head?.map fun e => e.id).getD e.id) := by
  unfold pushE;rcases nil_or_snoc out with rfl | ⟨l, b, rfl⟩
  · rfl
  · have hg : (l ++ [b]).getLast? = some b := by simp
    rw [hg];simp only;split
    · rw [List.dropLast_concat];cases l <;> simp
    · cases l <;> simp
theorem rows_head (L : Items) : (rowsL L).1.head?.map (fun e => e.id) = L.head?.map fun x => x.1 := by
  induction L using snoc_ind with
  | h0 => rfl
  | h1 L x ih =>
    rw [rows_snoc];show (pushE (rowsL L).1 (itemE (rowsL L).2 x)).head?.map (fun e => e.id) = _
    rw [push_head, ih];cases L <;> rfl
theorem apart_at : ∀ {l : Ents}, apartE l → ∀ k (h : k + 1 < l.length), goesE (l[k]'(by omega)) (l[k + 1]'h) = false
  | a :: b :: r, h, 0, _ => h.1
  | a :: b :: r, h, k + 1, hk => apart_at h.2 k (by simpa using hk)
  | [a], _, k, hk => by simp at hk
  | [], _, k, hk => by simp at hk
end Go.Gz
