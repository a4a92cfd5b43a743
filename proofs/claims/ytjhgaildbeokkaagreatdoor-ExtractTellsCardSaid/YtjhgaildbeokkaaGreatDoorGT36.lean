/- Plain laws for ExtractTells: lists of intervals that are plain, the document's rule that puts one more to them, and that both ways give the same. -/
import Derived.Test.YtjhgaildbeokkaaGreatDoorGT35
namespace Go.Gz
/-- a plain list of intervals: none is empty, they rise, and none touches the next -/
def NF (l : Sps) : Prop := (∀ x ∈ l, x.1 ≤ x.2) ∧ l.Pairwise fun x y => x.2 + 1 < y.1
theorem nf_nil : NF [] := ⟨fun x h => by simp at h, List.Pairwise.nil⟩
theorem nf_cons {x : Sp} {l : Sps} : NF (x :: l) ↔ x.1 ≤ x.2 ∧ (∀ y ∈ l, x.2 + 1 < y.1) ∧ NF l := by
  unfold NF;rw [List.pairwise_cons];constructor
  · rintro ⟨h, k, m⟩;exact ⟨h x (by simp), k, fun y hy => h y (by simp [hy]), m⟩
  · rintro ⟨h, k, m, n⟩;refine ⟨fun y hy => ?_, k, n⟩;rcases List.mem_cons.1 hy with rfl | hy
    · exact h
    · exact m y hy
theorem nf_app {a b : Sps} : NF (a ++ b) ↔ NF a ∧ NF b ∧ ∀ x ∈ a, ∀ y ∈ b, x.2 + 1 < y.1 := by
  unfold NF;rw [List.pairwise_append];constructor
  · rintro ⟨h, k, m, n⟩;exact ⟨⟨fun x hx => h x (by simp [hx]), k⟩, ⟨fun x hx => h x (by simp [hx]), m⟩, n⟩
  · rintro ⟨⟨h, k⟩, ⟨h2, m⟩, n⟩;refine ⟨fun x hx => ?_, k, m, n⟩;rcases List.mem_append.1 hx with hx | hx
    · exact h x hx
    · exact h2 x hx
theorem nf_le {y : Sp} {l : Sps} (h : NF (y :: l)) {id : Nat} (k : inS (y :: l) id) : y.1 ≤ id := by
  rw [nf_cons] at h;rw [inS_cons] at k;rcases k with k | ⟨s, hs, k⟩
  · exact k.1
  · have := h.2.1 s hs; omega
theorem nf_tail {y : Sp} {l : Sps} (h : NF (y :: l)) {id : Nat} (k : inS l id) : y.2 + 1 < id := by
  rw [nf_cons] at h;obtain ⟨s, hs, k⟩ := k;have := h.2.1 s hs; omega
/-- two plain lists of the same identifiers are the same -/
theorem nf_same : ∀ (a b : Sps), NF a → NF b → (∀ id, inS a id ↔ inS b id) → a = b
  | [], [], _, _, _ => rfl
  | [], y :: u, _, hb, h => by
    rw [nf_cons] at hb;exact absurd ((h y.1).2 ((inS_cons _ _ _).2 (Or.inl ⟨Nat.le_refl _, hb.1⟩))) (inS_nil _)
  | x :: t, [], ha, _, h => by
    rw [nf_cons] at ha;exact absurd ((h x.1).1 ((inS_cons _ _ _).2 (Or.inl ⟨Nat.le_refl _, ha.1⟩))) (inS_nil _)
  | x :: t, y :: u, ha, hb, h => by
    have ha' := nf_cons.1 ha;have hb' := nf_cons.1 hb;have e1 : x.1 = y.1 := by
      have h1 := nf_le hb ((h x.1).1 ((inS_cons _ _ _).2 (Or.inl ⟨Nat.le_refl _, ha'.1⟩)));have h2 := nf_le ha ((h y.1).2 ((inS_cons _ _ _).2 (Or.inl ⟨Nat.le_refl _, hb'.1⟩)));omega
    have e2 : x.2 = y.2 := by
      rcases Nat.lt_trichotomy x.2 y.2 with hlt | heq | hlt
      · have h1 := (h (x.2 + 1)).2 ((inS_cons _ _ _).2 (Or.inl ⟨by omega, by omega⟩));rcases (inS_cons _ _ _).1 h1 with k | k
        · omega
        · have := nf_tail ha k; omega
      · exact heq
      · have h1 := (h (y.2 + 1)).1 ((inS_cons _ _ _).2 (Or.inl ⟨by omega, by omega⟩));rcases (inS_cons _ _ _).1 h1 with k | k
        · omega
        · have := nf_tail hb k; omega
    obtain rfl : x = y := Prod.ext e1 e2;congr 1
    refine nf_same t u ha'.2.2 hb'.2.2 fun id => ⟨fun k => ?_, fun k => ?_⟩
    · have h2 := nf_tail ha k;rcases (inS_cons _ _ _).1 ((h id).1 ((inS_cons _ _ _).2 (Or.inr k))) with m | m
      · omega
      · exact m
    · have h2 := nf_tail hb k;rcases (inS_cons _ _ _).1 ((h id).2 ((inS_cons _ _ _).2 (Or.inr k))) with m | m
      · omega
      · exact m
/-- joining keeps a list plain -/
theorem nf_join {l : Sps} (hl : NF l) {s : Sp} (hs : s.1 ≤ s.2) (hb : ∀ x ∈ l, x.1 ≤ s.1) : NF (joinL l s) ∧ ∀ x ∈ joinL l s, x.1 ≤ s.1 := by
  rcases List.eq_nil_or_concat l with rfl | ⟨pre, x, rfl⟩
  · rw [join_nil];exact ⟨nf_cons.2 ⟨hs, fun y hy => by simp at hy, nf_nil⟩, fun y hy => by simp at hy; subst hy; exact Nat.le_refl _⟩
  · rw [List.concat_eq_append] at *;rw [join_snoc];have hx := hb x (by simp);obtain ⟨h1, h2, h3⟩ := nf_app.1 hl;have h2' := (nf_cons.1 h2).1;split
    · refine ⟨nf_app.2 ⟨h1, nf_cons.2 ⟨by simp only; omega, fun y hy => by simp at hy, nf_nil⟩, fun y hy z hz => ?_⟩, fun y hy => ?_⟩
      · simp only [List.mem_singleton] at hz; subst hz; exact h3 y hy x (by simp)
      · rcases List.mem_append.1 hy with hy | hy
        · exact hb y (by simp [hy])
        · simp only [List.mem_singleton] at hy; subst hy; exact hx
    · refine ⟨nf_app.2 ⟨hl, nf_cons.2 ⟨hs, fun y hy => by simp at hy, nf_nil⟩, fun y hy z hz => ?_⟩, fun y hy => ?_⟩
      · simp only [List.mem_singleton] at hz; subst hz;rcases List.mem_append.1 hy with hy | hy
        · have := h3 y hy x (by simp); omega
        · simp only [List.mem_singleton] at hy; subst hy; omega
      · rcases List.mem_append.1 hy with hy | hy
        · exact hb y hy
        · simp only [List.mem_singleton] at hy; subst hy; exact Nat.le_refl _
theorem nf_fold : ∀ (M l : Sps), NF l → (∀ x ∈ M, x.1 ≤ x.2) → M.Pairwise (fun x y => x.1 ≤ y.1) → (∀ x ∈ l, ∀ y ∈ M, x.1 ≤ y.1) → NF (M.foldl joinL l)
  | [], l, hl, _, _, _ => hl
  | s :: t, l, hl, hm, hs, hb => by
    rw [List.pairwise_cons] at hs;obtain ⟨h1, h2⟩ := nf_join hl (hm s (by simp)) (fun x hx => hb x hx s (by simp));rw [List.foldl_cons];exact nf_fold t _ h1 (fun x hx => hm x (by simp [hx])) hs.2 fun x hx y hy => Nat.le_trans (h2 x hx) (hs.1 y hy)
/-- two intervals meet, or stand side by side -/
def touB (a b : Sp) : Bool := (decide (b.1 ≤ a.2) || decide (a.2 + 1 = b.1)) && (decide (a.1 ≤ b.2) || decide (b.2 + 1 = a.1))
theorem tou_iff (a b : Sp) : touB a b = true ↔ b.1 ≤ a.2 + 1 ∧ a.1 ≤ b.2 + 1 := by
  unfold touB;simp only [Bool.and_eq_true, Bool.or_eq_true, decide_eq_true_eq];omega
def absF (st : Sps × Sp) (x : Sp) : Sps × Sp := if touB x st.2 = true then (st.1, (min x.1 st.2.1, max x.2 st.2.2)) else (st.1 ++ [x], st.2)
def below (o : Sps) (s : Sp) : Nat := (o.takeWhile fun x => decide (x.1 < s.1)).length
def putR (l : Sps) (s : Sp) : Sps := if s.2 < s.1 then l else (l.foldl absF ([], s)).1.take (below (l.foldl absF ([], s)).1 (l.foldl absF ([], s)).2) ++ (l.foldl absF ([], s)).2 :: (l.foldl absF ([], s)).1.drop (below (l.foldl absF ([], s)).1 (l.foldl absF ([], s)).2)
theorem abs_nf : ∀ (l o : Sps) (s : Sp), NF (o ++ l) → s.1 ≤ s.2 → (∀ x ∈ o, touB x s ≠ true) →
    NF (l.foldl absF (o, s)).1 ∧ (l.foldl absF (o, s)).2.1 ≤ (l.foldl absF (o, s)).2.2 ∧ (∀ x ∈ (l.foldl absF (o, s)).1, touB x (l.foldl absF (o, s)).2 ≠ true) ∧
    ∀ id, (inS (l.foldl absF (o, s)).1 id ∨ ((l.foldl absF (o, s)).2.1 ≤ id ∧ id ≤ (l.foldl absF (o, s)).2.2)) ↔ inS (o ++ l) id ∨ (s.1 ≤ id ∧ id ≤ s.2)
  | [], o, s, hn, hs, ht => by
    rw [List.append_nil] at *;exact ⟨hn, hs, ht, fun id => Iff.rfl⟩
  | x :: t, o, s, hn, hs, ht => by
    rw [List.foldl_cons];obtain ⟨h1, h2, h3⟩ := nf_app.1 hn;have hx := (nf_cons.1 h2).1;by_cases h : touB x s = true
    · have hb : absF (o, s) x = (o, (min x.1 s.1, max x.2 s.2)) := by unfold absF; rw [if_pos h]
      rw [hb];have ht2 := (tou_iff x s).1 h
      obtain ⟨a1, a2, a3, a4⟩ := abs_nf t o (min x.1 s.1, max x.2 s.2) (nf_app.2 ⟨h1, (nf_cons.1 h2).2.2, fun y hy z hz => h3 y hy z (by simp [hz])⟩) (by simp only; omega) (by
        intro y hy hc;rw [tou_iff] at hc;have k1 := ht y hy;rw [Ne, tou_iff] at k1;have k2 := h3 y hy x (by simp);have k3 := h1.1 y hy;simp only at hc;omega)
      refine ⟨a1, a2, a3, fun id => ?_⟩;rw [a4 id, inS_app, inS_app, inS_cons];simp only;constructor
      · rintro ((k | k) | k)
        · exact Or.inl (Or.inl k)
        · exact Or.inl (Or.inr (Or.inr k))
        · by_cases g : x.1 ≤ id ∧ id ≤ x.2
          · exact Or.inl (Or.inr (Or.inl g))
          · exact Or.inr (by omega)
      · rintro ((k | k | k) | k)
        · exact Or.inl (Or.inl k)
        · exact Or.inr (by omega)
        · exact Or.inl (Or.inr k)
        · exact Or.inr (by omega)
    · have hb : absF (o, s) x = (o ++ [x], s) := by unfold absF; rw [if_neg h]
      rw [hb];have e : o ++ x :: t = (o ++ [x]) ++ t := by simp
      rw [e] at hn ⊢;exact abs_nf t (o ++ [x]) s hn hs fun y hy => by
        rcases List.mem_append.1 hy with hy | hy
        · exact ht y hy
        · simp only [List.mem_singleton] at hy; subst hy; exact h
theorem below_take : ∀ (o : Sps) (s : Sp), (∀ x ∈ o.take (below o s), x.1 < s.1) ∧ (NF o → ∀ x ∈ o.drop (below o s), s.1 ≤ x.1)
  | [], s => ⟨fun x h => by simp at h, fun _ x h => by simp at h⟩
  | y :: t, s => by
    obtain ⟨h1, h2⟩ := below_take t s;by_cases h : y.1 < s.1
    · have e : below (y :: t) s = below t s + 1 := by unfold below; rw [List.takeWhile_cons_of_pos (by simpa using h)]; rfl
      rw [e, List.take_succ_cons, List.drop_succ_cons];refine ⟨fun x hx => ?_, fun hn => h2 (nf_cons.1 hn).2.2⟩;rcases List.mem_cons.1 hx with rfl | hx
      · exact h
      · exact h1 x hx
    · have e : below (y :: t) s = 0 := by unfold below; rw [List.takeWhile_cons_of_neg (by simpa using h)]; rfl
      rw [e, List.take_zero, List.drop_zero];refine ⟨fun x hx => by simp at hx, fun hn x hx => ?_⟩;rcases List.mem_cons.1 hx with rfl | hx
      · omega
      · have := (nf_cons.1 hn).2.1 x hx;have := (nf_cons.1 hn).1;omega
/-- what the document's rule leaves: plain, and with just those of both -/
theorem put_nf {l : Sps} (h : NF l) (s : Sp) : NF (putR l s) ∧ ∀ id, inS (putR l s) id ↔ inS l id ∨ (s.1 ≤ id ∧ id ≤ s.2) := by
  unfold putR;split
  · next hlt => exact ⟨h, fun id => ⟨Or.inl, fun k => k.elim (fun k => k) (fun k => by omega)⟩⟩
  · next hlt =>
    obtain ⟨a1, a2, a3, a4⟩ := abs_nf l [] s h (by omega) (fun x hx => by simp at hx);generalize (l.foldl absF ([], s)).1 = o at *;generalize (l.foldl absF ([], s)).2 = m at *;obtain ⟨b1, b2⟩ := below_take o m;replace b2 := b2 a1;have e := List.take_append_drop (below o m) o;generalize o.take (below o m) = p at *;generalize o.drop (below o m) = q at *;subst e;obtain ⟨c1, c2, c3⟩ := nf_app.1 a1;have d1 : ∀ x ∈ p, x.2 + 1 < m.1 := fun x hx => by
      have k := a3 x (by simp [hx]);rw [Ne, tou_iff] at k;have := b1 x hx;have := c1.1 x hx;omega
    have d2 : ∀ x ∈ q, m.2 + 1 < x.1 := fun x hx => by
      have k := a3 x (by simp [hx]);rw [Ne, tou_iff] at k;have := b2 x hx;have := c2.1 x hx;omega
    refine ⟨nf_app.2 ⟨c1, nf_cons.2 ⟨a2, d2, c2⟩, fun x hx y hy => ?_⟩, fun id => ?_⟩
    · rcases List.mem_cons.1 hy with rfl | hy
      · exact d1 x hx
      · exact c3 x hx y hy
    · rw [inS_app, inS_cons];have k := a4 id;rw [inS_app, List.nil_append] at k;rw [← k];constructor
      · rintro (g | g | g)
        · exact Or.inl (Or.inl g)
        · exact Or.inr g
        · exact Or.inl (Or.inr g)
      · rintro ((g | g) | g)
        · exact Or.inl g
        · exact Or.inr (Or.inr g)
        · exact Or.inr (Or.inl g)
theorem fold_put {l : Sps} : ∀ (M : Sps), NF l → NF (M.foldl putR l) ∧ ∀ id, inS (M.foldl putR l) id ↔ inS l id ∨ inS M id := by
  intro M;induction M generalizing l with
  | nil => exact fun h => ⟨h, fun id => ⟨Or.inl, fun k => k.elim (fun k => k) (fun k => absurd k (inS_nil id))⟩⟩
  | cons s t ih =>
    intro h;obtain ⟨h1, h2⟩ := put_nf h s;obtain ⟨h3, h4⟩ := ih h1;rw [List.foldl_cons];exact ⟨h3, fun id => by rw [h4 id, h2 id, inS_cons, or_assoc]⟩
/-- so many identifiers: no more intervals -/
theorem nodup_le : ∀ (a b : List Nat), a.Nodup → (∀ x ∈ a, x ∈ b) → a.length ≤ b.length
  | [], _, _, _ => Nat.zero_le _
  | x :: t, b, hn, h => by
    rw [List.nodup_cons] at hn;have hx := h x (by simp);have := nodup_le t (b.erase x) hn.2 (fun y hy => (List.mem_erase_of_ne (by intro e; subst e; exact hn.1 hy)).2 (h y (by simp [hy])));have h2 := List.length_erase_of_mem hx;have h3 := List.length_pos_of_mem hx;simp only [List.length_cons];omega
theorem nf_count {l : Sps} (h : NF l) (ids : List Nat) (hi : ∀ id, inS l id → id ∈ ids) : l.length ≤ ids.length := by
  have := nodup_le (l.map fun x => x.1) ids (by
    rw [List.nodup_iff_pairwise_ne, List.pairwise_map];refine List.Pairwise.imp_of_mem ?_ h.2;intro x y hx hy hxy;have := h.1 x hx;omega) (fun x hx => by
    obtain ⟨s, hs, rfl⟩ := List.mem_map.1 hx;exact hi _ ⟨s, hs, Nat.le_refl _, h.1 s hs⟩)
  rwa [List.length_map] at this
/-- all intervals begin no later than b -/
def AllLe (l : Sps) (b : Nat) : Prop := ∀ x ∈ l, x.1 ≤ b
theorem allLe_mono {l : Sps} {a b : Nat} (h : AllLe l a) (k : a ≤ b) : AllLe l b := fun x hx => Nat.le_trans (h x hx) k
theorem allLe_last {l : Sps} {b : Nat} (h : AllLe l b) : LastLe l b := fun pre x e => h x (by rw [e]; simp)
/-- going down, how far ever: the list stays plain, and has nothing that is not in the rectangle -/
def WkSub (rz q n h : Nat) (r : Rc) (l : Sps) (p : Sps × Bool) : Prop := NF p.1 ∧ AllLe p.1 (baseN rz + (h + 1) * 4 ^ n) ∧ ∀ id, inS p.1 id → inS l id ∨ (tin rz q n h id ∧ rin r rz id)
theorem goK_sub {f : Til → Sps → Sps × Bool} {rz q n h : Nat} {r : Rc} : ∀ (c i : Nat), (∀ k, i ≤ k → k < i + c → ∀ l, NF l → AllLe l (baseN rz + (h + k) * 4 ^ n) → WkSub rz q n (h + k) r l (f (tilZ q (h + k)) l)) → ∀ l, NF l → AllLe l (baseN rz + (h + i) * 4 ^ n) →
    NF (goK f ((List.range' i c).map fun k => tilZ q (h + k)) l).1 ∧ AllLe (goK f ((List.range' i c).map fun k => tilZ q (h + k)) l).1 (baseN rz + (h + i + c) * 4 ^ n) ∧ ∀ id, inS (goK f ((List.range' i c).map fun k => tilZ q (h + k)) l).1 id → inS l id ∨ ∃ k, i ≤ k ∧ k < i + c ∧ tin rz q n (h + k) id ∧ rin r rz id
  | 0, i, hf, l, hn, hl => by
    simp only [List.range'_zero, List.map_nil] at *;exact ⟨hn, hl, fun id h => Or.inl h⟩
  | c + 1, i, hf, l, hn, hl => by
    rw [List.range'_succ, List.map_cons] at *;unfold goK at *;obtain ⟨w0, w1, w2⟩ := hf i (Nat.le_refl _) (by omega) l hn hl;by_cases hb : (f (tilZ q (h + i)) l).2 = true
    · rw [if_pos hb] at *;obtain ⟨g0, g1, g2⟩ := goK_sub c (i + 1) (fun k h1 h2 l hn hl => hf k (by omega) (by omega) l hn hl) _ w0 (by rw [← Nat.add_assoc]; exact w1);refine ⟨g0, by rw [show h + i + (c + 1) = h + (i + 1) + c by omega]; exact g1, fun id hid => ?_⟩;rcases g2 id hid with k | ⟨k, h1, h2, h3⟩
      · rcases w2 id k with k | k
        · exact Or.inl k
        · exact Or.inr ⟨i, Nat.le_refl _, by omega, k⟩
      · exact Or.inr ⟨k, by omega, by omega, h3⟩
    · rw [if_neg hb] at *;refine ⟨w0, allLe_mono w1 (Nat.add_le_add_left (Nat.mul_le_mul_right _ (by omega)) _), fun id hid => ?_⟩;rcases w2 id hid with k | k
      · exact Or.inl k
      · exact Or.inr ⟨i, Nat.le_refl _, by omega, k⟩
theorem range_ne {rz q n tx ty : Nat} (hz : q + n = rz) : (rangeV q tx ty rz).1 ≤ (rangeV q tx ty rz).2 := by
  subst hz;have hpos : 1 ≤ 4 ^ n := Nat.pos_of_ne_zero (by simp);unfold rangeV;rw [Nat.add_sub_cancel_left];simp only;omega
theorem walk_sub (r : Rc) (rz : Nat) (most : Int) : ∀ (n q : Nat) (t : Til), TilOk q t → q + n = rz → ∀ l, NF l → AllLe l (baseN rz + hil q t.2.1 t.2.2 * 4 ^ n) → WkSub rz q n (hil q t.2.1 t.2.2) r l (walkV r rz most n t l)
  | n, q, t, ht, hz, l, hnf, hl => by
    have hok := ht;obtain ⟨tz, tx, ty⟩ := t;obtain ⟨h1, hx, hy⟩ := ht;simp only at h1 hx hy hl ⊢;subst h1;have hsub : rz - tz = n := by omega
    have hn4 : 1 ≤ 4 ^ n := Nat.pos_of_ne_zero (by simp);have ha1 : (hil tz tx ty + 1) * 4 ^ n = hil tz tx ty * 4 ^ n + 4 ^ n := by rw [Nat.add_mul, Nat.one_mul]
    have hsq := fun id => tin_sq (id := id) hz hx hy;by_cases ha : apartR (squareR tz tx ty rz) r = true
    · rw [walk_apart (t := (tz, tx, ty)) ha n];exact ⟨hnf, allLe_mono hl (by omega), fun id h => Or.inl h⟩
    · by_cases hw : withinR (squareR tz tx ty rz) r = true
      · rw [walk_within (t := (tz, tx, ty)) ha hw n];have hlo : (rangeV tz tx ty rz).1 = baseN rz + hil tz tx ty * 4 ^ n := by unfold rangeV; rw [hsub]
        have hlo2 : AllLe l (rangeV tz tx ty rz).1 := by rw [hlo]; exact hl
        obtain ⟨j1, _⟩ := join_in (l := l) (s := rangeV tz tx ty rz) (allLe_last hlo2);obtain ⟨k1, k2⟩ := nf_join hnf (range_ne (tx := tx) (ty := ty) hz) hlo2;refine ⟨k1, fun x hx => ?_, fun id hid => ?_⟩
        · have := k2 x hx;rw [hlo] at this;omega
        · rcases (j1 id).1 hid with h | h
          · exact Or.inl h
          · rw [range_tin hz] at h;refine Or.inr ⟨h, ?_⟩;have hs := hsq id h;unfold withinR squareR at hw;rw [hsub] at hw;simp only [Bool.and_eq_true, decide_eq_true_eq] at hw;unfold rin;omega
      · cases n with
        | zero =>
          have hzz : tz = rz := by omega
          subst hzz;exact absurd (apart_within (t := (tz, tx, ty)) hok r ha) hw
        | succ m =>
          rw [walk_deep (t := (tz, tx, ty)) ha hw m];have hkid : kidsV tz tx ty = (List.range' 0 4).map fun k => tilZ (tz + 1) (hil tz tx ty * 4 + k) := rfl;have hhl := hil_lt tz tx ty hx hy;have h4q : 4 ^ (tz + 1) = 4 * 4 ^ tz := by rw [Nat.pow_succ]; omega
          have h4m : 4 ^ (m + 1) = 4 * 4 ^ m := by rw [Nat.pow_succ]; omega
          have e0 : hil tz tx ty * 4 ^ (m + 1) = hil tz tx ty * 4 * 4 ^ m := by rw [h4m]; ac_rfl
          simp only;rw [hkid];obtain ⟨g0, g1, g2⟩ := goK_sub (f := walkV r rz most m) (rz := rz) (q := tz + 1) (n := m) (h := hil tz tx ty * 4) (r := r) 4 0 (fun k _ hk l hn hl => by
            have hd : hil tz tx ty * 4 + k < 4 ^ (tz + 1) := by omega
            have hu := unhil_lt (tz + 1) (hil tz tx ty * 4 + k);have he := hil_unhil (tz + 1) (hil tz tx ty * 4 + k) hd;have := walk_sub r rz most m (tz + 1) (tilZ (tz + 1) (hil tz tx ty * 4 + k)) ⟨rfl, hu.1, hu.2⟩ (by omega) l hn (by show AllLe l (baseN rz + hil (tz + 1) (unhil (tz + 1) (hil tz tx ty * 4 + k)).1 (unhil (tz + 1) (hil tz tx ty * 4 + k)).2 * 4 ^ m); rw [he]; exact hl);unfold tilZ at this ⊢;simp only at this;rw [he] at this;exact this) l hnf (by rw [Nat.add_zero, ← e0]; exact hl)
          refine ⟨g0, allLe_mono g1 ?_, fun id hid => ?_⟩
          · have q4 : (hil tz tx ty * 4 + 0 + 4) * 4 ^ m = hil tz tx ty * 4 * 4 ^ m + 4 * 4 ^ m := by rw [Nat.add_zero, Nat.add_mul]
            omega
          · rcases g2 id hid with h | ⟨k, _, hk, ⟨t1, t2⟩, hr⟩
            · exact Or.inl h
            · refine Or.inr ⟨⟨?_, ?_⟩, hr⟩
              · rw [Nat.add_mul] at t1; omega
              · have hk3 : (hil tz tx ty * 4 + k + 1) * 4 ^ m ≤ (hil tz tx ty * 4 + 4) * 4 ^ m := Nat.mul_le_mul_right _ (by omega);rw [Nat.add_mul (hil tz tx ty * 4) 4] at hk3;omega
/-- it only ends early with more than it may have -/
theorem goK_full {f : Til → Sps → Sps × Bool} {most : Int} : ∀ (ts : List Til), (∀ t ∈ ts, ∀ l, (f t l).2 = false → most < ((f t l).1.length : Int)) → ∀ l, (goK f ts l).2 = false → most < ((goK f ts l).1.length : Int)
  | [], _, l, h => by simp [goK] at h
  | t :: ts, hf, l, h => by
    unfold goK at *;by_cases hb : (f t l).2 = true
    · rw [if_pos hb] at *;exact goK_full ts (fun t ht => hf t (by simp [ht])) _ h
    · rw [if_neg hb] at *;exact hf t (by simp) l h
theorem walk_full (r : Rc) (rz : Nat) (most : Int) : ∀ (n : Nat) (t : Til) (l : Sps), (walkV r rz most n t l).2 = false → most < ((walkV r rz most n t l).1.length : Int)
  | 0, t, l, h => by
    unfold walkV at *;split at h
    · simp at h
    · next ha =>
      rw [if_neg ha];simpa using h
  | m + 1, t, l, h => by
    have ih := walk_full r rz most m;rw [walkV] at h ⊢;split at h
    · simp at h
    · next ha =>
      rw [if_neg ha];split at h
      · next hw =>
        rw [if_pos hw];simpa using h
      · next hw =>
        rw [if_neg hw];exact goK_full (f := walkV r rz most m) _ (fun t _ l => ih t l) l h
/-- the identifiers of a rectangle's tiles, row by row -/
def idsR (r : Rc) : List Nat := (List.range' r.y0.toNat (r.y1 - r.y0 + 1).toNat).flatMap fun y => (List.range' r.x0.toNat (r.x1 - r.x0 + 1).toNat).map fun x => baseN r.z.toNat + hil r.z.toNat x y
theorem idsR_len (r : Rc) : (idsR r).length = (r.y1 - r.y0 + 1).toNat * (r.x1 - r.x0 + 1).toNat := by
  unfold idsR;generalize (r.y1 - r.y0 + 1).toNat = n;generalize r.y0.toNat = a;induction n generalizing a with
  | zero => simp
  | succ n ih => rw [List.range'_succ, List.flatMap_cons, List.length_append, ih, List.length_map, List.length_range', Nat.add_mul, Nat.one_mul, Nat.add_comm]
theorem chk_in {r : Rc} (h : chkR r = 0) : ∃ n : Nat, r.z = (n : Int) ∧ n ≤ 26 ∧ 0 ≤ r.x0 ∧ r.x0 ≤ r.x1 ∧ r.x1 < 2 ^ n ∧ 0 ≤ r.y0 ∧ r.y0 ≤ r.y1 ∧ r.y1 < 2 ^ n := by
  obtain ⟨n, hn, h26⟩ := chk_zoom h;refine ⟨n, hn, h26, ?_⟩;have hs : sideV r.z = ((2 ^ n : Nat) : Int) := by unfold sideV; rw [if_pos (by omega), hn, Int.toNat_natCast]
  have h1 := Nat.two_pow_pos n;have e1 : ((2 : Int) ^ n) = ((2 ^ n : Nat) : Int) := by simp
  unfold chkR at h;rw [hs, if_neg (by omega)] at h;rw [e1];split at h
  · next hin =>
    obtain ⟨ha, hb⟩ := hin;unfold inR at ha hb;simp only [Bool.and_eq_true, decide_eq_true_eq] at ha hb;omega
  · simp at h
theorem ids_iff {r : Rc} (h : chkR r = 0) {n : Nat} (hn : r.z = (n : Int)) (id : Nat) : id ∈ idsR r ↔ (baseN n ≤ id ∧ id < baseN n + 4 ^ n) ∧ rin r n id := by
  obtain ⟨n', hn', h26, x1, x2, x3, y1, y2, y3⟩ := chk_in h;obtain rfl : n' = n := by omega
  unfold idsR;rw [hn, Int.toNat_natCast];simp only [List.mem_flatMap, List.mem_map, List.mem_range'_1];have e1 : ((2 : Int) ^ n') = ((2 ^ n' : Nat) : Int) := by simp
  rw [e1] at x3 y3;constructor
  · rintro ⟨y, hy, x, hx, rfl⟩;have hx2 : x < 2 ^ n' := by omega
    have hy2 : y < 2 ^ n' := by omega
    have := hil_lt n' x y hx2 hy2;refine ⟨⟨by omega, by omega⟩, ?_⟩;unfold rin;rw [Nat.add_sub_cancel_left, unhil_hil hx2 hy2];simp only;omega
  · rintro ⟨⟨h1, h2⟩, hr⟩;unfold rin at hr;have hd : id - baseN n' < 4 ^ n' := by omega
    have hu := unhil_lt n' (id - baseN n');have hi := hil_unhil n' (id - baseN n') hd;generalize unhil n' (id - baseN n') = p at *;exact ⟨p.2, by omega, p.1, by omega, by rw [hi]; omega⟩
theorem ones_in (l : List Nat) (id : Nat) : inS (l.map fun i => (i, i)) id ↔ id ∈ l := by
  unfold inS;constructor
  · rintro ⟨s, hs, h1, h2⟩;obtain ⟨i, hi, rfl⟩ := List.mem_map.1 hs;simp only at h1 h2;obtain rfl : i = id := by omega
    exact hi
  · intro h;exact ⟨(id, id), List.mem_map.2 ⟨id, h, rfl⟩, Nat.le_refl _, Nat.le_refl _⟩
theorem spans_ref {r : Rc} (hc : chkR r = 0) (hs : (idsR r).length ≤ 300) : (spansV r 4096).2 = 0 ∧ NF (spansV r 4096).1 ∧ ∀ id, inS (spansV r 4096).1 id ↔ id ∈ idsR r := by
  obtain ⟨n, hn, h26⟩ := chk_zoom hc;have hsub := walk_sub r n 4096 n 0 (0, 0, 0) til_zero (by omega) [] nf_nil (fun x h => by simp at h);have hfull := walk_full r n 4096 n (0, 0, 0) [];have hin := walk_in r n 4096 n 0 (0, 0, 0) til_zero (by omega) [] (lastLe_nil _);have hv : spansV r 4096 = if (walkV r n 4096 n (0, 0, 0) []).2 = true then ((walkV r n 4096 n (0, 0, 0) []).1, 0) else ([], 21) := by
    unfold spansV;rw [if_neg (by omega), if_neg (by simpa using hc), hn, Int.toNat_natCast]
  rw [hv];generalize walkV r n 4096 n (0, 0, 0) [] = p at *;obtain ⟨w0, _, w2⟩ := hsub;have hh : hil 0 0 0 = 0 := rfl;have ht : ∀ id, tin n 0 n (hil 0 0 0) id ↔ baseN n ≤ id ∧ id < baseN n + 4 ^ n := fun id => by
    unfold tin; rw [hh]; simp
  have hle := nf_count w0 (idsR r) fun id hid => (ids_iff hc hn id).2 (by
    rcases w2 id hid with h | h
    · exact absurd h (inS_nil _)
    · exact ⟨(ht id).1 h.1, h.2⟩)
  have h2 : p.2 = true := by
    by_cases h : p.2 = true
    · exact h
    · have := hfull (by simpa using h);omega
  rw [if_pos h2];obtain ⟨w3, _⟩ := hin h2;refine ⟨rfl, w0, fun id => ?_⟩;simp only;rw [w3 id, ids_iff hc hn id, ht id];exact ⟨fun h => h.elim (fun h => absurd h (inS_nil _)) (fun h => h), Or.inr⟩
theorem spans_bad {r : Rc} (hc : chkR r ≠ 0) : (spansV r 4096).2 = chkR r := by
  unfold spansV;rw [if_neg (by omega), if_pos hc]
theorem uni_nf {L1 L2 R : Sps} (h : uniP L1 L2 R) (h1 : NF L1) (h2 : NF L2) : NF R := by
  obtain ⟨M, hp, hs, rfl⟩ := h;refine nf_fold M [] nf_nil (fun x hx => ?_) (List.pairwise_iff_getElem.2 fun i j hi hj h => hs i j hi hj h) (fun x hx => by simp at hx);rcases List.mem_append.1 (hp.subset hx) with hx | hx
  · exact h1.1 x hx
  · exact h2.1 x hx
/-- the document's rule for rectangles -/
def refS : Rcs → Sps → Sps × Int
  | [], L => (L, 0)
  | r :: t, L => if chkR r ≠ 0 then ([], chkR r) else refS t ((L ++ ((idsR r).map fun i => (i, i)).foldl putR []).foldl putR [])
theorem ex_ref : ∀ (l : Rcs) (L : Sps) (p : Sps × Int), NF L → (∀ r ∈ l, chkR r = 0 → (idsR r).length ≤ 300) → exsP l L p → p = refS l L
  | [], L, p, _, _, h => h
  | r :: t, L, p, hn, hs, h => by
    rw [exs_cons] at h;unfold refS;by_cases hc : chkR r = 0
    · obtain ⟨s1, s2, s3⟩ := spans_ref hc (hs r (by simp) hc);rw [if_neg (by simpa using s1)] at h;rw [if_neg (by simpa using hc)];obtain ⟨R, hu, hx⟩ := h;have e := ex_ref t R p (uni_nf hu hn s2) (fun r hr => hs r (by simp [hr])) hx;rw [e];congr 1
      obtain ⟨f1, f2⟩ := fold_put (l := []) ((idsR r).map fun i => (i, i)) nf_nil;obtain ⟨g1, g2⟩ := fold_put (l := []) (L ++ ((idsR r).map fun i => (i, i)).foldl putR []) nf_nil;refine nf_same _ _ (uni_nf hu hn s2) g1 fun id => ?_;rw [uni_in hu id, g2 id, inS_app, f2 id, ones_in, s3 id];have := inS_nil id;constructor
      · rintro (h | h)
        · exact Or.inr (Or.inl h)
        · exact Or.inr (Or.inr (Or.inr h))
      · rintro (h | h | h | h)
        · exact absurd h this
        · exact Or.inl h
        · exact absurd h this
        · exact Or.inr h
    · rw [if_pos (by rw [spans_bad hc]; exact hc)] at h;rw [if_pos hc, h, spans_bad hc]
end Go.Gz
