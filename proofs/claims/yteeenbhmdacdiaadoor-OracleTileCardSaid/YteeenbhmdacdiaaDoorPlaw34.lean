/- Plain laws: a tile's path means the tile; a path that means a tile is that tile's. -/
import Derived.Test.YteeenbhmdacdiaaDoorProute2
namespace Go.Gz
theorem decDigits_len (k : Nat) : ∀ n, n < 10 ^ (k + 1) → (Lib.decDigits n).length ≤ k + 1 := by
  induction k with
  | zero =>
    intro n h
    rw [Lib.decDigits, dif_pos (by omega)]
    simp
  | succ k ih =>
    intro n h
    by_cases h10 : n < 10
    · rw [Lib.decDigits, dif_pos h10]; simp
    · rw [decDigits_big h10, List.length_append]
      have := ih (n / 10) (by rw [Nat.pow_succ] at h; omega)
      simp only [List.length_cons, List.length_nil]
      omega
theorem digs_len8 {n : Int} (h : n < 100000000) : (digs n).length ≤ 8 := by
  by_cases h0 : n < 0
  · rw [digs_neg h0]; simp
  · rw [digs_nonneg (by omega)]; exact decDigits_len 7 _ (by omega)
theorem digs_all {n : Int} (h : 0 ≤ n) : (digs n).all dig = true := by rw [digs_nonneg h]; exact decDigits_all _
theorem tw_app (a r : Bs) (ha : a.all dig = true) (hr : ∀ c t, r = c :: t → dig c = false) : (a ++ r).takeWhile dig = a ∧ (a ++ r).dropWhile dig = r := by
  induction a with
  | nil =>
    cases r with
    | nil => simp
    | cons c t =>
      have hc := hr c t rfl
      rw [List.nil_append, List.takeWhile_cons_of_neg (by simp [hc]), List.dropWhile_cons_of_neg (by simp [hc])]
      exact ⟨rfl, rfl⟩
  | cons c a ih =>
    rw [List.all_cons, Bool.and_eq_true] at ha
    obtain ⟨i1, i2⟩ := ih ha.2
    rw [List.cons_append, List.takeWhile_cons_of_pos ha.1, List.dropWhile_cons_of_pos ha.1, i1, i2]
    exact ⟨rfl, rfl⟩
theorem part_app (a r : Bs) (ha : a.all dig = true) (hr : ∀ c t, r = c :: t → dig c = false) : part (47 :: (a ++ r)) = some (a, r) := by
  obtain ⟨h1, h2⟩ := tw_app a r ha hr
  show some ((a ++ r).takeWhile dig, (a ++ r).dropWhile dig) = _
  rw [h1, h2]
theorem spl_path {a b c ext : Bs} (ha : a.all dig = true) (hb : b.all dig = true) (hc : c.all dig = true) :
    spl (47 :: a ++ 47 :: b ++ 47 :: c ++ (if ext = [] then [] else 46 :: ext)) = some (a, b, c, ext, !ext.isEmpty) := by
  have e1 : (47 :: a ++ 47 :: b ++ 47 :: c ++ (if ext = [] then [] else 46 :: ext)) = 47 :: (a ++ (47 :: (b ++ (47 :: (c ++ (if ext = [] then [] else 46 :: ext)))))) := by simp
  unfold spl
  rw [e1, part_app a _ ha (by intro c t e; injection e with e1 _; subst e1; rfl), Option.bind_some]
  simp only []
  rw [part_app b _ hb (by intro c t e; injection e with e1 _; subst e1; rfl), Option.bind_some]
  simp only []
  by_cases he : ext = []
  · subst he
    rw [if_pos rfl, part_app c _ hc (by intro c t e; cases e)]
    rfl
  · rw [if_neg he, part_app c _ hc (by intro c t e; injection e with e1 _; subst e1; rfl)]
    simp only [Option.bind_some]
    show some (a, b, c, ext, true) = _
    cases ext with
    | nil => exact absurd rfl he
    | cons => rfl
theorem part_inv {r a r' : Bs} (h : part r = some (a, r')) : r = 47 :: (a ++ r') := by
  unfold part at h
  split at h
  · injection h with h; injection h with h1 h2
    subst h1 h2
    rw [List.takeWhile_append_dropWhile]
  · cases h
theorem tail_inv {r e : Bs} {d : Bool} (h : tail3 r = some (e, d)) : (d = true ∧ r = 46 :: e) ∨ (d = false ∧ r = [] ∧ e = []) := by
  unfold tail3 at h
  split at h
  · injection h with h; injection h with h1 h2; exact .inr ⟨h2.symm, rfl, h1.symm⟩
  · injection h with h; injection h with h1 h2; subst h1; exact .inl ⟨h2.symm, rfl⟩
  · cases h
theorem spl_inv {p a b c e : Bs} {d : Bool} (h : spl p = some (a, b, c, e, d)) : ∃ r, p = 47 :: (a ++ 47 :: (b ++ 47 :: (c ++ r))) ∧ ((d = true ∧ r = 46 :: e) ∨ (d = false ∧ r = [] ∧ e = [])) := by
  unfold spl at h
  simp only [Option.bind_eq_some_iff, Option.map_eq_some_iff, Prod.exists, Prod.mk.injEq] at h
  obtain ⟨a1, r1, h1, b1, r2, h2, c1, r3, h3, e1, d1, h4, rfl, rfl, rfl, rfl, rfl⟩ := h
  refine ⟨r3, ?_, tail_inv h4⟩
  rw [part_inv h1, part_inv h2, part_inv h3]
theorem place_fits {z x y : Int} (h : placeE z x y = 0) : 0 ≤ z ∧ z ≤ 26 ∧ 0 ≤ x ∧ 0 ≤ y ∧ x < 67108864 ∧ y < 67108864 := by
  unfold placeE at h
  split at h
  · cases h
  · rename_i h1
    split at h
    · cases h
    · rename_i h2
      have hp : 2 ^ z.toNat ≤ 2 ^ 26 := Nat.pow_le_pow_right (by omega) (by omega)
      omega
theorem ovr_digs {n : Int} (h : 0 ≤ n) (h2 : n ≤ 67108864) : numE (digs n) = 0 ∧ ovr (digs n) = n := by
  have hk := numOk_digs h
  have hv := numv_digs h
  obtain ⟨e1, e2⟩ := num_ok hk (by unfold BIG; omega)
  refine ⟨e1, ?_⟩
  unfold ovr
  rw [if_neg (by rw [e1]; omega), e2, hv]
theorem known_len {e : Bs} (h : knownB e = true) : e ≠ [] ∧ e.length ≤ 4 := by
  unfold knownB at h
  simp only [Bool.or_eq_true, beq_iff_eq] at h
  rcases h with (((((rfl | rfl) | rfl) | rfl) | rfl) | rfl) | rfl <;> exact ⟨by simp, by simp⟩
theorem path_len {z x y : Int} {e : Bs} (h : placeE z x y = 0) (he : e = [] ∨ knownB e = true) : (pathB z x y e).length ≤ 64 := by
  have hf := place_fits h
  have l1 := digs_len8 (n := z) (by omega)
  have l2 := digs_len8 (n := x) (by omega)
  have l3 := digs_len8 (n := y) (by omega)
  have l4 : (if e = [] then ([] : Bs) else 46 :: e).length ≤ 5 := by
    rcases he with rfl | he
    · simp
    · have := known_len he
      rw [if_neg this.1, List.length_cons]; omega
  unfold pathB
  simp only [List.length_append, List.length_cons]
  omega
/-- A TILE's PATH MEANS THE TILE. -/
theorem rt_path {z x y : Int} {e : Bs} (h : placeE z x y = 0) (he : e = [] ∨ knownB e = true) : rt (pathB z x y e) = ((z, x, y), e, 0) := by
  have hl := path_len h he
  have hf := place_fits h
  unfold rt
  rw [if_neg (by omega)]
  unfold pathB
  rw [spl_path (digs_all (by omega)) (digs_all (by omega)) (digs_all (by omega))]
  show rtAt _ _ _ _ _ = _
  obtain ⟨a1, a2⟩ := ovr_digs (n := z) (by omega) (by omega)
  obtain ⟨b1, b2⟩ := ovr_digs (n := x) (by omega) (by omega)
  obtain ⟨c1, c2⟩ := ovr_digs (n := y) (by omega) (by omega)
  unfold rtAt
  rw [a1, b1, c1, a2, b2, c2, if_neg (by omega), if_neg, if_neg (by omega)]
  rintro ⟨h1, h2⟩
  rcases he with rfl | he
  · cases h1
  · rw [he] at h2; cases h2
theorem print_path {z x y : Int} {e s : Bs} (h : prT z x y e = (s, 0)) : placeE z x y = 0 ∧ (e = [] ∨ knownB e = true) ∧ s = pathB z x y e := by
  unfold prT at h
  split at h
  · rename_i h1; injection h with _ h2; exact absurd h2 h1
  · rename_i h1
    split at h
    · injection h with _ h2; cases h2
    · rename_i h2
      injection h with h3 _
      refine ⟨by omega, ?_, h3.symm⟩
      by_cases he : e = []
      · exact .inl he
      · right
        cases hk : knownB e with
        | true => rfl
        | false => exact absurd ⟨he, hk⟩ h2
theorem rt_cases (p : Bs) : (rt p).2.2 ≠ 0 ∧ rt p = ((0, 0, 0), [], (rt p).2.2) ∨ ∃ z x y e, rt p = ((z, x, y), e, 0) ∧ placeE z x y = 0 ∧ (e = [] ∨ knownB e = true) ∧ p = pathB z x y e := by
  by_cases hl : 64 < p.length
  · have e : rt p = ((0, 0, 0), [], 5) := by unfold rt; rw [if_pos hl]
    rw [e]; exact .inl ⟨by simp, rfl⟩
  · cases hs : spl p with
    | none =>
      have e : rt p = ((0, 0, 0), [], 4) := by unfold rt; rw [if_neg hl, hs]
      rw [e]; exact .inl ⟨by simp, rfl⟩
    | some q =>
      obtain ⟨a, b, c, e, d⟩ := q
      have hr : rt p = rtAt a b c e d := by unfold rt; rw [if_neg hl, hs]
      rw [hr]
      unfold rtAt
      by_cases h1 : numE a = 4 ∨ numE b = 4 ∨ numE c = 4
      · rw [if_pos h1]; exact .inl ⟨by simp, rfl⟩
      · rw [if_neg h1]
        by_cases h2 : d = true ∧ knownB e = false
        · rw [if_pos h2]; exact .inl ⟨by simp, rfl⟩
        · rw [if_neg h2]
          by_cases h3 : placeE (ovr a) (ovr b) (ovr c) ≠ 0
          · rw [if_pos h3]; exact .inl ⟨by simp, rfl⟩
          · rw [if_neg h3]
            have h3' : placeE (ovr a) (ovr b) (ovr c) = 0 := by omega
            have hf := place_fits h3'
            have key : ∀ l : Bs, numE l ≠ 4 → ovr l ≤ 67108864 → digs (ovr l) = l := by
              intro l hn ho
              have h11 : numE l ≠ 11 := by intro e; unfold ovr at ho; rw [if_pos e] at ho; omega
              have hk : numOk l = true := by
                cases hk : numOk l with
                | true => rfl
                | false => exact absurd (num_bad hk).1 hn
              have hv : ¬ BIG < numv l := fun h => h11 (num_over hk h).1
              unfold ovr
              rw [if_neg h11, (num_ok hk hv).2, digs_numv hk]
            have ka := key a (fun e => h1 (.inl e)) (by omega)
            have kb := key b (fun e => h1 (.inr (.inl e))) (by omega)
            have kc := key c (fun e => h1 (.inr (.inr e))) (by omega)
            obtain ⟨r, hp, hd⟩ := spl_inv hs
            refine .inr ⟨_, _, _, e, rfl, h3', ?_, ?_⟩
            · rcases hd with ⟨hd, _⟩ | ⟨_, _, he⟩
              · right
                cases hk : knownB e with
                | true => rfl
                | false => exact absurd ⟨hd, hk⟩ h2
              · exact .inl he
            · unfold pathB
              rw [ka, kb, kc, hp]
              rcases hd with ⟨hd, hr⟩ | ⟨_, hr, he⟩
              · have hk : knownB e = true := by
                  cases hk : knownB e with
                  | true => rfl
                  | false => exact absurd ⟨hd, hk⟩ h2
                rw [if_neg (known_len hk).1, hr]; simp
              · rw [if_pos he, hr]; simp
/-- A PATH THAT MEANS A TILE IS THAT TILE's. -/
theorem print_of {z x y : Int} {e : Bs} (h : placeE z x y = 0) (he : e = [] ∨ knownB e = true) : prT z x y e = (pathB z x y e, 0) := by
  unfold prT
  rw [if_neg (by omega), if_neg]
  rintro ⟨h1, h2⟩
  rcases he with rfl | he
  · exact h1 rfl
  · rw [he] at h2; cases h2
theorem path_ne (z x y : Int) (e : Bs) : pathB z x y e ≠ [] := by unfold pathB; simp
end Go.Gz
