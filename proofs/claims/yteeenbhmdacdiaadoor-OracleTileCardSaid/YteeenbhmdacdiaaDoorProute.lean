/- Plain laws: paths of tiles. -/
import Derived.Test.YteeenbhmdacdiaaDoorPhil
namespace Go.Gz

def pieces : Bs → List Bs → Option (List Bs × Bs × Bool)
  | [], l => if l.length = 3 then some (l, [], false) else none
  | c :: r, l =>
    if c = 47 ∧ l.length < 3 then pieces r (l ++ [[]])
    else if l = [] then none
    else if dig c = true then pieces r (l.dropLast ++ [l.getLastD [] ++ [c]])
    else if c = 46 ∧ l.length = 3 then some (l, r, true)
    else none

theorem pieces_slash {r : Bs} {l : List Bs} (hl : l.length < 3) : pieces (47 :: r) l = pieces r (l ++ [[]]) := by
  show (if (47 : UInt8) = 47 ∧ l.length < 3 then _ else _) = _
  rw [if_pos ⟨rfl, hl⟩]
theorem pieces_nil {c : UInt8} {r : Bs} (h : ¬ c = 47) : pieces (c :: r) [] = none := by
  show (if c = 47 ∧ _ then _ else _) = _
  rw [if_neg (by simp [h]), if_pos rfl]
theorem pieces_num {c : UInt8} {r : Bs} {l : List Bs} (hn : l ≠ []) (hd : dig c = true) : pieces (c :: r) l = pieces r (l.dropLast ++ [l.getLastD [] ++ [c]]) := by
  have h47 : ¬ c = 47 := by intro e; subst e; simp [dig] at hd
  show (if c = 47 ∧ l.length < 3 then _ else _) = _
  rw [if_neg (by simp [h47]), if_neg hn, if_pos hd]
theorem pieces_dot {r : Bs} {l : List Bs} (hl : l.length = 3) : pieces (46 :: r) l = some (l, r, true) := by
  have hn : ¬ l = [] := by intro e; subst e; simp at hl
  show (if (46 : UInt8) = 47 ∧ l.length < 3 then _ else _) = _
  rw [if_neg (by simp), if_neg hn, if_neg (by decide), if_pos ⟨rfl, hl⟩]
theorem pieces_bad {c : UInt8} {r : Bs} {l : List Bs} (h1 : ¬ (c = 47 ∧ l.length < 3)) (h2 : dig c = false) (h3 : ¬ (c = 46 ∧ l.length = 3)) : pieces (c :: r) l = none := by
  show (if c = 47 ∧ l.length < 3 then _ else _) = _
  rw [if_neg h1]
  split
  · rfl
  · simp only [h2, Bool.false_eq_true, if_false]
theorem set_last (l : List Bs) (u : Bs) (hn : l ≠ []) : l.dropLast ++ [u] = l.set (l.length - 1) u := by
  induction l with
  | nil => exact absurd rfl hn
  | cons a r ih =>
    cases r with
    | nil => rfl
    | cons b t =>
      have := ih (by simp)
      simp only [List.dropLast_cons_cons, List.cons_append, List.length_cons, Nat.add_sub_cancel, List.set_cons_succ] at this ⊢
      rw [this]
theorem getLastD_at (l : List Bs) (hn : l ≠ []) : l.getLastD [] = l.getD (l.length - 1) [] := by
  cases l with
  | nil => exact absurd rfl hn
  | cons a r => simp [List.getLastD, List.getLast_eq_getElem, List.getD]
theorem pieces_dig (r : Bs) : ∀ (l : List Bs) (u : Bs), pieces r (l ++ [u]) = pieces (r.dropWhile dig) (l ++ [u ++ r.takeWhile dig]) := by
  induction r with
  | nil => intro l u; simp
  | cons c r ih =>
    intro l u
    by_cases hd : dig c = true
    · have h47 : ¬ c = 47 := by intro e; subst e; simp [dig] at hd
      rw [List.dropWhile_cons_of_pos hd, List.takeWhile_cons_of_pos hd]
      show (if c = 47 ∧ (l ++ [u]).length < 3 then _ else _) = _
      rw [if_neg (by simp [h47]), if_neg (by simp), if_pos hd]
      have e1 : (l ++ [u]).dropLast = l := by simp
      have e2 : (l ++ [u]).getLastD [] = u := by simp
      rw [e1, e2, ih l (u ++ [c])]
      simp
    · rw [List.dropWhile_cons_of_neg hd, List.takeWhile_cons_of_neg hd]; simp

/-- a slash, and what stands behind it: its digits, and the rest -/
def part (r : Bs) : Option (Bs × Bs) := match r with
  | 47 :: r => some (r.takeWhile dig, r.dropWhile dig)
  | _ => none
/-- what stands behind a path's numbers -/
def tail3 (r : Bs) : Option (Bs × Bool) := match r with
  | [] => some ([], false)
  | 46 :: e => some (e, true)
  | _ => none
/-- a path cut at its slashes and its dot -/
def spl (path : Bs) : Option (Bs × Bs × Bs × Bs × Bool) :=
  (part path).bind fun (a, r) => (part r).bind fun (b, r) => (part r).bind fun (c, r) => (tail3 r).map fun (e, d) => (a, b, c, e, d)
theorem dropWhile_head {r : Bs} {c : UInt8} {t : Bs} (h : r.dropWhile dig = c :: t) : dig c = false := by
  induction r with
  | nil => simp at h
  | cons a r ih =>
    by_cases hd : dig a = true
    · rw [List.dropWhile_cons_of_pos hd] at h; exact ih h
    · rw [List.dropWhile_cons_of_neg hd] at h; injection h with h1 h2; subst h1; simpa using hd
theorem pieces_next (l : List Bs) (r : Bs) (hl : l.length < 3) (hd : ∀ c t, r = c :: t → dig c = false) :
    pieces r l = match part r with
      | some (a, r') => pieces r' (l ++ [a])
      | none => none := by
  cases r with
  | nil => simp [pieces, part]; omega
  | cons c t =>
    have hc := hd c t rfl
    by_cases h : c = 47
    · subst h
      show (if (47 : UInt8) = 47 ∧ l.length < 3 then _ else _) = _
      rw [if_pos ⟨rfl, hl⟩, pieces_dig]
      simp [part]
    · have hp : part (c :: t) = none := by
        unfold part
        split
        · rename_i heq; injection heq with h1; exact absurd h1 h
        · rfl
      rw [hp]
      show (if c = 47 ∧ l.length < 3 then _ else _) = _
      rw [if_neg (by simp [h])]
      split
      · rfl
      · rw [if_neg (by simp [hc]), if_neg (by omega)]
theorem pieces_last (l : List Bs) (r : Bs) (hl : l.length = 3) (hd : ∀ c t, r = c :: t → dig c = false) :
    pieces r l = (tail3 r).map fun (e, d) => (l, e, d) := by
  have hne : ¬ l = [] := by intro e; subst e; simp at hl
  cases r with
  | nil => simp [pieces, hl, tail3]
  | cons c t =>
    have hc := hd c t rfl
    show (if c = 47 ∧ l.length < 3 then _ else _) = _
    rw [if_neg (by omega), if_neg hne, if_neg (by simp [hc])]
    by_cases h : c = 46
    · subst h; rw [if_pos ⟨rfl, hl⟩]; rfl
    · have ht : tail3 (c :: t) = none := by
        unfold tail3
        split
        · rename_i heq; cases heq
        · rename_i heq; injection heq with h1; exact absurd h1 h
        · rfl
      rw [if_neg (by simp [h]), ht]; rfl
theorem part_head {r a r' : Bs} (h : part r = some (a, r')) : ∀ c t, r' = c :: t → dig c = false := by
  unfold part at h
  split at h
  · injection h with h; injection h with h1 h2
    intro c t e
    subst e
    exact dropWhile_head h2
  · cases h
theorem pieces_spl (path : Bs) (hd : ∀ c t, path = c :: t → dig c = false) : pieces path [] = (spl path).map fun (a, b, c, e, d) => ([a, b, c], e, d) := by
  unfold spl
  rw [pieces_next [] path (by simp) hd]
  cases h1 : part path with
  | none => rfl
  | some x =>
    obtain ⟨a, r⟩ := x
    simp only [Option.bind_some, List.nil_append]
    rw [pieces_next [a] r (by simp) (part_head h1)]
    cases h2 : part r with
    | none => rfl
    | some x =>
      obtain ⟨b, r2⟩ := x
      simp only [Option.bind_some, List.cons_append, List.nil_append]
      rw [pieces_next [a, b] r2 (by simp) (part_head h2)]
      cases h3 : part r2 with
      | none => rfl
      | some x =>
        obtain ⟨c, r3⟩ := x
        simp only [Option.bind_some, List.cons_append, List.nil_append]
        rw [pieces_last [a, b, c] r3 (by simp) (part_head h3)]
        cases tail3 r3 <;> rfl
/-- a path that does not begin with a slash is none, in both ways of cutting -/
theorem pieces_eq (path : Bs) : pieces path [] = (spl path).map fun (a, b, c, e, d) => ([a, b, c], e, d) := by
  by_cases hd : ∀ c t, path = c :: t → dig c = false
  · exact pieces_spl path hd
  · cases path with
    | nil => exact absurd (fun c t e => by cases e) hd
    | cons c t =>
      have hc : dig c = true := by
        cases h : dig c with
        | true => rfl
        | false => exact absurd (fun c' t' e => by injection e with e1; subst e1; exact h) hd
      have h47 : ¬ c = 47 := by intro e; subst e; simp [dig] at hc
      have hp : part (c :: t) = none := by
        unfold part
        split
        · rename_i heq; injection heq with h1; exact absurd h1 h47
        · rfl
      unfold spl
      rw [hp]
      show (if c = 47 ∧ _ then _ else _) = _
      rw [if_neg (by simp [h47]), if_pos rfl]; rfl
theorem extract_mk (l : Bs) (a : Nat) : (⟨l.toArray⟩ : ByteArray).extract a l.length = ⟨(l.drop a).toArray⟩ := by
  apply ByteArray.ext
  rw [ByteArray.data_extract]
  apply Array.ext'
  simp only [Array.toList_extract, List.extract_eq_take_drop]
  rw [List.take_of_length_le (by simp)]
theorem extract_take (l : Bs) (a : Nat) : (⟨l.toArray⟩ : ByteArray).extract 0 a = ⟨(l.take a).toArray⟩ := by
  apply ByteArray.ext
  rw [ByteArray.data_extract]
  apply Array.ext'
  simp
theorem extract_cons (c : UInt8) (t : Bs) : (⟨(c :: t).toArray⟩ : ByteArray).extract 1 (t.length + 1) = ⟨t.toArray⟩ := by
  have := extract_mk (c :: t) 1
  simpa using this
theorem enc_ascii (c : UInt8) (h : c.toNat < 128) : Utf8.encode (c.toNat : Int) = ⟨[c].toArray⟩ := by
  have hv : Utf8.valid (c.toNat : Int) = true := by simp [Utf8.valid]; omega
  unfold Utf8.encode
  simp [hv, h]
end Go.Gz
