/- Plain laws: what a path means. -/
import Derived.Test.YteeenbhmdacdiaaDoorProute
namespace Go.Gz
def knownB (l : Bs) : Bool := l == [97, 118, 105, 102] || l == [106, 112, 101, 103] || l == [106, 112, 103] || l == [109, 118, 116] || l == [112, 98, 102] || l == [112, 110, 103] || l == [119, 101, 98, 112]
/-- a number as a path has it -/
def ovr (l : Bs) : Int := if numE l = 11 then 1099511627776 else numV l
def rtAt (a b c ext : Bs) (dot : Bool) : (Int × Int × Int) × Bs × Int :=
  if numE a = 4 ∨ numE b = 4 ∨ numE c = 4 then ((0, 0, 0), [], 4)
  else if dot = true ∧ knownB ext = false then ((0, 0, 0), [], 14)
  else if placeE (ovr a) (ovr b) (ovr c) ≠ 0 then ((0, 0, 0), [], 8)
  else ((ovr a, ovr b, ovr c), ext, 0)
/-- the tile of a path, its extension, the error -/
def rt (path : Bs) : (Int × Int × Int) × Bs × Int :=
  if 64 < path.length then ((0, 0, 0), [], 5)
  else match spl path with
    | none => ((0, 0, 0), [], 4)
    | some (a, b, c, ext, dot) => rtAt a b c ext dot
/-- the path of a tile, the error -/
def pathB (z x y : Int) (ext : Bs) : Bs := 47 :: digs z ++ 47 :: digs x ++ 47 :: digs y ++ (if ext = [] then [] else 46 :: ext)
def prT (z x y : Int) (ext : Bs) : Bs × Int :=
  if placeE z x y ≠ 0 then ([], placeE z x y) else if ext ≠ [] ∧ knownB ext = false then ([], 14) else (pathB z x y ext, 0)
theorem place_cases (z x y : Int) : placeE z x y = 0 ∨ placeE z x y = 2 ∨ placeE z x y = 8 := by
  unfold placeE; split
  · exact .inr (.inl rfl)
  · split
    · exact .inr (.inr rfl)
    · exact .inl rfl
def bad (e : Int) : (Int × Int × Int) × Bs × Int := ((0, 0, 0), [], e)
/-- what is left to tell of three numbers and what stands behind them -/
def rfin (vs : List Int) (rest : Bs) : (Int × Int × Int) × Bs × Int :=
  match tail3 rest with
  | none => bad 4
  | some (e, dot) => if dot = true ∧ knownB e = false then bad 14
    else if placeE (vs.getD 0 0) (vs.getD 1 0) (vs.getD 2 0) ≠ 0 then bad 8 else ((vs.getD 0 0, vs.getD 1 0, vs.getD 2 0), e, 0)
/-- the reference's way -/
def rgo : Nat → List Int → Bs → (Int × Int × Int) × Bs × Int
  | 0, vs, rest => rfin vs rest
  | n + 1, vs, rest => match part rest with
    | none => bad 4
    | some (d, r) => if numE d = 4 then bad 4 else rgo n (vs ++ [ovr d]) r
theorem rt_rgo (l : Bs) (h : ¬ 64 < l.length) : rt l = rgo 3 [] l := by
  unfold rt spl rgo
  rw [if_neg h]
  cases h1 : part l with
  | none => rfl
  | some x =>
    obtain ⟨a, r1⟩ := x
    simp only [Option.bind_some, List.nil_append]
    cases h2 : part r1 with
    | none =>
      simp only [Option.bind_none]
      unfold rgo
      rw [h2]
      by_cases e : numE a = 4
      · rw [if_pos e]; rfl
      · rw [if_neg e]; rfl
    | some x =>
      obtain ⟨b, r2⟩ := x
      simp only [Option.bind_some]
      unfold rgo
      rw [h2]
      simp only [List.cons_append, List.nil_append]
      cases h3 : part r2 with
      | none =>
        simp only [Option.bind_none]
        unfold rgo
        rw [h3]
        by_cases e : numE a = 4
        · rw [if_pos e]; rfl
        · rw [if_neg e]
          by_cases e : numE b = 4
          · rw [if_pos e]; rfl
          · rw [if_neg e]; rfl
      | some x =>
        obtain ⟨c, r3⟩ := x
        simp only [Option.bind_some]
        unfold rgo
        rw [h3]
        simp only [List.cons_append, List.nil_append, rgo]
        unfold rfin
        cases h4 : tail3 r3 with
        | none =>
          simp only [Option.map_none]
          by_cases ea : numE a = 4
          · rw [if_pos ea]; rfl
          · rw [if_neg ea]
            by_cases eb : numE b = 4
            · rw [if_pos eb]; rfl
            · rw [if_neg eb]
              by_cases ec : numE c = 4
              · rw [if_pos ec]; rfl
              · rw [if_neg ec]; rfl
        | some x =>
          obtain ⟨e, dot⟩ := x
          simp only [Option.map_some]
          unfold rtAt
          by_cases ea : numE a = 4
          · rw [if_pos (.inl ea), if_pos ea]; rfl
          · rw [if_neg ea]
            by_cases eb : numE b = 4
            · rw [if_pos (.inr (.inl eb)), if_pos eb]; rfl
            · rw [if_neg eb]
              by_cases ec : numE c = 4
              · rw [if_pos (.inr (.inr ec)), if_pos ec]; rfl
              · rw [if_neg ec, if_neg (by simp [ea, eb, ec])]; rfl
/-! ### the digits that a text begins with -/
theorem tw_take (l : Bs) : l.take (l.takeWhile dig).length = l.takeWhile dig ∧ l.drop (l.takeWhile dig).length = l.dropWhile dig := by
  induction l with
  | nil => simp
  | cons c r ih =>
    by_cases h : dig c = true
    · rw [List.takeWhile_cons_of_pos h, List.dropWhile_cons_of_pos h]
      simp only [List.length_cons, List.take_succ_cons, List.drop_succ_cons, ih, and_self]
    · rw [List.takeWhile_cons_of_neg h, List.dropWhile_cons_of_neg h]; simp
theorem tw_all (l : Bs) : (l.takeWhile dig).all dig = true := by
  induction l with
  | nil => rfl
  | cons c r ih =>
    by_cases h : dig c = true
    · rw [List.takeWhile_cons_of_pos h, List.all_cons, h, ih]; rfl
    · rw [List.takeWhile_cons_of_neg h]; rfl
theorem tw_len (l : Bs) : (l.takeWhile dig).length ≤ l.length := (List.takeWhile_sublist (p := dig) (l := l)).length_le
theorem tw_at (l : Bs) (k : Nat) (h : k < (l.takeWhile dig).length) (h2 : k < l.length) : dig l[k] = true := by
  have e : l[k] = (l.takeWhile dig)[k] := by
    have := (tw_take l).1
    have h3 : (l.take (l.takeWhile dig).length)[k]'(by rw [this]; exact h) = l[k] := by simp
    rw [← h3]; congr 1
  rw [e]
  exact List.all_eq_true.1 (tw_all l) _ (List.getElem_mem _)
theorem tw_end (l : Bs) (h2 : (l.takeWhile dig).length < l.length) : dig l[(l.takeWhile dig).length] = false := by
  have h := (tw_take l).2
  rw [List.drop_eq_getElem_cons h2] at h
  exact dropWhile_head h.symm
theorem numE_cases (l : Bs) : numE l = 4 ∨ numE l = 11 ∨ numE l = 0 := by
  unfold numE; split
  · exact .inl rfl
  · split
    · exact .inr (.inl rfl)
    · exact .inr (.inr rfl)
theorem numV_le (l : Bs) : 0 ≤ numV l ∧ numV l ≤ 9007199254740991 := by
  unfold numV BIG; split
  · omega
  · split
    · omega
    · omega
theorem spl_len {path a b c e : Bs} {d : Bool} (h : spl path = some (a, b, c, e, d)) : a.length ≤ path.length ∧ b.length ≤ path.length ∧ c.length ≤ path.length ∧ e.length ≤ path.length := by
  have hp : ∀ {r a r' : Bs}, part r = some (a, r') → a.length ≤ r.length ∧ r'.length ≤ r.length := by
    intro r a r' h
    unfold part at h
    split at h
    · injection h with h; injection h with h1 h2
      subst h1 h2
      rename_i t
      have h1 := (List.takeWhile_sublist (p := dig) (l := t)).length_le
      have h2 := (List.dropWhile_sublist (p := dig) (l := t)).length_le
      simp only [List.length_cons]; omega
    · cases h
  unfold spl at h
  simp only [Option.bind_eq_some_iff, Option.map_eq_some_iff, Prod.exists, Prod.mk.injEq] at h
  obtain ⟨a1, r1, h1, b1, r2, h2, c1, r3, h3, e1, d1, h4, e2⟩ := h
  have := hp h1
  have := hp h2
  have := hp h3
  have h5 : e1.length ≤ r3.length := by
    unfold tail3 at h4
    split at h4
    · injection h4 with h4; injection h4 with h4 _; subst h4; simp
    · injection h4 with h4; injection h4 with h4 _; subst h4; simp
    · cases h4
  obtain ⟨rfl, rfl, rfl, rfl, rfl⟩ := e2
  omega
end Go.Gz
