/- Plain laws: entries of directories, and directories as bytes. -/
import Derived.Test.YtkfococpanailaaGreatDoorGB09
namespace Go.Gz
/-- an entry of a directory -/
structure Ent where
  id : Nat
  off : Nat
  len : Nat
  run : Nat
deriving DecidableEq
abbrev Ents := List Ent
def zE : Ent := ⟨0, 0, 0, 0⟩
def wideE (e : Ent) : Nat := max 1 e.run
def chkE (e : Ent) : Int := if e.len = 0 then 2 else if 6004799503160661 < e.id + wideE e then 8 else if 1099511627776 < e.off + e.len then 8 else 0
def lastE (e : Ent) : Nat := if chkE e = 0 then e.id + wideE e - 1 else 0
def hasE (e : Ent) (id : Nat) : Bool := decide (chkE e = 0) && decide (0 < e.run) && decide (e.id ≤ id) && decide (id ≤ lastE e)
/-- whether entries rise, from a first identifier that is free -/
def rowGo : Nat → Ents → Int
  | _, [] => 0
  | free, e :: r => if chkE e ≠ 0 then chkE e else if e.id < free then 10 else rowGo (lastE e + 1) r
def rowE (l : Ents) : Int := if 4096 < l.length then 21 else rowGo 0 l
/-- an entry whose numbers are numbers of their kinds -/
def okE (e : Ent) : Prop := e.id < 18446744073709551616 ∧ e.off < 18446744073709551616 ∧ e.len < 4294967296 ∧ e.run < 4294967296
theorem chk_ok {e : Ent} (h : chkE e = 0) : 0 < e.len ∧ e.id + wideE e ≤ 6004799503160661 ∧ e.off + e.len ≤ 1099511627776 := by
  unfold chkE at h
  split at h
  · simp at h
  · split at h
    · simp at h
    · split at h
      · simp at h
      · omega
theorem chk_mk {e : Ent} (h1 : 0 < e.len) (h2 : e.id + wideE e ≤ 6004799503160661) (h3 : e.off + e.len ≤ 1099511627776) : chkE e = 0 := by
  unfold chkE
  rw [if_neg (by omega), if_neg (by omega), if_neg (by omega)]
theorem wide_pos (e : Ent) : 1 ≤ wideE e ∧ e.run ≤ wideE e := by unfold wideE; omega
theorem last_ok {e : Ent} (h : chkE e = 0) : lastE e = e.id + wideE e - 1 := by unfold lastE; rw [if_pos h]
theorem has_iff {e : Ent} {id : Nat} : hasE e id = true ↔ chkE e = 0 ∧ 0 < e.run ∧ e.id ≤ id ∧ id < e.id + e.run := by
  unfold hasE
  simp only [Bool.and_eq_true, decide_eq_true_eq]
  constructor
  · rintro ⟨⟨⟨h1, h2⟩, h3⟩, h4⟩
    rw [last_ok h1] at h4
    refine ⟨h1, h2, h3, ?_⟩
    have : wideE e = e.run := by unfold wideE; omega
    omega
  · rintro ⟨h1, h2, h3, h4⟩
    refine ⟨⟨⟨h1, h2⟩, h3⟩, ?_⟩
    rw [last_ok h1]
    have : wideE e = e.run := by unfold wideE; omega
    omega
theorem rowGo_cons {f : Nat} {e : Ent} {r : Ents} (h : rowGo f (e :: r) = 0) : chkE e = 0 ∧ f ≤ e.id ∧ rowGo (e.id + wideE e) r = 0 := by
  unfold rowGo at h
  split at h
  · contradiction
  · rename_i h1
    have h1 : chkE e = 0 := by omega
    split at h
    · simp at h
    · refine ⟨h1, by omega, ?_⟩
      rw [last_ok h1] at h
      have := wide_pos e
      rwa [show e.id + wideE e - 1 + 1 = e.id + wideE e by omega] at h
theorem rowGo_mk {f : Nat} {e : Ent} {r : Ents} (h1 : chkE e = 0) (h2 : f ≤ e.id) (h3 : rowGo (e.id + wideE e) r = 0) : rowGo f (e :: r) = 0 := by
  unfold rowGo
  have := wide_pos e
  rw [if_neg (by omega), if_neg (by omega), last_ok h1, show e.id + wideE e - 1 + 1 = e.id + wideE e by omega, h3]
theorem rowGo_iff (l : Ents) : ∀ f, rowGo f l = 0 ↔ (∀ e ∈ l, chkE e = 0 ∧ f ≤ e.id) ∧ l.Pairwise (fun a b => a.id + wideE a ≤ b.id) := by
  induction l with
  | nil => intro f; simp [rowGo]
  | cons e r ih =>
    intro f
    constructor
    · intro h
      obtain ⟨h1, h2, h3⟩ := rowGo_cons h
      obtain ⟨g1, g2⟩ := (ih _).1 h3
      refine ⟨fun x hx => ?_, List.pairwise_cons.2 ⟨fun x hx => (g1 x hx).2, g2⟩⟩
      rcases List.mem_cons.1 hx with rfl | hx
      · exact ⟨h1, h2⟩
      · have := g1 x hx; exact ⟨this.1, by omega⟩
    · rintro ⟨h1, h2⟩
      obtain ⟨g1, g2⟩ := List.pairwise_cons.1 h2
      have h0 := h1 e (by simp)
      exact rowGo_mk h0.1 h0.2 ((ih _).2 ⟨fun x hx => ⟨(h1 x (by simp [hx])).1, g1 x hx⟩, g2⟩)
theorem row_len {l : Ents} (h : rowE l = 0) : l.length ≤ 4096 := by
  unfold rowE at h
  split at h
  · simp at h
  · omega
theorem row_go {l : Ents} (h : rowE l = 0) : rowGo 0 l = 0 := by
  unfold rowE at h
  split at h
  · simp at h
  · exact h
theorem row_mk {l : Ents} (h1 : l.length ≤ 4096) (h2 : rowGo 0 l = 0) : rowE l = 0 := by
  unfold rowE; rw [if_neg (by omega), h2]
theorem row_iff (l : Ents) : rowE l = 0 ↔ l.length ≤ 4096 ∧ (∀ e ∈ l, chkE e = 0) ∧ l.Pairwise (fun a b => a.id + wideE a ≤ b.id) := by
  constructor
  · intro h
    have := (rowGo_iff l 0).1 (row_go h)
    exact ⟨row_len h, fun e he => (this.1 e he).1, this.2⟩
  · rintro ⟨h1, h2, h3⟩
    exact row_mk h1 ((rowGo_iff l 0).2 ⟨fun e he => ⟨h2 e he, Nat.zero_le _⟩, h3⟩)
theorem row_chk {l : Ents} (h : rowE l = 0) {e : Ent} (he : e ∈ l) : chkE e = 0 := ((row_iff l).1 h).2.1 e he
/-- the cells of entries -/
def entC (e : Ent) : List Value := [.int .u64 (e.id : Int), .int .u64 (e.off : Int), .int .u32 (e.len : Int), .int .u32 (e.run : Int)]
def entV (l : Ents) : List Value := l.flatMap entC
theorem entV_nil : entV [] = [] := rfl
theorem entV_cons (e : Ent) (l : Ents) : entV (e :: l) = .int .u64 (e.id : Int) :: .int .u64 (e.off : Int) :: .int .u32 (e.len : Int) :: .int .u32 (e.run : Int) :: entV l := rfl
theorem entV_app (l m : Ents) : entV (l ++ m) = entV l ++ entV m := by simp [entV]
theorem entV_len (l : Ents) : (entV l).length = l.length * 4 := by
  induction l with
  | nil => rfl
  | cons e r ih => rw [entV_cons]; simp [ih]; omega
theorem entV_get (l : Ents) : ∀ k (h : k < l.length), (entV l)[k * 4]? = some (.int .u64 (l[k].id : Int)) ∧ (entV l)[k * 4 + 1]? = some (.int .u64 (l[k].off : Int)) ∧ (entV l)[k * 4 + 2]? = some (.int .u32 (l[k].len : Int)) ∧ (entV l)[k * 4 + 3]? = some (.int .u32 (l[k].run : Int)) := by
  induction l with
  | nil => intro k h; simp at h
  | cons x r ih =>
    intro k h
    rw [entV_cons]
    cases k with
    | zero => exact ⟨rfl, rfl, rfl, rfl⟩
    | succ k =>
      have := ih k (by simp at h; omega)
      rw [show (k + 1) * 4 = k * 4 + 1 + 1 + 1 + 1 by omega]
      simpa using this
theorem entV_one (l : Ents) : ∀ u ∈ entV l, u.oneCell' = true := by
  intro u hu
  simp only [entV, entC, List.mem_flatMap] at hu
  obtain ⟨x, _, hx⟩ := hu
  simp at hx
  rcases hx with rfl | rfl | rfl | rfl <;> rfl
theorem entV_take (l : Ents) (k : Nat) : entV (l.take k) = (entV l).take (k * 4) := by
  induction l generalizing k with
  | nil => simp [entV]
  | cons x r ih =>
    cases k with
    | zero => simp [entV]
    | succ k => rw [List.take_succ_cons, entV_cons, entV_cons, ih, show (k + 1) * 4 = k * 4 + 1 + 1 + 1 + 1 by omega]; rfl
theorem entV_drop (l : Ents) (k : Nat) : entV (l.drop k) = (entV l).drop (k * 4) := by
  induction l generalizing k with
  | nil => simp [entV]
  | cons x r ih =>
    cases k with
    | zero => simp
    | succ k => rw [List.drop_succ_cons, entV_cons, ih, show (k + 1) * 4 = k * 4 + 1 + 1 + 1 + 1 by omega]; rfl
/-- the number of an entry in a column -/
def numC (c i : Nat) (a e : Ent) : Nat :=
  if c = 0 then e.id - a.id else if c = 1 then e.run else if c = 2 then e.len else if 0 < i ∧ e.off = a.off + a.len then 0 else e.off + 1
def colN (c : Nat) : Nat → Ent → Ents → List Nat
  | _, _, [] => []
  | i, a, e :: r => numC c i a e :: colN c (i + 1) e r
def nums (l : Ents) : List Nat := l.length :: (colN 0 0 zE l ++ (colN 1 0 zE l ++ (colN 2 0 zE l ++ colN 3 0 zE l)))
def dirB (l : Ents) : Bs := (nums l).flatMap vB
def sizeL (xs : List Nat) : Nat := (xs.map fun x => (vB x).length).sum
theorem size_flat (xs : List Nat) : (xs.flatMap vB).length = sizeL xs := by
  induction xs with
  | nil => rfl
  | cons x r ih => unfold sizeL at *; simp [List.flatMap_cons, ih]
theorem dirB_len (l : Ents) : (dirB l).length = sizeL (nums l) := size_flat _
theorem sizeL_app (a b : List Nat) : sizeL (a ++ b) = sizeL a + sizeL b := by simp [sizeL]
theorem colN_len (c : Nat) (l : Ents) : ∀ i a, (colN c i a l).length = l.length := by
  induction l with
  | nil => intro i a; rfl
  | cons e r ih => intro i a; unfold colN; simp [ih]
theorem nums_len (l : Ents) : (nums l).length = 1 + 4 * l.length := by unfold nums; simp [colN_len]; omega
theorem colN_lt (c : Nat) (l : Ents) : ∀ i a, (∀ e ∈ l, chkE e = 0) → (∀ e ∈ l, okE e) → ∀ x ∈ colN c i a l, x < 18446744073709551616 := by
  induction l with
  | nil => intro i a _ _ x hx; simp [colN] at hx
  | cons e r ih =>
    intro i a h1 h2 x hx
    unfold colN at hx
    rcases List.mem_cons.1 hx with rfl | hx
    · have g1 := chk_ok (h1 e (by simp))
      have g2 := h2 e (by simp)
      unfold okE at g2
      unfold numC
      split
      · omega
      · split
        · omega
        · split
          · omega
          · split <;> omega
    · exact ih _ _ (fun e he => h1 e (by simp [he])) (fun e he => h2 e (by simp [he])) x hx
theorem nums_lt {l : Ents} (h : rowE l = 0) (h2 : ∀ e ∈ l, okE e) : ∀ x ∈ nums l, x < 18446744073709551616 := by
  intro x hx
  have h1 : ∀ e ∈ l, chkE e = 0 := fun e he => row_chk h he
  have hl := row_len h
  unfold nums at hx
  simp only [List.mem_cons, List.mem_append] at hx
  rcases hx with rfl | hx | hx | hx | hx
  · omega
  all_goals exact colN_lt _ l _ _ h1 h2 x hx
theorem size_le (xs : List Nat) (h : ∀ x ∈ xs, x < 18446744073709551616) : sizeL xs ≤ 10 * xs.length := by
  induction xs with
  | nil => simp [sizeL]
  | cons x r ih =>
    have h1 := vB_len10 (h x (by simp))
    have h2 := ih (fun y hy => h y (by simp [hy]))
    unfold sizeL at *
    simp; omega
/-- what a directory's bytes are, or why there are none -/
def encE (l : Ents) : Int := if rowE l ≠ 0 then rowE l else if 65536 < (dirB l).length then 5 else 0
def encB (l : Ents) : Bs := if encE l = 0 then dirB l else []
def sizeD (l : Ents) : Nat := if rowE l ≠ 0 then 0 else (dirB l).length
/-- setting a field by its number in a column -/
def nextE (e : Ent) : Nat := (e.off + e.len) % 18446744073709551616
def setE (c i : Nat) (a e : Ent) (x : Nat) : Int × Ent :=
  if c = 0 then (if (a.id + x) % 18446744073709551616 < x then 11 else 0, { e with id := (a.id + x) % 18446744073709551616 })
  else if c = 1 then (if 4294967296 ≤ x then (11, e) else (0, { e with run := x }))
  else if c = 2 then (if 4294967296 ≤ x then (11, e) else (0, { e with len := x }))
  else if i = 0 ∧ x = 0 ∨ 0 < i ∧ 0 < x ∧ (x + 18446744073709551615) % 18446744073709551616 = nextE a then (4, e)
  else (0, { e with off := if x = 0 then nextE a else (x + 18446744073709551615) % 18446744073709551616 })
def colD (c : Nat) : Nat → Ent → Ents → Bs → Int × Ents × Bs
  | _, _, [], t => (0, [], t)
  | i, a, e :: r, t =>
    if (getV t).1 ≠ 0 then ((getV t).1, [], [])
    else if (setE c i a e (getV t).2.1).1 ≠ 0 then ((setE c i a e (getV t).2.1).1, [], [])
    else
      let q := colD c (i + 1) (setE c i a e (getV t).2.1).2 r (t.drop (getV t).2.2)
      (q.1, (setE c i a e (getV t).2.1).2 :: q.2.1, q.2.2)
def colsD : Nat → Nat → Ents → Bs → Int × Ents × Bs
  | _, 0, l, t => (0, l, t)
  | c, k + 1, l, t =>
    let q := colD c 0 zE l t
    if q.1 ≠ 0 then (q.1, [], []) else colsD (c + 1) k q.2.1 q.2.2
def endD (q : Int × Ents × Bs) : Int × Ents :=
  if q.1 ≠ 0 then (q.1, []) else if q.2.2 ≠ [] then (4, []) else if rowE q.2.1 ≠ 0 then (rowE q.2.1, []) else (0, q.2.1)
def decD (s : Bs) : Int × Ents :=
  if 65536 < s.length then (5, []) else if (getV s).1 ≠ 0 then ((getV s).1, []) else if 4096 < (getV s).2.1 then (21, [])
  else endD (colsD 0 4 (List.replicate (getV s).2.1 zE) (s.drop (getV s).2.2))
theorem decD_row {s : Bs} (h : (decD s).1 = 0) : rowE (decD s).2 = 0 := by
  unfold decD at h ⊢
  split at h
  · simp at h
  · rename_i g1
    split at h
    · contradiction
    · rename_i g2
      split at h
      · simp at h
      · rename_i g3
        rw [if_neg g1, if_neg g2, if_neg g3]
        unfold endD at h ⊢
        split at h
        · contradiction
        · rename_i g4
          split at h
          · simp at h
          · rename_i g5
            split at h
            · contradiction
            · rename_i g6
              rw [if_neg g4, if_neg g5, if_neg g6]; simp at g6; exact g6
theorem decD_bad {s : Bs} (h : (decD s).1 ≠ 0) : (decD s).2 = [] := by
  unfold decD at h ⊢
  split
  · rfl
  · split
    · rfl
    · split
      · rfl
      · unfold endD at h ⊢
        split
        · rfl
        · split
          · rfl
          · split
            · rfl
            · rename_i g1 g2 g3 g4 g5 g6
              rw [if_neg g1, if_neg g2, if_neg g3, if_neg g4, if_neg g5, if_neg g6] at h; simp at h
end Go.Gz
