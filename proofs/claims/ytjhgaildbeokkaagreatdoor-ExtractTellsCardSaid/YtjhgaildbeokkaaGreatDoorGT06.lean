/- Plain laws: entries of directories, and directories as bytes. -/
import Derived.Test.YtjhgaildbeokkaaGreatDoorGT01
namespace Go.Gz
/-- an entry of a directory -/
structure Ent where
  id : Nat
  off : Nat
  len : Nat
  run : Nat
deriving DecidableEq
abbrev Ents := List Ent
def zE : Ent := ⟨0, 0, 0, 0⟩
def wideE (e : Ent) : Nat := max 1 e.run
def chkE (e : Ent) : Int := if e.len = 0 then 2 else if 6004799503160661 < e.id + wideE e then 8 else if 1099511627776 < e.off + e.len then 8 else 0
def lastE (e : Ent) : Nat := if chkE e = 0 then e.id + wideE e - 1 else 0
def hasE (e : Ent) (id : Nat) : Bool := decide (chkE e = 0) && decide (0 < e.run) && decide (e.id ≤ id) && decide (id ≤ lastE e)
/-- whether entries rise, from a first identifier that is free -/
def rowGo : Nat → Ents → Int
  | _, [] => 0
  | free, e :: r => if chkE e ≠ 0 then chkE e else if e.id < free then 10 else rowGo (lastE e + 1) r
def rowE (l : Ents) : Int := if 4096 < l.length then 21 else rowGo 0 l
/-- an entry whose numbers are numbers of their kinds -/
def okE (e : Ent) : Prop := e.id < 18446744073709551616 ∧ e.off < 18446744073709551616 ∧ e.len < 4294967296 ∧ e.run < 4294967296
theorem chk_ok {e : Ent} (h : chkE e = 0) : 0 < e.len ∧ e.id + wideE e ≤ 6004799503160661 ∧ e.off + e.len ≤ 1099511627776 := by
  unfold chkE at h;split at h
  · simp at h
  · split at h
    · simp at h
    · split at h
      · simp at h
      · omega
theorem chk_mk {e : Ent} (h1 : 0 < e.len) (h2 : e.id + wideE e ≤ 6004799503160661) (h3 : e.off + e.len ≤ 1099511627776) : chkE e = 0 := by
  unfold chkE;rw [if_neg (by omega), if_neg (by omega), if_neg (by omega)]
theorem wide_pos (e : Ent) : 1 ≤ wideE e ∧ e.run ≤ wideE e := by unfold wideE; omega
theorem last_ok {e : Ent} (h : chkE e = 0) : lastE e = e.id + wideE e - 1 := by unfold lastE; rw [if_pos h]
theorem has_iff {e : Ent} {id : Nat} : hasE e id = true ↔ chkE e = 0 ∧ 0 < e.run ∧ e.id ≤ id ∧ id < e.id + e.run := by
  unfold hasE;simp only [Bool.and_eq_true, decide_eq_true_eq];constructor
  · rintro ⟨⟨⟨h1, h2⟩, h3⟩, h4⟩;rw [last_ok h1] at h4;refine ⟨h1, h2, h3, ?_⟩;have : wideE e = e.run := by unfold wideE; omega
    omega
  · rintro ⟨h1, h2, h3, h4⟩;refine ⟨⟨⟨h1, h2⟩, h3⟩, ?_⟩;rw [last_ok h1];have : wideE e = e.run := by unfold wideE; omega
    omega
theorem rowGo_cons {f : Nat} {e : Ent} {r : Ents} (h : rowGo f (e :: r) = 0) : chkE e = 0 ∧ f ≤ e.id ∧ rowGo (e.id + wideE e) r = 0 := by
  unfold rowGo at h;split at h
  · contradiction
  · rename_i h1;have h1 : chkE e = 0 := by omega
    split at h
    · simp at h
    · refine ⟨h1, by omega, ?_⟩;rw [last_ok h1] at h;have := wide_pos e;rwa [show e.id + wideE e - 1 + 1 = e.id + wideE e by omega] at h
theorem rowGo_mk {f : Nat} {e : Ent} {r : Ents} (h1 : chkE e = 0) (h2 : f ≤ e.id) (h3 : rowGo (e.id + wideE e) r = 0) : rowGo f (e :: r) = 0 := by
  unfold rowGo;have := wide_pos e;rw [if_neg (by omega), if_neg (by omega), last_ok h1, show e.id + wideE e - 1 + 1 = e.id + wideE e by omega, h3]
theorem rowGo_iff (l : Ents) : ∀ f, rowGo f l = 0 ↔ (∀ e ∈ l, chkE e = 0 ∧ f ≤ e.id) ∧ l.Pairwise (fun a b => a.id + wideE a ≤ b.id) := by
  induction l with
  | nil => intro f; simp [rowGo]
  | cons e r ih =>
    intro f;constructor
    · intro h;obtain ⟨h1, h2, h3⟩ := rowGo_cons h;obtain ⟨g1, g2⟩ := (ih _).1 h3;refine ⟨fun x hx => ?_, List.pairwise_cons.2 ⟨fun x hx => (g1 x hx).2, g2⟩⟩;rcases List.mem_cons.1 hx with rfl | hx
      · exact ⟨h1, h2⟩
      · have := g1 x hx; exact ⟨this.1, by omega⟩
    · rintro ⟨h1, h2⟩;obtain ⟨g1, g2⟩ := List.pairwise_cons.1 h2;have h0 := h1 e (by simp);exact rowGo_mk h0.1 h0.2 ((ih _).2 ⟨fun x hx => ⟨(h1 x (by simp [hx])).1, g1 x hx⟩, g2⟩)
theorem row_len {l : Ents} (h : rowE l = 0) : l.length ≤ 4096 := by
  unfold rowE at h;split at h
  · simp at h
  · omega
theorem row_go {l : Ents} (h : rowE l = 0) : rowGo 0 l = 0 := by
  unfold rowE at h;split at h
  · simp at h
  · exact h
theorem row_mk {l : Ents} (h1 : l.length ≤ 4096) (h2 : rowGo 0 l = 0) : rowE l = 0 := by
  unfold rowE; rw [if_neg (by omega), h2]
theorem row_iff (l : Ents) : rowE l = 0 ↔ l.length ≤ 4096 ∧ (∀ e ∈ l, chkE e = 0) ∧ l.Pairwise (fun a b => a.id + wideE a ≤ b.id) := by
  constructor
  · intro h;have := (rowGo_iff l 0).1 (row_go h);exact ⟨row_len h, fun e he => (this.1 e he).1, this.2⟩
  · rintro ⟨h1, h2, h3⟩;exact row_mk h1 ((rowGo_iff l 0).2 ⟨fun e he => ⟨h2 e he, Nat.zero_le _⟩, h3⟩)
theorem row_chk {l : Ents} (h : rowE l = 0) {e : Ent} (he : e ∈ l) : chkE e = 0 := ((row_iff l).1 h).2.1 e he
/-- the cells of entries -/
def entC (e : Ent) : List Value := [.int .u64 (e.id : Int), .int .u64 (e.off : Int), .int .u32 (e.len : Int), .int .u32 (e.run : Int)]
def entV (l : Ents) : List Value := l.flatMap entC
theorem entV_nil : entV [] = [] := rfl
theorem entV_cons (e : Ent) (l : Ents) : entV (e :: l) = .int .u64 (e.id : Int) :: .int .u64 (e.off : Int) :: .int .u32 (e.len : Int) :: .int .u32 (e.run : Int) :: entV l := rfl
theorem entV_app (l m : Ents) : entV (l ++ m) = entV l ++ entV m := by simp [entV]
theorem entV_len (l : Ents) : (entV l).length = l.length * 4 := by
  induction l with
  | nil => rfl
  | cons e r ih => rw [entV_cons]; simp [ih]; omega
theorem entV_get (l : Ents) : ∀ k (h : k < l.length), (entV l)[k * 4]? = some (.int .u64 (l[k].id : Int)) ∧ (entV l)[k * 4 + 1]? = some (.int .u64 (l[k].off : Int)) ∧ (entV l)[k * 4 + 2]? = some (.int .u32 (l[k].len : Int)) ∧ (entV l)[k * 4 + 3]? = some (.int .u32 (l[k].run : Int)) := by
  induction l with
  | nil => intro k h; simp at h
  | cons x r ih =>
    intro k h;rw [entV_cons];cases k with
    | zero => exact ⟨rfl, rfl, rfl, rfl⟩
    | succ k =>
      have := ih k (by simp at h; omega);rw [show (k + 1) * 4 = k * 4 + 1 + 1 + 1 + 1 by omega];simpa using this
theorem entV_one (l : Ents) : ∀ u ∈ entV l, u.oneCell' = true := by
  intro u hu;simp only [entV, entC, List.mem_flatMap] at hu;obtain ⟨x, _, hx⟩ := hu;simp at hx;rcases hx with rfl | rfl | rfl | rfl <;> rfl
theorem entV_take (l : Ents) (k : Nat) : entV (l.take k) = (entV l).take (k * 4) := by
  induction l generalizing k with
  | nil => simp [entV]
  | cons x r ih =>
    cases k with
    | zero => simp [entV]
    | succ k => rw [List.take_succ_cons, entV_cons, entV_cons, ih, show (k + 1) * 4 = k * 4 + 1 + 1 + 1 + 1 by omega]; rfl
theorem entV_drop (l : Ents) (k : Nat) : entV (l.drop k) = (entV l).drop (k * 4) := by
  induction l generalizing k with
  | nil => simp [entV]
  | cons x r ih =>
    cases k with
    | zero => simp
    | succ k => rw [List.drop_succ_cons, entV_cons, ih, show (k + 1) * 4 = k * 4 + 1 + 1 + 1 + 1 by omega]; rfl
/-- the number of an entry in a column -/
def numC (c i : Nat) (a e : Ent) : Nat :=
  if c = 0 then e.id - a.id else if c = 1 then e.run else if c = 2 then e.len else if 0 < i ∧ e.off = a.off + a.len then 0 else e.off + 1
def colN (c : Nat) : Nat → Ent → Ents → List Nat
  | _, _, [] => []
  | i, a, e :: r => numC c i a e :: colN c (i + 1) e r
def nums (l : Ents) : List Nat := l.length :: (colN 0 0 zE l ++ (colN 1 0 zE l ++ (colN 2 0 zE l ++ colN 3 0 zE l)))
def dirB (l : Ents) : Bs := (nums l).flatMap vB
def sizeL (xs : List Nat) : Nat := (xs.map fun x => (vB x).length).sum
theorem size_flat (xs : List Nat) : (xs.flatMap vB).length = sizeL xs := by
  induction xs with
  | nil => rfl
  | cons x r ih => unfold sizeL at *; simp [List.flatMap_cons, ih]
theorem dirB_len (l : Ents) : (dirB l).length = sizeL (nums l) := size_flat _
theorem sizeL_app (a b : List Nat) : sizeL (a ++ b) = sizeL a + sizeL b := by simp [sizeL]
theorem colN_len (c : Nat) (l : Ents) : ∀ i a, (colN c i a l).length = l.length := by
  induction l with
  | nil => intro i a; rfl
  | cons e r ih => intro i a; unfold colN; simp [ih]
theorem nums_len (l : Ents) : (nums l).length = 1 + 4 * l.length := by unfold nums; simp [colN_len]; omega
theorem colN_lt (c : Nat) (l : Ents) : ∀ i a, (∀ e ∈ l, chkE e = 0) → (∀ e ∈ l, okE e) → ∀ x ∈ colN c i a l, x < 18446744073709551616 := by
  induction l with
  | nil => intro i a _ _ x hx; simp [colN] at hx
  | cons e r ih =>
    intro i a h1 h2 x hx;unfold colN at hx;rcases List.mem_cons.1 hx with rfl | hx
    · have g1 := chk_ok (h1 e (by simp));have g2 := h2 e (by simp);unfold okE at g2;unfold numC;split
      · omega
      · split
        · omega
        · split
          · omega
          · split <;> omega
    · exact ih _ _ (fun e he => h1 e (by simp [he])) (fun e he => h2 e (by simp [he])) x hx
theorem nums_lt {l : Ents} (h : rowE l = 0) (h2 : ∀ e ∈ l, okE e) : ∀ x ∈ nums l, x < 18446744073709551616 := by
  intro x hx;have h1 : ∀ e ∈ l, chkE e = 0 := fun e he => row_chk h he;have hl := row_len h;unfold nums at hx;simp only [List.mem_cons, List.mem_append] at hx;rcases hx with rfl | hx | hx | hx | hx
  · omega
  all_goals exact colN_lt _ l _ _ h1 h2 x hx
theorem size_le (xs : List Nat) (h : ∀ x ∈ xs, x < 18446744073709551616) : sizeL xs ≤ 10 * xs.length := by
  induction xs with
  | nil => simp [sizeL]
  | cons x r ih =>
    have h1 := vB_len10 (h x (by simp));have h2 := ih (fun y hy => h y (by simp [hy]));unfold sizeL at *;simp; omega
/-- what a directory's bytes are, or why there are none -/
def encE (l : Ents) : Int := if rowE l ≠ 0 then rowE l else if 65536 < (dirB l).length then 5 else 0
def encB (l : Ents) : Bs := if encE l = 0 then dirB l else []
def sizeD (l : Ents) : Nat := if rowE l ≠ 0 then 0 else (dirB l).length
/-- setting a field by its number in a column -/
def nextE (e : Ent) : Nat := (e.off + e.len) % 18446744073709551616
def setE (c i : Nat) (a e : Ent) (x : Nat) : Int × Ent :=
  if c = 0 then (if (a.id + x) % 18446744073709551616 < x then 11 else 0, { e with id := (a.id + x) % 18446744073709551616 })
  else if c = 1 then (if 4294967296 ≤ x then (11, e) else (0, { e with run := x }))
  else if c = 2 then (if 4294967296 ≤ x then (11, e) else (0, { e with len := x }))
  else if i = 0 ∧ x = 0 ∨ 0 < i ∧ 0 < x ∧ (x + 18446744073709551615) % 18446744073709551616 = nextE a then (4, e)
  else (0, { e with off := if x = 0 then nextE a else (x + 18446744073709551615) % 18446744073709551616 })
def colD (c : Nat) : Nat → Ent → Ents → Bs → Int × Ents × Bs
  | _, _, [], t => (0, [], t)
  | i, a, e :: r, t =>
    if (getV t).1 ≠ 0 then ((getV t).1, [], [])
    else if (setE c i a e (getV t).2.1).1 ≠ 0 then ((setE c i a e (getV t).2.1).1, [], [])
    else
      let q := colD c (i + 1) (setE c i a e (getV t).2.1).2 r (t.drop (getV t).2.2)
      (q.1, (setE c i a e (getV t).2.1).2 :: q.2.1, q.2.2)
def colsD : Nat → Nat → Ents → Bs → Int × Ents × Bs
  | _, 0, l, t => (0, l, t)
  | c, k + 1, l, t =>
    let q := colD c 0 zE l t
    if q.1 ≠ 0 then (q.1, [], []) else colsD (c + 1) k q.2.1 q.2.2
def endD (q : Int × Ents × Bs) : Int × Ents :=
  if q.1 ≠ 0 then (q.1, []) else if q.2.2 ≠ [] then (4, []) else if rowE q.2.1 ≠ 0 then (rowE q.2.1, []) else (0, q.2.1)
def decD (s : Bs) : Int × Ents :=
  if 65536 < s.length then (5, []) else if (getV s).1 ≠ 0 then ((getV s).1, []) else if 4096 < (getV s).2.1 then (21, [])
  else endD (colsD 0 4 (List.replicate (getV s).2.1 zE) (s.drop (getV s).2.2))
theorem decD_row {s : Bs} (h : (decD s).1 = 0) : rowE (decD s).2 = 0 := by
  unfold decD at h ⊢;split at h
  · simp at h
  · rename_i g1;split at h
    · contradiction
    · rename_i g2;split at h
      · simp at h
      · rename_i g3;rw [if_neg g1, if_neg g2, if_neg g3];unfold endD at h ⊢;split at h
        · contradiction
        · rename_i g4;split at h
          · simp at h
          · rename_i g5;split at h
            · contradiction
            · rename_i g6;rw [if_neg g4, if_neg g5, if_neg g6]; simp at g6; exact g6
theorem decD_bad {s : Bs} (h : (decD s).1 ≠ 0) : (decD s).2 = [] := by
  unfold decD at h ⊢;split
  · rfl
  · split
    · rfl
    · split
      · rfl
      · unfold endD at h ⊢;split
        · rfl
        · split
          · rfl
          · split
            · rfl
            · rename_i g1 g2 g3 g4 g5 g6;rw [if_neg g1, if_neg g2, if_neg g3, if_neg g4, if_neg g5, if_neg g6] at h; simp at h
end Go.Gz
/- Plain laws: a row of entries cut into a root and leaves, and put together again. -/
namespace Go.Gz
def cutF : Nat → Nat → Ents → List Ents
  | 0, _, _ => []
  | f + 1, n, l => if l = [] then [] else l.take n :: cutF f n (l.drop n)
/-- pieces of so many entries -/
def cutL (n : Nat) (l : Ents) : List Ents := cutF l.length n l
theorem cutF_flat : ∀ f n (l : Ents), 0 < n → l.length ≤ f → (cutF f n l).flatten = l := by
  intro f;induction f with
  | zero => intro n l _ h; have : l = [] := List.eq_nil_of_length_eq_zero (by omega); subst this; rfl
  | succ f ih =>
    intro n l hn h;unfold cutF;split
    · rename_i e; rw [e]; rfl
    · rename_i e;have hp := List.length_pos_iff.2 e;rw [List.flatten_cons, ih n _ hn (by rw [List.length_drop]; omega), List.take_append_drop]
theorem cutF_ne : ∀ f n (l : Ents), 0 < n → ∀ c ∈ cutF f n l, c ≠ [] := by
  intro f;induction f with
  | zero => intro n l _ c hc; simp [cutF] at hc
  | succ f ih =>
    intro n l hn c hc;unfold cutF at hc;split at hc
    · simp at hc
    · rename_i e;rcases List.mem_cons.1 hc with rfl | hc
      · have hp := List.length_pos_iff.2 e;exact List.length_pos_iff.1 (by rw [List.length_take]; omega)
      · exact ih n _ hn c hc
theorem cut_flat {n : Nat} (l : Ents) (hn : 0 < n) : (cutL n l).flatten = l := cutF_flat _ n l hn (Nat.le_refl _)
theorem cut_ne {n : Nat} (l : Ents) (hn : 0 < n) : ∀ c ∈ cutL n l, c ≠ [] := cutF_ne _ n l hn
theorem cutF_get : ∀ f n (l : Ents), 0 < n → l.length ≤ f → ∀ k, (k * n < l.length → (cutF f n l)[k]? = some ((l.drop (k * n)).take n)) ∧ (¬ k * n < l.length → (cutF f n l)[k]? = none) := by
  intro f;induction f with
  | zero =>
    intro n l hn hl k;have : l = [] := List.eq_nil_of_length_eq_zero (by omega);subst this;simp [cutF]
  | succ f ih =>
    intro n l hn hl k;unfold cutF;split
    · rename_i e; subst e; simp
    · rename_i e;have hp := List.length_pos_iff.2 e;cases k with
      | zero => simp; omega
      | succ k =>
        have h := ih n (l.drop n) hn (by rw [List.length_drop]; omega) k;rw [List.length_drop, List.drop_drop] at h;have e1 : (k + 1) * n = n + k * n := by rw [Nat.add_mul]; omega
        rw [List.getElem?_cons_succ, e1];exact ⟨fun hk => h.1 (by omega), fun hk => h.2 (by omega)⟩
theorem cut_get {n : Nat} (l : Ents) (hn : 0 < n) (k : Nat) : (k * n < l.length ↔ k < (cutL n l).length) ∧ ∀ (h : k < (cutL n l).length), (cutL n l)[k] = (l.drop (k * n)).take n := by
  have h := cutF_get l.length n l hn (Nat.le_refl _) k;have h1 : k * n < l.length ↔ k < (cutL n l).length := by
    constructor
    · intro hk;have := h.1 hk;exact (List.getElem?_eq_some_iff.1 this).1
    · intro hk;rcases Nat.lt_or_ge (k * n) l.length with g | g
      · exact g
      · have := h.2 (by omega);rw [List.getElem?_eq_none_iff] at this;unfold cutL at hk;omega
  refine ⟨h1, fun hk => ?_⟩;have := h.1 (h1.2 hk);exact (List.getElem?_eq_some_iff.1 this).2
theorem cut_one {n : Nat} {l : Ents} (h0 : l ≠ []) (h : l.length ≤ n) : cutL n l = [l] := by
  unfold cutL;have hp := List.length_pos_iff.2 h0;obtain ⟨f, hf⟩ : ∃ f, l.length = f + 1 := ⟨l.length - 1, by omega⟩;rw [hf];unfold cutF;rw [if_neg h0, List.take_of_length_le h, List.drop_eq_nil_of_le h];cases f <;> simp [cutF]
theorem flat_len {cs : List Ents} (h : ∀ c ∈ cs, c ≠ []) : cs.length ≤ cs.flatten.length := by
  induction cs with
  | nil => simp
  | cons c r ih =>
    have := ih (fun d hd => h d (by simp [hd]));have := List.length_pos_iff.2 (h c (by simp));rw [List.flatten_cons, List.length_append, List.length_cons]; omega
/-- the pointers to the pieces' bytes -/
def roots : Nat → List Ents → Ents
  | _, [] => []
  | o, c :: r => ⟨(c.headD zE).id, o, (dirB c).length, 0⟩ :: roots (o + (dirB c).length) r
theorem roots_len (cs : List Ents) : ∀ o, (roots o cs).length = cs.length := by
  induction cs with
  | nil => intro o; rfl
  | cons c r ih => intro o; unfold roots; simp [ih]
theorem roots_snoc (cs : List Ents) (c : Ents) : ∀ o, roots o (cs ++ [c]) = roots o cs ++ [⟨(c.headD zE).id, o + (cs.flatMap dirB).length, (dirB c).length, 0⟩] := by
  induction cs with
  | nil => intro o; simp [roots]
  | cons d r ih =>
    intro o;rw [List.cons_append];unfold roots;rw [ih, List.flatMap_cons, List.length_append, Nat.add_assoc]; rfl
theorem dirB_pos (l : Ents) : 0 < (dirB l).length := by
  unfold dirB nums;rw [List.flatMap_cons, List.length_append];have := vB_pos l.length;omega
theorem enc_ok {l : Ents} (h : encE l = 0) : rowE l = 0 ∧ (dirB l).length ≤ 65536 := by
  unfold encE at h;split at h
  · contradiction
  · rename_i h1;split at h
    · simp at h
    · exact ⟨by simpa using h1, by omega⟩
theorem enc_mk {l : Ents} (h1 : rowE l = 0) (h2 : (dirB l).length ≤ 65536) : encE l = 0 := by
  unfold encE;rw [if_neg (by omega), if_neg (by omega)]
theorem dirs_len {cs : List Ents} (h : ∀ c ∈ cs, encE c = 0) : (cs.flatMap dirB).length ≤ 65536 * cs.length := by
  induction cs with
  | nil => simp
  | cons c r ih =>
    have h1 := (enc_ok (h c (by simp))).2;have := ih (fun d hd => h d (by simp [hd]));rw [List.flatMap_cons, List.length_append, List.length_cons];omega
theorem roots_row (cs : List Ents) : ∀ o f, (∀ c ∈ cs, encE c = 0) → (∀ c ∈ cs, c ≠ []) → rowGo f cs.flatten = 0 → o + 65536 * cs.length ≤ 1099511627776 → rowGo f (roots o cs) = 0 := by
  induction cs with
  | nil => intro o f _ _ _ _; rfl
  | cons c r ih =>
    intro o f h1 h2 h3 h4;have e1 := enc_ok (h1 c (by simp));have e2 := dirB_pos c;rw [List.length_cons] at h4;obtain ⟨x, t, rfl⟩ : ∃ x t, c = x :: t := by
      cases c with
      | nil => exact absurd rfl (h2 [] (by simp))
      | cons x t => exact ⟨x, t, rfl⟩
    rw [List.flatten_cons, List.cons_append] at h3;have hgo := (rowGo_iff _ _).1 h3;obtain ⟨g1, g2, g3⟩ := rowGo_cons h3;have hw := wide_pos x;have hc := chk_ok g1;unfold roots;refine rowGo_mk (chk_mk e2 (by simp [wideE]; omega) (by simp; omega)) g2 ?_;refine ih _ _ (fun d hd => h1 d (by simp [hd])) (fun d hd => h2 d (by simp [hd])) ?_ (by omega);refine (rowGo_iff _ _).2 ⟨fun e he => ?_, ?_⟩
    · have := (rowGo_iff _ _).1 g3;have h5 := this.1 e (by simp [he]);refine ⟨h5.1, ?_⟩;simp [wideE]; omega
    · have := ((rowGo_iff _ _).1 g3).2;rw [List.pairwise_append] at this;exact this.2.1
def splitAt (n : Nat) (l : Ents) (b : Nat) : Option (Ents × Bs) :=
  if (cutL n l).all (fun c => encE c == 0) = false then none
  else if b < sizeD (roots 0 (cutL n l)) then none else some (roots 0 (cutL n l), (cutL n l).flatMap dirB)
def splitS : List Nat → Ents → Nat → Int × Ents × Bs × Nat
  | [], _, _ => (15, [], [], 0)
  | n :: r, l, b => match splitAt n l b with
    | some st => (0, st.1, st.2, n)
    | none => splitS r l b
def sizesL : List Nat := [1, 2, 4, 8, 16, 32, 64, 128, 256, 512, 1024, 2048, 4096]
def splitV (l : Ents) (b : Nat) : Int × Ents × Bs × Nat :=
  if b < 1 ∨ 16257 < b then (2, [], [], 0) else if rowE l ≠ 0 then (rowE l, [], [], 0) else if l.any (fun e => e.run == 0) then (14, [], [], 0)
  else if sizeD l ≤ b then (0, l, [], 0) else splitS sizesL l b
theorem splitS_ok (ns : List Nat) (l : Ents) (b n : Nat) (hn : n ∈ ns) (h : (splitAt n l b).isSome) : (splitS ns l b).1 = 0 := by
  induction ns with
  | nil => simp at hn
  | cons m r ih =>
    unfold splitS;cases e : splitAt m l b with
    | some st => rfl
    | none =>
      rcases List.mem_cons.1 hn with rfl | hn
      · rw [e] at h; simp at h
      · exact ih hn
theorem splitS_at (ns : List Nat) (l : Ents) (b : Nat) (h : (splitS ns l b).1 = 0) : ∃ n ∈ ns, splitAt n l b = some ((splitS ns l b).2.1, (splitS ns l b).2.2.1) ∧ (splitS ns l b).2.2.2 = n := by
  induction ns with
  | nil => simp [splitS] at h
  | cons m r ih =>
    unfold splitS at h ⊢;cases e : splitAt m l b with
    | some st => exact ⟨m, by simp, by simpa using e, rfl⟩
    | none =>
      rw [e] at h;obtain ⟨n, h1, h2⟩ := ih h;exact ⟨n, by simp [h1], h2⟩
theorem split_at {n : Nat} {l : Ents} {b : Nat} {st : Ents × Bs} (hn : 0 < n) (hr : rowE l = 0) (h : splitAt n l b = some st) :
    st = (roots 0 (cutL n l), (cutL n l).flatMap dirB) ∧ (∀ c ∈ cutL n l, encE c = 0) ∧ rowE st.1 = 0 ∧ (dirB st.1).length ≤ b := by
  unfold splitAt at h;split at h
  · simp at h
  · rename_i h1;have h1 : ∀ c ∈ cutL n l, encE c = 0 := by
      intro c hc;simp only [Bool.not_eq_false, List.all_eq_true, beq_iff_eq] at h1;exact h1 c hc
    split at h
    · simp at h
    · rename_i h2;simp only [Option.some.injEq] at h;subst h;have hl : (cutL n l).length ≤ 4096 := by
        have a := flat_len (cut_ne l hn);rw [cut_flat l hn] at a;have := row_len hr;omega
      have hrow : rowE (roots 0 (cutL n l)) = 0 := row_mk (by rw [roots_len]; exact hl) (roots_row _ 0 0 h1 (cut_ne l hn) (by rw [cut_flat l hn]; exact row_go hr) (by omega));refine ⟨rfl, h1, hrow, ?_⟩;unfold sizeD at h2;rw [if_neg (by omega)] at h2;show (dirB (roots 0 (cutL n l))).length ≤ b
      omega
theorem dir_le {l : Ents} (h : rowE l = 0) (h2 : ∀ e ∈ l, okE e) : (dirB l).length ≤ 10 + 40 * l.length := by
  rw [dirB_len];have := size_le _ (nums_lt h h2);rw [nums_len] at this;omega
/-- a row that is not too long is cut -/
theorem split_ok {l : Ents} {b : Nat} (hb : 512 ≤ b) (hb2 : b ≤ 16257) (hr : rowE l = 0) (hok : ∀ e ∈ l, okE e) (hl : l.length ≤ 1024) (hrun : ∀ e ∈ l, 1 ≤ e.run) :
    (splitV l b).1 = 0 ∧ rowE (splitV l b).2.1 = 0 ∧ (dirB (splitV l b).2.1).length ≤ b ∧ ((splitV l b).2.2.1 = [] ∧ (splitV l b).2.1 = l ∨ ∃ n, 0 < n ∧ (splitV l b).2.1 = roots 0 (cutL n l) ∧ (splitV l b).2.2.1 = (cutL n l).flatMap dirB ∧ ∀ c ∈ cutL n l, encE c = 0) := by
  have hp : l.any (fun e => e.run == 0) = false := by
    rw [List.any_eq_false];intro e he;have := hrun e he;simp; omega
  unfold splitV;rw [if_neg (by omega), if_neg (by omega), if_neg (by rw [hp]; simp)];by_cases hs : sizeD l ≤ b
  · rw [if_pos hs];unfold sizeD at hs;rw [if_neg (by omega)] at hs;exact ⟨rfl, hr, hs, .inl ⟨rfl, rfl⟩⟩
  · rw [if_neg hs];have h0 : l ≠ [] := by
      intro e;subst e;have : sizeD ([] : Ents) = 1 := by unfold sizeD dirB nums colN; simp [rowE, rowGo, vB_small]
      omega
    have hd := dir_le hr hok;have hcut := cut_one (n := 1024) h0 hl;have henc : encE l = 0 := enc_mk hr (by omega);have hsome : (splitAt 1024 l b).isSome := by
      unfold splitAt;rw [hcut, if_neg (by simp [henc])];have hroot : sizeD (roots 0 [l]) ≤ 50 := by
        unfold sizeD;split
        · omega
        · rename_i hh;have hh : rowE (roots 0 [l]) = 0 := by omega
          have := dir_le hh (by
            intro e he;simp [roots] at he;subst he;obtain ⟨x, t, rfl⟩ : ∃ x t, l = x :: t := by
              cases l with
              | nil => exact absurd rfl h0
              | cons x t => exact ⟨x, t, rfl⟩
            have hx := hok x (by simp);unfold okE at hx ⊢;simp;omega)
          rw [roots_len] at this;simp at this; exact this
      rw [if_neg (by omega)];rfl
    have h1 := splitS_ok sizesL l b 1024 (by decide) hsome;obtain ⟨n, hn, hat, _⟩ := splitS_at _ _ _ h1;have hn0 : 0 < n := by
      have : ∀ m ∈ sizesL, 0 < m := by decide
      exact this n hn
    obtain ⟨k1, k2, k3, k4⟩ := split_at hn0 hr hat
    refine ⟨h1, k3, k4, .inr ⟨n, hn0, ?_, ?_, k2⟩⟩
    · exact (Prod.mk.inj k1).1
    · exact (Prod.mk.inj k1).2
end Go.Gz
