/- The abstract machine, text 1 of 7: calls are evaluated once, and hold in every world. -/
import GoSem.Step
import Derived.Laws.Sem
import Derived.Laws.World
import Derived.Deep.MidRow
import Derived.Deep.AppendSrc
/- The abstract machine's data: values, blocks, a heap as a trie, programs over it that log what they touch; what a run of one depends on. -/
namespace Go.Ev
inductive SV where
  | v (x : Value)
  | str (l : List UInt8)
  | ptr (b s i j : Nat)
  | slc (b s i len : Nat) (cap : Option Nat)
  | mp (b : Nat)
  | cp (b i : Nat)
  | fn (f : Fn) (first captured : List SV)
  | ifc (t : TypeId) (x : SV)
  | agg (l : List SV)
  | tup (l : List SV)
  deriving Inhabited
def und : SV := .v undef
inductive T (α : Type) where
  | leaf
  | node (o : Option α) (l r : T α)
inductive AObj where
  | cells (elem : TypeId) (l : List SV) (loose : Bool)
  | map (es : List (SV × SV × Nat)) (clock : Nat)
  | siter (s : List UInt8) (pos : Nat)
  | miter (m : Option Nat) (since : Nat) (seen : List Nat) (stepped : Nat)
  | loop (st : LoopState) (pe : Option Code) (fid : FuncId) (tmps : T SV) (n : Nat) (ps : Array Tmp) (assign body : Code) (dfr : Nat)
  | dfr (l : List Unit)
  deriving Inhabited
noncomputable def T.get {α} (t : T α) : Nat → Option α := T.rec (motive := fun _ => Nat → Option α) (fun _ => none)
  (fun o _ _ il ir n => Bool.rec (Bool.rec (ir (Nat.pred (Nat.div n 2))) (il (Nat.div n 2)) (Nat.beq (Nat.mod n 2) 1)) o (Nat.beq n 0)) t
noncomputable def T.upd {α} (k : Nat) : T α → Nat → Option α → T α := Nat.rec (motive := fun _ => T α → Nat → Option α → T α) (fun t _ _ => t)
  (fun _ ih t n o => T.rec (motive := fun _ => T α)
    (Bool.rec (Bool.rec (.node none .leaf (ih .leaf (Nat.pred (Nat.div n 2)) o)) (.node none (ih .leaf (Nat.div n 2) o) .leaf) (Nat.beq (Nat.mod n 2) 1)) (.node o .leaf .leaf) (Nat.beq n 0))
    (fun o' l r _ _ => Bool.rec (Bool.rec (.node o' l (ih r (Nat.pred (Nat.div n 2)) o)) (.node o' (ih l (Nat.div n 2) o) r) (Nat.beq (Nat.mod n 2) 1)) (.node o l r) (Nat.beq n 0)) t) k
theorem T.get_leaf {α} (n : Nat) : (T.leaf : T α).get n = none := rfl
theorem nbeq (a b : Nat) : Nat.beq a b = (a == b) := by
  rw [Bool.eq_iff_iff]; simp
theorem T.get_node {α} (o : Option α) (l r : T α) (n : Nat) : (T.node o l r).get n = bif n == 0 then o else bif n % 2 == 1 then l.get (n / 2) else r.get (n / 2 - 1) := by
  show (Bool.rec (motive := fun _ => Option α) (Bool.rec (motive := fun _ => Option α) (r.get (Nat.pred (n / 2))) (l.get (n / 2)) (Nat.beq (n % 2) 1)) o (Nat.beq n 0)) = _
  rw [nbeq, nbeq]
  cases n == 0 <;> cases n % 2 == 1 <;> rfl
theorem T.upd_zero {α} (t : T α) (n : Nat) (o : Option α) : T.upd 0 t n o = t := rfl
theorem T.upd_succ {α} (k : Nat) (t : T α) (n : Nat) (o : Option α) : T.upd (k + 1) t n o = (let (o', l, r) := match t with | .leaf => (none, .leaf, .leaf) | .node o' l r => (o', l, r)
    bif n == 0 then .node o l r else bif n % 2 == 1 then .node o' (T.upd k l (n / 2) o) r else .node o' l (T.upd k r (n / 2 - 1) o)) := by
  cases t with
  | leaf =>
    show (Bool.rec (motive := fun _ => T α) (Bool.rec (motive := fun _ => T α) (T.node none .leaf (T.upd k .leaf (Nat.pred (n / 2)) o)) (T.node none (T.upd k .leaf (n / 2) o) .leaf) (Nat.beq (n % 2) 1)) (T.node o .leaf .leaf) (Nat.beq n 0)) = _
    rw [nbeq, nbeq]
    cases n == 0 <;> cases n % 2 == 1 <;> rfl
  | node o' l r =>
    show (Bool.rec (motive := fun _ => T α) (Bool.rec (motive := fun _ => T α) (T.node o' l (T.upd k r (Nat.pred (n / 2)) o)) (T.node o' (T.upd k l (n / 2) o) r) (Nat.beq (n % 2) 1)) (T.node o l r) (Nat.beq n 0)) = _
    rw [nbeq, nbeq]
    cases n == 0 <;> cases n % 2 == 1 <;> rfl
theorem T.get_upd {α} (k : Nat) : ∀ (t : T α) (n m : Nat) (o : Option α), n + 1 < 2 ^ k → (t.upd k n o).get m = if m = n then o else t.get m := by
  induction k with
  | zero => intro t n m o h; simp at h
  | succ k ih =>
    intro t n m o h
    have hp : 2 ^ (k + 1) = 2 * 2 ^ k := by rw [Nat.pow_succ]; omega
    obtain ⟨o', l, r, ht, hg⟩ : ∃ o' l r, (match t with | .leaf => (none, .leaf, .leaf) | .node o' l r => (o', l, r) : Option α × T α × T α) = (o', l, r) ∧ t.get m = (T.node o' l r).get m := by
      cases t with
      | leaf =>
        refine ⟨none, .leaf, .leaf, rfl, ?_⟩
        simp only [T.get_leaf, T.get_node]
        cases m == 0 <;> cases m % 2 == 1 <;> rfl
      | node o' l r => exact ⟨o', l, r, rfl, rfl⟩
    rw [hg]
    rw [T.upd_succ, ht]
    by_cases h0 : n = 0
    · subst h0
      by_cases hm : m = 0
      · subst hm; simp [T.get_node]
      · have : (m == 0) = false := by simpa using hm
        simp [T.get_node, hm, this]
    · have h0' : (n == 0) = false := by simpa using h0
      simp only [h0', cond_false]
      by_cases h1 : n % 2 = 1
      · have h1' : (n % 2 == 1) = true := by simpa using h1
        simp only [h1', cond_true]
        by_cases hm : m = 0
        · subst hm; simp [T.get_node]; omega
        · have hm' : (m == 0) = false := by simpa using hm
          by_cases hm1 : m % 2 = 1
          · have hm1' : (m % 2 == 1) = true := by simpa using hm1
            simp only [T.get_node, hm', hm1', cond_false, cond_true]
            rw [ih l (n / 2) (m / 2) o (by omega)]
            have : (m / 2 = n / 2) ↔ (m = n) := by omega
            simp [this]
          · have hm1' : (m % 2 == 1) = false := by simpa using hm1
            simp only [T.get_node, hm', hm1', cond_false]
            rw [if_neg (by omega)]
      · have h1' : (n % 2 == 1) = false := by simpa using h1
        simp only [h1', cond_false]
        by_cases hm : m = 0
        · subst hm; simp [T.get_node]; omega
        · have hm' : (m == 0) = false := by simpa using hm
          by_cases hm1 : m % 2 = 1
          · have hm1' : (m % 2 == 1) = true := by simpa using hm1
            simp only [T.get_node, hm', hm1', cond_false, cond_true]
            rw [if_neg (by omega)]
          · have hm1' : (m % 2 == 1) = false := by simpa using hm1
            simp only [T.get_node, hm', hm1', cond_false]
            rw [ih r (n / 2 - 1) (m / 2 - 1) o (by omega)]
            have : (m / 2 - 1 = n / 2 - 1) ↔ (m = n) := by omega
            simp [this]
/-- a trie out of a list: the list's elements by their places -/
def odds {α} : List α → List α
  | _ :: y :: l => y :: odds l
  | _ => []
def evens {α} : List α → List α
  | x :: _ :: l => x :: evens l
  | [x] => [x]
  | [] => []
def T.ofL {α} : Nat → List α → T α
  | 0, _ => .leaf
  | _ + 1, [] => .leaf
  | k + 1, x :: l => .node (some x) (T.ofL k (evens l)) (T.ofL k (odds l))
theorem evens_get {α} : ∀ (l : List α) (n : Nat), (evens l)[n]? = l[2 * n]?
  | [], n => by simp [evens]
  | [x], n => by cases n with
    | zero => rfl
    | succ n => simp [evens]; 
  | x :: y :: l, n => by cases n with
    | zero => rfl
    | succ n =>
      rw [show 2 * (n + 1) = 2 * n + 1 + 1 by omega]
      simp only [evens, List.getElem?_cons_succ]
      exact evens_get l n
theorem odds_get {α} : ∀ (l : List α) (n : Nat), (odds l)[n]? = l[2 * n + 1]?
  | [], n => by simp [odds]
  | [x], n => by simp [odds]
  | x :: y :: l, n => by cases n with
    | zero => rfl
    | succ n =>
      rw [show 2 * (n + 1) + 1 = 2 * n + 1 + 1 + 1 by omega]
      simp only [odds, List.getElem?_cons_succ]
      exact odds_get l n
theorem T.get_ofL {α} (k : Nat) : ∀ (l : List α) (n : Nat) (x : α), (T.ofL k l).get n = some x → l[n]? = some x := by
  induction k with
  | zero => intro l n x h; simp [T.ofL, T.get_leaf] at h
  | succ k ih =>
    intro l n x h
    cases l with
    | nil => simp [T.ofL, T.get_leaf] at h
    | cons y l =>
      simp only [T.ofL, T.get_node] at h
      by_cases h0 : n = 0
      · subst h0; simpa using h
      · have h0' : (n == 0) = false := by simpa using h0
        by_cases h1 : n % 2 = 1
        · have h1' : (n % 2 == 1) = true := by simpa using h1
          simp only [h0', h1', cond_false, cond_true] at h
          have := ih _ _ _ h
          rw [evens_get] at this
          rw [show n = 2 * (n / 2) + 1 by omega, List.getElem?_cons_succ]
          exact this
        · have h1' : (n % 2 == 1) = false := by simpa using h1
          simp only [h0', h1', cond_false] at h
          have := ih _ _ _ h
          rw [odds_get] at this
          rw [show n = 2 * (n / 2 - 1) + 1 + 1 by omega, List.getElem?_cons_succ]
          exact this

noncomputable def tmGet (tm : T SV) (t : Nat) : SV := Option.rec und (fun x => x) (tm.get t)
structure HS where
  h : T AObj
  c : Nat
inductive FP where
  | nil
  | r (b : Nat)
  | w (b : Nat)
  | app (p q : FP)
def FP.R : FP → Nat → Prop
  | .nil, _ => False
  | .r x, b => b = x
  | .w _, _ => False
  | .app p q, b => p.R b ∨ q.R b
def FP.W : FP → Nat → Prop
  | .nil, _ => False
  | .r _, _ => False
  | .w x, b => b = x
  | .app p q, b => p.W b ∨ q.W b
inductive Tr (α : Type) where
  | ret (a : α) (s : HS) (p : FP)
  | fail (why : String)
noncomputable def Tr.bind {α β} (t : Tr α) (f : α → HS → FP → Tr β) : Tr β := Tr.rec (motive := fun _ => Tr β) (fun a s p => f a s p) (fun w => .fail w) t
noncomputable def Tr.run {α} (t : Tr α) : Option (α × HS × FP) := Tr.rec (motive := fun _ => Option (α × HS × FP)) (fun a s p => some (a, s, p)) (fun _ => none) t
def Tr.why {α} : Tr α → Option String
  | .ret .. => none
  | .fail w => some w
theorem Tr.run_bind {α β} (t : Tr α) (f : α → HS → FP → Tr β) : (t.bind f).run = t.run.bind fun r => (f r.1 r.2.1 r.2.2).run := by
  cases t <;> rfl
def M (α : Type) := HS → Tr α
def M.pure {α} (a : α) : M α := fun s => .ret a s .nil
noncomputable def M.bind {α β} (m : M α) (f : α → M β) : M β := fun s => Tr.rec (motive := fun _ => Tr β) (fun a s1 p => Tr.rec (motive := fun _ => Tr β) (fun b s2 q => .ret b s2 (.app p q)) (fun w => .fail w) (f a s1)) (fun w => .fail w) (m s)
noncomputable instance : Monad M where
  pure := M.pure
  bind := M.bind
def fail {α} (w : String) : M α := fun _ => .fail w
noncomputable def br {α} (b : Bool) (x y : M α) : M α := fun s => Bool.rec (motive := fun _ => Tr α) (y s) (x s) b
noncomputable def asrt (b : Bool) (w : String) : M Unit := br b (pure ()) (fail w)
def top : Nat := 1000000
noncomputable def get (b : Nat) : M AObj := fun s => match s.h.get b with
  | some o => .ret o s (.r b)
  | none => .fail "get"
noncomputable def put (b : Nat) (o : AObj) : M Unit := fun s => HS.rec (motive := fun _ => Tr Unit) (fun h c => match h.get b with
  | some _ => bif b < top then .ret () ⟨h.upd 20 b (some o), c⟩ (.w b) else .fail "put"
  | none => .fail "put") s
noncomputable def del (b : Nat) : M Unit := fun s => HS.rec (motive := fun _ => Tr Unit) (fun h c => match h.get b with
  | some _ => bif b < top then .ret () ⟨h.upd 20 b none, c⟩ (.w b) else .fail "del"
  | none => .fail "del") s
noncomputable def new (o : AObj) : M Nat := fun s => HS.rec (motive := fun _ => Tr Nat) (fun h c => match h.get c with
  | none => bif c < top then .ret c ⟨h.upd 20 c (some o), c + 1⟩ .nil else .fail "new"
  | some _ => .fail "new") s
theorem put_eq (b : Nat) (o : AObj) (s : HS) : put b o s = (match s.h.get b with
  | some _ => bif b < top then .ret () ⟨s.h.upd 20 b (some o), s.c⟩ (.w b) else .fail "put"
  | none => .fail "put") := by cases s; rfl
theorem del_eq (b : Nat) (s : HS) : del b s = (match s.h.get b with
  | some _ => bif b < top then .ret () ⟨s.h.upd 20 b none, s.c⟩ (.w b) else .fail "del"
  | none => .fail "del") := by cases s; rfl
theorem new_eq (o : AObj) (s : HS) : new o s = (match s.h.get s.c with
  | none => bif s.c < top then .ret s.c ⟨s.h.upd 20 s.c (some o), s.c + 1⟩ .nil else .fail "new"
  | some _ => .fail "new") := by cases s; rfl
/-- the run of a program from a state ends so -/
def Ok {α} (m : M α) (s : HS) (a : α) (s' : HS) (p : FP) : Prop := (m s).run = some (a, s', p)
theorem ok_pure {α} {a x : α} {s s' : HS} {p : FP} : Ok (pure a : M α) s x s' p ↔ a = x ∧ s = s' ∧ p = .nil := by
  show some (a, s, FP.nil) = some (x, s', p) ↔ _
  simp only [Option.some.injEq, Prod.mk.injEq]
  constructor
  · rintro ⟨h1, h2, h3⟩; exact ⟨h1, h2, h3.symm⟩
  · rintro ⟨h1, h2, h3⟩; exact ⟨h1, h2, h3.symm⟩
theorem ok_bind {α β} {m : M α} {f : α → M β} {s s' : HS} {b : β} {p : FP} : Ok (m >>= f) s b s' p ↔ ∃ a s1 p1 p2, Ok m s a s1 p1 ∧ Ok (f a) s1 b s' p2 ∧ p = p1.app p2 := by
  show (Tr.run ((m s).bind fun a s1 p => (f a s1).bind fun b s2 q => .ret b s2 (.app p q))) = some (b, s', p) ↔ _
  rw [Tr.run_bind]
  constructor
  · intro h
    cases hm : (m s).run with
    | none => rw [hm] at h; cases h
    | some r =>
      obtain ⟨a, s1, p1⟩ := r
      rw [hm] at h
      simp only [Option.bind_some, Tr.run_bind] at h
      cases hf : (f a s1).run with
      | none => rw [hf] at h; cases h
      | some r2 =>
        obtain ⟨b2, s2, p2⟩ := r2
        rw [hf] at h
        simp only [Option.bind_some, Tr.run, Option.some.injEq, Prod.mk.injEq] at h
        obtain ⟨rfl, rfl, rfl⟩ := h
        exact ⟨a, s1, p1, p2, hm, hf, rfl⟩
  · rintro ⟨a, s1, p1, p2, hm, hf, rfl⟩
    unfold Ok at hm hf
    rw [hm]
    show ((f a s1).bind fun b s2 q => .ret b s2 (.app p1 q)).run = _
    rw [Tr.run_bind, hf]
    rfl
theorem ok_br {α} {c : Bool} {x y : M α} {s s' : HS} {a : α} {p : FP} : Ok (br c x y) s a s' p ↔ (c = true ∧ Ok x s a s' p) ∨ (c = false ∧ Ok y s a s' p) := by
  unfold Ok br
  cases c <;> simp [Tr.run]
theorem ok_fail {α} {w : String} {s s' : HS} {a : α} {p : FP} : ¬ Ok (fail w : M α) s a s' p := by
  unfold Ok fail; simp [Tr.run]
theorem ok_asrt {c : Bool} {w : String} {s s' : HS} {a : Unit} {p : FP} : Ok (asrt c w) s a s' p ↔ c = true ∧ s = s' ∧ p = .nil := by
  unfold asrt
  rw [ok_br, ok_pure]
  constructor
  · rintro (⟨h, _, h2, h3⟩ | ⟨_, h⟩)
    · exact ⟨h, h2, h3⟩
    · exact (ok_fail h).elim
  · rintro ⟨h, h2, h3⟩; exact .inl ⟨h, rfl, h2, h3⟩
theorem ok_get {b : Nat} {s s' : HS} {o : AObj} {p : FP} : Ok (get b) s o s' p ↔ s.h.get b = some o ∧ s = s' ∧ p = .r b := by
  unfold Ok get
  cases h : s.h.get b with
  | none => simp [Tr.run]
  | some o' =>
    simp only [Tr.run, Option.some.injEq, Prod.mk.injEq]
    constructor
    · rintro ⟨h1, h2, h3⟩; exact ⟨h1, h2, h3.symm⟩
    · rintro ⟨h1, h2, h3⟩; exact ⟨h1, h2, h3.symm⟩
theorem ok_put {b : Nat} {o : AObj} {s s' : HS} {u : Unit} {p : FP} : Ok (put b o) s u s' p ↔ (∃ o', s.h.get b = some o') ∧ b < top ∧ s' = ⟨s.h.upd 20 b (some o), s.c⟩ ∧ p = .w b := by
  unfold Ok
  rw [put_eq]
  cases h : s.h.get b with
  | none => simp [Tr.run]
  | some o' =>
    by_cases hb : b < top
    · simp only [hb, decide_true, cond_true, Tr.run, Option.some.injEq, Prod.mk.injEq, true_and]
      constructor
      · rintro ⟨h2, h3⟩; exact ⟨⟨_, rfl⟩, h2.symm, h3.symm⟩
      · rintro ⟨_, h2, h3⟩; exact ⟨h2.symm, h3.symm⟩
    · simp [hb, Tr.run]
theorem ok_del {b : Nat} {s s' : HS} {u : Unit} {p : FP} : Ok (del b) s u s' p ↔ (∃ o', s.h.get b = some o') ∧ b < top ∧ s' = ⟨s.h.upd 20 b none, s.c⟩ ∧ p = .w b := by
  unfold Ok
  rw [del_eq]
  cases h : s.h.get b with
  | none => simp [Tr.run]
  | some o' =>
    by_cases hb : b < top
    · simp only [hb, decide_true, cond_true, Tr.run, Option.some.injEq, Prod.mk.injEq, true_and]
      constructor
      · rintro ⟨h2, h3⟩; exact ⟨⟨_, rfl⟩, h2.symm, h3.symm⟩
      · rintro ⟨_, h2, h3⟩; exact ⟨h2.symm, h3.symm⟩
    · simp [hb, Tr.run]
theorem ok_new {o : AObj} {s s' : HS} {r : Nat} {p : FP} : Ok (new o) s r s' p ↔ s.h.get s.c = none ∧ s.c < top ∧ r = s.c ∧ s' = ⟨s.h.upd 20 s.c (some o), s.c + 1⟩ ∧ p = .nil := by
  unfold Ok
  rw [new_eq]
  cases h : s.h.get s.c with
  | some o' => simp [Tr.run]
  | none =>
    by_cases hb : s.c < top
    · simp only [hb, decide_true, cond_true, Tr.run, Option.some.injEq, Prod.mk.injEq, true_and]
      constructor
      · rintro ⟨h1, h2, h3⟩; exact ⟨h1.symm, h2.symm, h3.symm⟩
      · rintro ⟨h1, h2, h3⟩; exact ⟨h1.symm, h2.symm, h3.symm⟩
    · simp [hb, Tr.run]
/-- what a run touches: what it logged, and the numbers that it gave out -/
def Tch (s s' : HS) (p : FP) (b : Nat) : Prop := p.R b ∨ p.W b ∨ (s.c ≤ b ∧ b < s'.c)
def Wrt (s s' : HS) (p : FP) (b : Nat) : Prop := p.W b ∨ (s.c ≤ b ∧ b < s'.c)
/-- a run hangs on what it touches alone, and turns nothing else -/
structure Loc1 {α} (m : M α) (s : HS) (a : α) (s' : HS) (p : FP) : Prop where
  le : s.c ≤ s'.c
  old : ∀ b, p.W b → (∃ o, s.h.get b = some o) ∨ (s.c ≤ b ∧ b < s'.c)
  same : ∀ b, ¬ Wrt s s' p b → s'.h.get b = s.h.get b
  again : ∀ h2, (∀ b, Tch s s' p b → h2.get b = s.h.get b) → ∃ h3, Ok m ⟨h2, s.c⟩ a ⟨h3, s'.c⟩ p ∧ ∀ b, (Wrt s s' p b → h3.get b = s'.h.get b) ∧ (¬ Wrt s s' p b → h3.get b = h2.get b)
def Loc {α} (m : M α) : Prop := ∀ s a s' p, Ok m s a s' p → Loc1 m s a s' p
theorem loc_pure {α} (a : α) : Loc (pure a : M α) := by
  intro s x s' p h
  obtain ⟨rfl, rfl, rfl⟩ := ok_pure.1 h
  exact ⟨Nat.le_refl _, fun _ h => (by cases h), fun _ _ => rfl, fun h2 _ => ⟨h2, ok_pure.2 ⟨rfl, rfl, rfl⟩, fun b => ⟨fun h => by
    rcases h with h | h
    · cases h
    · omega, fun _ => rfl⟩⟩⟩
theorem loc_fail {α} (w : String) : Loc (fail w : M α) := fun _ _ _ _ h => (ok_fail h).elim
theorem loc_congr {α} {m m' : M α} (h : ∀ s a s' p, Ok m s a s' p ↔ Ok m' s a s' p) (hm : Loc m') : Loc m := by
  intro s a s' p hk
  have l := hm _ _ _ _ ((h _ _ _ _).1 hk)
  exact ⟨l.le, l.old, l.same, fun h2 hh => let ⟨h3, o, g⟩ := l.again h2 hh; ⟨h3, (h _ _ _ _).2 o, g⟩⟩
theorem loc_br {α} {c : Bool} {x y : M α} (hx : Loc x) (hy : Loc y) : Loc (br c x y) := by
  cases c
  · exact loc_congr (fun s a s' p => by rw [ok_br]; simp) hy
  · exact loc_congr (fun s a s' p => by rw [ok_br]; simp) hx
theorem loc_asrt (c : Bool) (w : String) : Loc (asrt c w) := loc_br (loc_pure _) (loc_fail _)
theorem loc_get (b : Nat) : Loc (get b) := by
  intro s x s' p h
  obtain ⟨h1, rfl, rfl⟩ := ok_get.1 h
  refine ⟨Nat.le_refl _, fun _ h => (by cases h), fun _ _ => rfl, fun h2 hh => ⟨h2, ok_get.2 ⟨(hh b (.inl rfl)).trans h1, rfl, rfl⟩, fun b => ⟨?_, fun _ => rfl⟩⟩⟩
  rintro (h | h)
  · cases h
  · omega
theorem upd20 {t : T AObj} {n m : Nat} {o : Option AObj} (h : n < top) : (t.upd 20 n o).get m = if m = n then o else t.get m :=
  T.get_upd 20 t n m o (by unfold top at h; omega)
theorem loc_upd {m : M Unit} {b : Nat} {o : Option AObj} (hm : ∀ s s' u p, Ok m s u s' p ↔ (∃ o', s.h.get b = some o') ∧ b < top ∧ s' = ⟨s.h.upd 20 b o, s.c⟩ ∧ p = .w b) : Loc m := by
  intro s x s' p h
  obtain ⟨⟨o', h1⟩, h2, rfl, rfl⟩ := (hm _ _ _ _).1 h
  refine ⟨Nat.le_refl _, fun c hc => (by have hc : c = b := hc; exact Or.inl ⟨o', hc ▸ h1⟩), fun c hc => ?_, fun h3 hh => ⟨h3.upd 20 b o, (hm _ _ _ _).2 ⟨⟨o', (hh b (.inr (.inl rfl))).trans h1⟩, h2, rfl, rfl⟩, fun c => ⟨fun hc => ?_, fun hc => ?_⟩⟩⟩
  · show (s.h.upd 20 b o).get c = _
    rw [upd20 h2, if_neg (fun e : c = b => hc (.inl e))]
  · show (h3.upd 20 b o).get c = (s.h.upd 20 b o).get c
    rcases hc with hc | hc
    · have hc : c = b := hc
      rw [upd20 h2, upd20 h2, if_pos hc, if_pos hc]
    · exact absurd hc.2 (by simpa using hc.1)
  · show (h3.upd 20 b o).get c = _
    rw [upd20 h2, if_neg (fun e : c = b => hc (.inl e))]
theorem loc_put (b : Nat) (o : AObj) : Loc (put b o) := loc_upd (fun _ _ _ _ => ok_put)
theorem loc_del (b : Nat) : Loc (del b) := loc_upd (fun _ _ _ _ => ok_del)
theorem loc_new (o : AObj) : Loc (new o) := by
  intro s x s' p h
  obtain ⟨h1, h2, rfl, rfl, rfl⟩ := ok_new.1 h
  refine ⟨Nat.le_succ _, fun _ h => (by cases h), fun c hc => ?_, fun h3 hh => ⟨h3.upd 20 s.c (some o), ok_new.2 ⟨(hh s.c (.inr (.inr ⟨Nat.le_refl _, Nat.lt_succ_self _⟩))).trans h1, h2, rfl, rfl, rfl⟩, fun c => ⟨fun hc => ?_, fun hc => ?_⟩⟩⟩
  · show (s.h.upd 20 s.c (some o)).get c = _
    rw [upd20 h2, if_neg (fun e => hc (.inr ⟨by omega, by show c < s.c + 1; omega⟩))]
  · show (h3.upd 20 s.c (some o)).get c = (s.h.upd 20 s.c (some o)).get c
    rcases hc with hc | hc
    · cases hc
    · have hc2 : c < s.c + 1 := hc.2
      have : c = s.c := by omega
      rw [upd20 h2, upd20 h2, if_pos this, if_pos this]
  · show (h3.upd 20 s.c (some o)).get c = _
    rw [upd20 h2, if_neg (fun e => hc (.inr ⟨by omega, by show c < s.c + 1; omega⟩))]
theorem loc_bind {α β} {m : M α} {f : α → M β} (hm : Loc m) (hf : ∀ a, Loc (f a)) : Loc (m >>= f) := by
  intro s b s' p h
  obtain ⟨a, s1, p1, p2, h1, h2, rfl⟩ := ok_bind.1 h
  have l1 := hm _ _ _ _ h1
  have l2 := hf _ _ _ _ _ h2
  have w1 : ∀ b, Wrt s s1 p1 b → Wrt s s' (p1.app p2) b := by
    rintro b (hb | hb)
    · exact .inl (.inl hb)
    · exact .inr ⟨hb.1, Nat.lt_of_lt_of_le hb.2 l2.le⟩
  have w2 : ∀ b, Wrt s1 s' p2 b → Wrt s s' (p1.app p2) b := by
    rintro b (hb | hb)
    · exact .inl (.inr hb)
    · exact .inr ⟨Nat.le_trans l1.le hb.1, hb.2⟩
  have hold : ∀ b, (p1.app p2).W b → (∃ o, s.h.get b = some o) ∨ (s.c ≤ b ∧ b < s'.c) := by
    have one : ∀ b, p1.W b → (∃ o, s.h.get b = some o) ∨ (s.c ≤ b ∧ b < s'.c) := fun b hb => by
      rcases l1.old b hb with h | h
      · exact Or.inl h
      · exact Or.inr ⟨h.1, Nat.lt_of_lt_of_le h.2 l2.le⟩
    rintro b (hb | hb)
    · exact one b hb
    · rcases l2.old b hb with ⟨o, ho⟩ | h
      · by_cases hw : Wrt s s1 p1 b
        · rcases hw with hw | hw
          · exact one b hw
          · exact Or.inr ⟨hw.1, Nat.lt_of_lt_of_le hw.2 l2.le⟩
        · exact Or.inl ⟨o, (l1.same b hw) ▸ ho⟩
      · exact Or.inr ⟨Nat.le_trans l1.le h.1, h.2⟩
  refine ⟨Nat.le_trans l1.le l2.le, hold, fun b hb => (l2.same b (fun h => hb (w2 b h))).trans (l1.same b (fun h => hb (w1 b h))), fun h0 hh => ?_⟩
  have t1 : ∀ b, Tch s s1 p1 b → Tch s s' (p1.app p2) b := by
    rintro b (hb | hb | hb)
    · exact .inl (.inl hb)
    · exact .inr (.inl (.inl hb))
    · exact .inr (.inr ⟨hb.1, Nat.lt_of_lt_of_le hb.2 l2.le⟩)
  have t2 : ∀ b, Tch s1 s' p2 b → Tch s s' (p1.app p2) b := by
    rintro b (hb | hb | hb)
    · exact .inl (.inr hb)
    · exact .inr (.inl (.inr hb))
    · exact .inr (.inr ⟨Nat.le_trans l1.le hb.1, hb.2⟩)
  obtain ⟨h3, o3, g3⟩ := l1.again h0 (fun b hb => hh b (t1 b hb))
  obtain ⟨h4, o4, g4⟩ := l2.again h3 (fun b hb => by
    by_cases hw : Wrt s s1 p1 b
    · exact (g3 b).1 hw
    · exact ((g3 b).2 hw).trans ((hh b (t2 b hb)).trans (l1.same b hw).symm))
  refine ⟨h4, ok_bind.2 ⟨a, _, p1, p2, o3, o4, rfl⟩, fun b => ⟨fun hb => ?_, fun hb => ((g4 b).2 (fun h => hb (w2 b h))).trans ((g3 b).2 (fun h => hb (w1 b h)))⟩⟩
  by_cases hw : Wrt s1 s' p2 b
  · exact (g4 b).1 hw
  · refine ((g4 b).2 hw).trans (Eq.trans ?_ (l2.same b hw).symm)
    by_cases hw1 : Wrt s s1 p1 b
    · exact (g3 b).1 hw1
    · refine (((g3 b).2 hw1).trans ?_).trans (l1.same b hw1).symm
      refine hh b ?_
      rcases hb with hb | hb
      · exact .inr (.inl hb)
      · exact .inr (.inr hb)
/-! Lists by their recursor: the kernel goes through them faster. -/
section
variable {α β : Type}
noncomputable def appR (a b : List α) : List α := List.rec (motive := fun _ => List α) b (fun h _ ih => h :: ih) a
noncomputable def dropR (l : List α) : Nat → List α := List.rec (motive := fun _ => Nat → List α) (fun _ => []) (fun h t ih n => Nat.rec (motive := fun _ => List α) (h :: t) (fun m _ => ih m) n) l
noncomputable def takeR (l : List α) : Nat → List α := List.rec (motive := fun _ => Nat → List α) (fun _ => []) (fun h _ ih n => Nat.rec (motive := fun _ => List α) [] (fun m _ => h :: ih m) n) l
noncomputable def getR (l : List α) : Nat → Option α := List.rec (motive := fun _ => Nat → Option α) (fun _ => none) (fun h _ ih n => Nat.rec (motive := fun _ => Option α) (some h) (fun m _ => ih m) n) l
noncomputable def lenR (l : List α) : Nat := List.rec (motive := fun _ => Nat → Nat) (fun n => n) (fun _ _ ih n => ih (Nat.add n 1)) l 0
noncomputable def mapR (f : α → β) (l : List α) : List β := List.rec (motive := fun _ => List β) [] (fun h _ ih => f h :: ih) l
noncomputable def allR (f : α → Bool) (l : List α) : Bool := List.rec (motive := fun _ => Bool) true (fun h _ ih => Bool.rec false ih (f h)) l
noncomputable def repR (n : Nat) (x : α) : List α := Nat.rec (motive := fun _ => List α) [] (fun _ ih => x :: ih) n
theorem appR_eq (a b : List α) : appR a b = a ++ b := by
  induction a with
  | nil => rfl
  | cons h t ih => show h :: appR t b = _; rw [ih]; rfl
theorem dropR_eq (l : List α) : ∀ n, dropR l n = l.drop n := by
  induction l with
  | nil => intro n; cases n <;> rfl
  | cons h t ih => intro n; cases n with
    | zero => rfl
    | succ n => show dropR t n = _; rw [ih]; rfl
theorem takeR_eq (l : List α) : ∀ n, takeR l n = l.take n := by
  induction l with
  | nil => intro n; cases n <;> rfl
  | cons h t ih => intro n; cases n with
    | zero => rfl
    | succ n => show h :: takeR t n = _; rw [ih]; rfl
theorem getR_eq (l : List α) : ∀ n, getR l n = l[n]? := by
  induction l with
  | nil => intro n; cases n <;> rfl
  | cons h t ih => intro n; cases n with
    | zero => rfl
    | succ n => show getR t n = _; rw [ih]; rfl
theorem lenR_aux (l : List α) : ∀ n, (List.rec (motive := fun _ => Nat → Nat) (fun n => n) (fun _ _ ih n => ih (Nat.add n 1)) l : Nat → Nat) n = n + l.length := by
  induction l with
  | nil => intro n; rfl
  | cons h t ih => intro n; show (List.rec (motive := fun _ => Nat → Nat) (fun n => n) (fun _ _ ih n => ih (Nat.add n 1)) t : Nat → Nat) (n + 1) = _; rw [ih]; simp; omega
theorem lenR_eq (l : List α) : lenR l = l.length := by
  unfold lenR; rw [lenR_aux]; omega
theorem mapR_eq (f : α → β) (l : List α) : mapR f l = l.map f := by
  induction l with
  | nil => rfl
  | cons h t ih => show f h :: mapR f t = _; rw [ih]; rfl
theorem allR_eq (f : α → Bool) (l : List α) : allR f l = l.all f := by
  induction l with
  | nil => rfl
  | cons h t ih =>
    show (Bool.rec (motive := fun _ => Bool) false (allR f t) (f h)) = _
    rw [ih, List.all_cons]
    cases f h <;> rfl
theorem repR_eq (n : Nat) (x : α) : repR n x = List.replicate n x := by
  induction n with
  | zero => rfl
  | succ n ih => show x :: repR n x = _; rw [ih]; rfl
end
end Go.Ev
/- What the abstract machine's data stand for in a world; one step of a program of memory against one of the abstract machine's. -/
namespace Go.Ev
structure Nu where
  ρ : Nat → Nat
  κ : Nat → Nat
def denFn (ν : Nu) : Fn → Fn
  | .yield l => .yield (ν.ρ l)
  | f => f
mutual
def den (ν : Nu) : SV → Value
  | .v x => x
  | .str l => .string ⟨l.toArray⟩
  | .ptr b s i j => .pointer (some ⟨ν.ρ b, i * s + j, none⟩)
  | .slc b s i len cap => .slice (some ⟨ν.ρ b, i * s, none⟩) len (cap.getD (ν.κ b - i))
  | .mp b => .map (some (ν.ρ b))
  | .cp b i => .int .i64 ((ν.κ b - i : Nat) : Int)
  | .fn f a c => .func (denFn ν f) (denL ν a).toArray (denL ν c).toArray
  | .ifc t x => .iface t (den ν x)
  | .agg l => .agg (denL ν l).toArray
  | .tup l => .tuple (denL ν l).toArray
def denL (ν : Nu) : List SV → List Value
  | [] => []
  | x :: xs => den ν x :: denL ν xs
end
def okFn (V : Nat → Prop) : Fn → Prop
  | .yield l => V l
  | _ => True
mutual
/-- all blocks that a value names are such -/
def Val (V : Nat → Prop) : SV → Prop
  | .v _ | .str _ => True
  | .ptr b _ _ _ | .slc b _ _ _ _ | .mp b | .cp b _ => V b
  | .fn f a c => okFn V f ∧ ValL V a ∧ ValL V c
  | .ifc _ x => Val V x
  | .agg l | .tup l => ValL V l
def ValL (V : Nat → Prop) : List SV → Prop
  | [] => True
  | x :: xs => Val V x ∧ ValL V xs
end
theorem denL_eq (ν : Nu) : ∀ l, denL ν l = l.map (den ν)
  | [] => by simp [denL]
  | x :: xs => by simp [denL, denL_eq ν xs]
theorem valL_iff (V : Nat → Prop) : ∀ l, ValL V l ↔ ∀ x ∈ l, Val V x
  | [] => by simp [ValL]
  | x :: xs => by simp [ValL, valL_iff V xs]
def Agree (V : Nat → Prop) (ν ν' : Nu) : Prop := ∀ b, V b → ν'.ρ b = ν.ρ b ∧ ν'.κ b = ν.κ b
mutual
theorem den_agree {V : Nat → Prop} {ν ν' : Nu} (h : Agree V ν ν') : ∀ x, Val V x → den ν' x = den ν x
  | .v x, _ => by simp [den]
  | .str l, _ => by simp [den]
  | .ptr b s i j, hx => by simp [Val] at hx; simp [den, (h b hx).1]
  | .slc b s i len cap, hx => by simp [Val] at hx; simp [den, (h b hx).1, (h b hx).2]
  | .mp b, hx => by simp [Val] at hx; simp [den, (h b hx).1]
  | .cp b i, hx => by simp [Val] at hx; simp [den, (h b hx).2]
  | .fn f a c, hx => by
    simp [Val] at hx
    simp only [den, denL_agree h a hx.2.1, denL_agree h c hx.2.2]
    cases f <;> simp [denFn]
    exact (h _ hx.1).1
  | .ifc t x, hx => by simp [Val] at hx; simp [den, den_agree h x hx]
  | .agg l, hx => by simp [Val] at hx; simp [den, denL_agree h l hx]
  | .tup l, hx => by simp [Val] at hx; simp [den, denL_agree h l hx]
theorem denL_agree {V : Nat → Prop} {ν ν' : Nu} (h : Agree V ν ν') : ∀ l, ValL V l → denL ν' l = denL ν l
  | [], _ => by simp [denL]
  | x :: xs, hx => by simp [ValL] at hx; simp [denL, den_agree h x hx.1, denL_agree h xs hx.2]
end
mutual
theorem val_mono {V V' : Nat → Prop} (h : ∀ b, V b → V' b) : ∀ x, Val V x → Val V' x
  | .v x, _ => by simp [Val]
  | .str l, _ => by simp [Val]
  | .ptr b s i j, hx => by simp [Val] at *; exact h _ hx
  | .slc b s i len cap, hx => by simp [Val] at *; exact h _ hx
  | .mp b, hx => by simp [Val] at *; exact h _ hx
  | .cp b i, hx => by simp [Val] at *; exact h _ hx
  | .fn f a c, hx => by
    simp [Val] at *
    refine ⟨?_, valL_mono h a hx.2.1, valL_mono h c hx.2.2⟩
    have := hx.1
    cases f <;> simp [okFn] at *
    exact h _ this
  | .ifc t x, hx => by simp [Val] at *; exact val_mono h x hx
  | .agg l, hx => by simp [Val] at *; exact valL_mono h l hx
  | .tup l, hx => by simp [Val] at *; exact valL_mono h l hx
theorem valL_mono {V V' : Nat → Prop} (h : ∀ b, V b → V' b) : ∀ l, ValL V l → ValL V' l
  | [], _ => by simp [ValL]
  | x :: xs, hx => by simp [ValL] at *; exact ⟨val_mono h x hx.1, valL_mono h xs hx.2⟩
end
/-- temporaries: n of them, beyond them none -/
def TmOK (V : Nat → Prop) (tm : T SV) (n : Nat) : Prop := n ≤ top ∧ (∀ t, Val V (tmGet tm t)) ∧ ∀ t, n ≤ t → tmGet tm t = und
def ValO (V : Nat → Prop) : AObj → Prop
  | .cells _ l _ => ValL V l
  | .map es _ => ∀ e ∈ es, Val V e.1 ∧ Val V e.2.1
  | .siter _ _ => True
  | .miter m _ _ _ => ∀ b, m = some b → V b
  | .loop _ _ _ tm n _ _ _ d => TmOK V tm n ∧ V d
  | .dfr _ => True
theorem valO_mono {V V' : Nat → Prop} (h : ∀ b, V b → V' b) : ∀ o, ValO V o → ValO V' o
  | .cells _ l _, hx => valL_mono h l hx
  | .map _es _, hx => fun e he => ⟨val_mono h _ (hx e he).1, val_mono h _ (hx e he).2⟩
  | .siter _ _, _ => trivial
  | .miter _m _ _ _, hx => fun b hb => h _ (hx b hb)
  | .loop _ _ _ _tm _ _ _ _ _d, hx => ⟨⟨hx.1.1, fun t => val_mono h _ (hx.1.2.1 t), hx.1.2.2⟩, h _ hx.2⟩
  | .dfr _, _ => trivial
/-- the temporaries of an activation -/
noncomputable def tmL (ν : Nu) (tm : T SV) (n : Nat) : List Value := (List.range n).map fun t => den ν (tmGet tm t)
theorem tmL_agree {V : Nat → Prop} {ν ν' : Nu} (h : Agree V ν ν') {tm : T SV} (n : Nat) (hx : ∀ t, Val V (tmGet tm t)) : tmL ν' tm n = tmL ν tm n := by
  unfold tmL
  exact List.map_congr_left fun t _ => den_agree h _ (hx t)
def denE (ν : Nu) (e : SV × SV × Nat) : MapEntry := { key := den ν e.1, val := den ν e.2.1, born := e.2.2 }
def one (v : Value) : Prop := v.oneCell' = true
/-- what a block stands for -/
def ObjR (P : Program) (ν : Nu) (b : Nat) : AObj → Obj → Prop
  | .cells e l lo, o => ∃ rest f1 f2, o = .cells (denL ν l ++ rest).toArray e (f1, f2) ∧ (∀ x ∈ denL ν l ++ rest, one x) ∧ (f1 = f2 ∨ ((denL ν l ++ rest).length ≤ f1 ∧ P.underlying e = some (.int .u8))) ∧
      (lo = false → rest = []) ∧ (lo = true → ∃ i, P.info? e = some i ∧ l.length + rest.length = ν.κ b * i.size)
  | .map es c, o => o = .map (es.map (denE ν)).toArray c
  | .siter s pos, o => o = .stringIter ⟨s.toArray⟩ pos
  | .miter m since seen st, o => o = .mapIter (m.map ν.ρ) since seen.toArray st
  | .loop st pe _ tm n ps asg body d, o => ∃ fid, o = .loop { state := st, pending := pe, fn := fid, tmps := (tmL ν tm n).toArray, params := ps, assign := asg, body, defers := ν.ρ d }
  | .dfr _, o => o = .deferred (some [])
theorem objR_agree {P : Program} {V : Nat → Prop} {ν ν' : Nu} (h : Agree V ν ν') {b : Nat} (hb : V b) : ∀ {o : AObj} {r : Obj}, ValO V o → ObjR P ν b o r → ObjR P ν' b o r
  | .cells e l lo, r, hv, hr => by
    obtain ⟨rest, f1, f2, h1, h2, h3, h4, h5⟩ := hr
    have e1 := denL_agree h l hv
    refine ⟨rest, f1, f2, ?_, ?_, ?_, h4, ?_⟩
    · rw [e1]; exact h1
    · rw [e1]; exact h2
    · rw [e1]; exact h3
    · rw [(h b hb).2]; exact h5
  | .map es c, r, hv, hr => by
    subst hr
    show _ = _
    congr 2
    refine List.map_congr_left fun e he => ?_
    simp [denE, den_agree h _ (hv e he).1, den_agree h _ (hv e he).2]
  | .siter s pos, r, hv, hr => hr
  | .miter m since seen st, r, hv, hr => by
    subst hr
    cases m with
    | none => rfl
    | some x => show _ = _; simp [(h x (hv x rfl)).1]
  | .loop st pe _ tm n ps asg body d, r, hv, hr => by
    obtain ⟨fid, rfl⟩ := hr
    refine ⟨fid, ?_⟩
    rw [tmL_agree h n hv.1.2.1, (h d hv.2).1]
  | .dfr _, r, hv, hr => hr
/-- a state of the abstract machine stands for a world -/
structure Rel (P : Program) (G : Nat) (s : HS) (ν : Nu) (V : Nat → Prop) (w : World) : Prop where
  blk : ∀ b o, s.h.get b = some o → ∃ r, w.heap[ν.ρ b]? = some r ∧ ObjR P ν b o r
  cl : ∀ b o, s.h.get b = some o → V b ∧ ValO V o
  inj : ∀ b b' o o', s.h.get b = some o → s.h.get b' = some o' → ν.ρ b = ν.ρ b' → b = b'
  glob : ∀ g, g < G → ν.ρ g = g ∧ V g
def VN (V : Nat → Prop) (s s' : HS) : Nat → Prop := fun b => V b ∨ (s.c ≤ b ∧ b < s'.c)
/-- what a step keeps of the world: what was there, but for the blocks that it writes -/
structure Fr (ν : Nu) (V : Nat → Prop) (W : Nat → Prop) (w w' : World) : Prop where
  os : w'.os = w.os
  tape : w'.tape = w.tape
  output : w'.output = w.output
  le : w.heap.size ≤ w'.heap.size
  keep : ∀ r, r < w.heap.size → (∀ b, W b → V b → ν.ρ b ≠ r) → w'.heap[r]? = w.heap[r]?
theorem Fr.refl (ν : Nu) (V W : Nat → Prop) (w : World) : Fr ν V W w w := ⟨rfl, rfl, rfl, Nat.le_refl _, fun _ _ _ => rfl⟩
/-- ν' is ν but for the numbers that the run gave out -/
def Out (s s' : HS) (ν ν' : Nu) : Prop := ∀ x, ¬ (s.c ≤ x ∧ x < s'.c) → ν'.ρ x = ν.ρ x ∧ ν'.κ x = ν.κ x
def Fresh (s s' : HS) (V : Nat → Prop) : Prop := ∀ x, s.c ≤ x → x < s'.c → ¬ V x
theorem Out.agree {s s' : HS} {ν ν' : Nu} {V : Nat → Prop} (h : Out s s' ν ν') (hf : Fresh s s' V) : Agree V ν ν' :=
  fun b hb => h b (fun hc => hf b hc.1 hc.2 hb)
structure Post (P : Program) (G : Nat) (s : HS) (ν : Nu) (V : Nat → Prop) (w : World) (s' : HS) (p : FP) (ν' : Nu) (w' : World) : Prop where
  rel : Rel P G s' ν' (VN V s s') w'
  out : Out s s' ν ν'
  fr : Fr ν V p.W w w'
  new : ∀ b, s.c ≤ b → b < s'.c → w.heap.size ≤ ν'.ρ b ∨ ∃ b0, p.W b0 ∧ V b0 ∧ ν.ρ b0 = ν'.ρ b
theorem VN_self (V : Nat → Prop) (s : HS) : VN V s s = V := by
  funext b; apply propext
  constructor
  · rintro (h | h)
    · exact h
    · omega
  · exact Or.inl
theorem post_refl {P : Program} {G : Nat} {s : HS} {ν : Nu} {V : Nat → Prop} {w : World} (h : Rel P G s ν V w) (p : FP) : Post P G s ν V w s p ν w :=
  ⟨by rw [VN_self]; exact h, fun _ _ => ⟨rfl, rfl⟩, Fr.refl _ _ _ _, fun b h1 h2 => by omega⟩
theorem VN_mono {V : Nat → Prop} {s s' : HS} (b : Nat) (h : V b) : VN V s s' b := Or.inl h
theorem VN_trans {V : Nat → Prop} {s s1 s' : HS} (h1 : s.c ≤ s1.c) (h2 : s1.c ≤ s'.c) : VN (VN V s s1) s1 s' = VN V s s' := by
  funext b; apply propext
  constructor
  · rintro ((h | h) | h)
    · exact Or.inl h
    · exact Or.inr ⟨h.1, by omega⟩
    · exact Or.inr ⟨by omega, h.2⟩
  · rintro (h | h)
    · exact Or.inl (Or.inl h)
    · by_cases hb : b < s1.c
      · exact Or.inl (Or.inr ⟨h.1, hb⟩)
      · exact Or.inr ⟨by omega, h.2⟩
theorem Fresh.left {s s1 s' : HS} {V : Nat → Prop} (h : Fresh s s' V) (h2 : s1.c ≤ s'.c) : Fresh s s1 V := fun x h1 h3 => h x h1 (by omega)
theorem Fresh.right {s s1 s' : HS} {V : Nat → Prop} (h : Fresh s s' V) (h1 : s.c ≤ s1.c) : Fresh s1 s' (VN V s s1) := by
  rintro x hx1 hx2 (hv | hv)
  · exact h x (by omega) hx2 hv
  · omega
theorem Post.trans {P : Program} {G : Nat} {s s1 s' : HS} {ν ν1 ν' : Nu} {V : Nat → Prop} {w w1 w' : World} {p q : FP} (h1 : Post P G s ν V w s1 p ν1 w1) (h2 : Post P G s1 ν1 (VN V s s1) w1 s' q ν' w')
    (c1 : s.c ≤ s1.c) (c2 : s1.c ≤ s'.c) (hf : Fresh s s' V) : Post P G s ν V w s' (p.app q) ν' w' := by
  refine ⟨by have := h2.rel; rwa [VN_trans c1 c2] at this, fun x hx => ?_, ?_, fun b hb1 hb2 => ?_⟩
  · have e1 := h1.out x (fun hc => hx ⟨hc.1, by omega⟩)
    have e2 := h2.out x (fun hc => hx ⟨by omega, hc.2⟩)
    exact ⟨e2.1.trans e1.1, e2.2.trans e1.2⟩
  · have f1 := h1.fr
    have f2 := h2.fr
    refine ⟨f2.os.trans f1.os, f2.tape.trans f1.tape, f2.output.trans f1.output, Nat.le_trans f1.le f2.le, fun r hr2 hk => ?_⟩
    refine (f2.keep r (Nat.lt_of_lt_of_le hr2 f1.le) (fun b hb hv => ?_)).trans (f1.keep r hr2 (fun b hb hv => hk b (Or.inl hb) hv))
    rcases hv with hv | hv
    · have e := h1.out b (fun hc => (hf.left c2) b hc.1 hc.2 hv)
      rw [e.1]
      exact hk b (Or.inr hb) hv
    · rcases h1.new b hv.1 hv.2 with h | ⟨b0, hb0, hv0, e⟩
      · omega
      · exact e ▸ hk b0 (Or.inl hb0) hv0
  · by_cases hb : b < s1.c
    · have e := h2.out b (fun hc => by omega)
      rw [e.1]
      rcases h1.new b hb1 hb with h | ⟨b0, hb0, hv0, e0⟩
      · exact Or.inl h
      · exact Or.inr ⟨b0, Or.inl hb0, hv0, e0⟩
    · rcases h2.new b (by omega) hb2 with h | ⟨b0, hb0, hv0, e0⟩
      · exact Or.inl (Nat.le_trans h1.fr.le h)
      · rcases hv0 with hv0 | hv0
        · have e := h1.out b0 (fun hc => (hf.left c2) b0 hc.1 hc.2 hv0)
          exact Or.inr ⟨b0, Or.inr hb0, hv0, by rw [← e.1, e0]⟩
        · rcases h1.new b0 hv0.1 hv0.2 with h | ⟨b1, hb1, hv1, e1⟩
          · exact Or.inl (e0 ▸ h)
          · exact Or.inr ⟨b1, Or.inl hb1, hv1, e1.trans e0⟩
/-! ### The steps on memory -/
variable {P : Program} {G : Nat} {s : HS} {ν : Nu} {V : Nat → Prop} {w : World}
/-- a world of which but the draws have turned -/
theorem post_draw (h : Rel P G s ν V w) (p : FP) {w' : World} (h1 : w'.heap = w.heap) (h2 : w'.os = w.os) (h3 : w'.tape = w.tape) (h4 : w'.output = w.output) : Post P G s ν V w s p ν w' := by
  refine ⟨?_, fun _ _ => ⟨rfl, rfl⟩, ⟨h2, h3, h4, by rw [h1]; exact Nat.le_refl _, fun r _ _ => by rw [h1]⟩, fun b h1 h2 => by omega⟩
  rw [VN_self]
  exact ⟨fun b o hb => by rw [h1]; exact h.blk b o hb, h.cl, h.inj, h.glob⟩
def setNu (ν : Nu) (b r k : Nat) : Nu := ⟨fun x => if x = b then r else ν.ρ x, fun x => if x = b then k else ν.κ x⟩
theorem setNu_agree {b r k : Nat} (h : ¬ V b) : Agree V ν (setNu ν b r k) := fun x hx => by
  have : x ≠ b := fun e => h (e ▸ hx)
  simp [setNu, this]
/-- a new block -/
theorem post_new (h : Rel P G s ν V w) (hc : s.c < top) (_hn : s.h.get s.c = none) (hv : ¬ V s.c) {ao : AObj} {o : Obj} (k : Nat) (hao : ValO V ao) (ho : ObjR P (setNu ν s.c w.heap.size k) s.c ao o) (p : FP)
    {w' : World} (e1 : w'.heap = w.heap.push o) (e2 : w'.os = w.os) (e3 : w'.tape = w.tape) (e4 : w'.output = w.output) :
    Post P G s ν V w ⟨s.h.upd 20 s.c (some ao), s.c + 1⟩ p (setNu ν s.c w.heap.size k) w' := by
  have hag := setNu_agree (ν := ν) (r := w.heap.size) (k := k) hv
  have hmono : ∀ b, V b → VN V s ⟨s.h.upd 20 s.c (some ao), s.c + 1⟩ b := fun b hb => Or.inl hb
  have hself : VN V s ⟨s.h.upd 20 s.c (some ao), s.c + 1⟩ s.c := Or.inr ⟨Nat.le_refl _, Nat.lt_succ_self _⟩
  refine ⟨⟨fun b o' hb => ?_, fun b o' hb => ?_, fun b b' o1 o2 hb hb' he => ?_, fun g hg => ?_⟩, fun x hx => ?_, ⟨e2, e3, e4, by rw [e1]; simp, fun r hr _ => ?_⟩, fun b hb1 hb2 => ?_⟩
  · rw [upd20 hc] at hb
    by_cases e : b = s.c
    · subst e
      rw [if_pos rfl] at hb
      injection hb with hb; subst hb
      refine ⟨o, ?_, ho⟩
      rw [e1]; simp [setNu]
    · rw [if_neg e] at hb
      obtain ⟨r, hr, hor⟩ := h.blk b o' hb
      obtain ⟨hvb, hvo⟩ := h.cl b o' hb
      refine ⟨r, ?_, objR_agree hag hvb hvo hor⟩
      rw [(hag b hvb).1, e1, Array.getElem?_push]
      have hlt := (Array.getElem?_eq_some_iff.1 hr).1
      rw [if_neg (by omega)]; exact hr
  · rw [upd20 hc] at hb
    by_cases e : b = s.c
    · subst e
      rw [if_pos rfl] at hb
      injection hb with hb; subst hb
      exact ⟨hself, valO_mono hmono _ hao⟩
    · rw [if_neg e] at hb
      obtain ⟨hvb, hvo⟩ := h.cl b o' hb
      exact ⟨hmono _ hvb, valO_mono hmono _ hvo⟩
  · rw [upd20 hc] at hb hb'
    have key : ∀ b o', b ≠ s.c → s.h.get b = some o' → (setNu ν s.c w.heap.size k).ρ b = ν.ρ b ∧ ν.ρ b < w.heap.size := fun b o' hne hb => by
      obtain ⟨r, hr, _⟩ := h.blk b o' hb
      exact ⟨by simp [setNu, hne], (Array.getElem?_eq_some_iff.1 hr).1⟩
    by_cases e : b = s.c
    · by_cases e' : b' = s.c
      · rw [e, e']
      · rw [if_neg e'] at hb'
        obtain ⟨k1, k2⟩ := key b' o2 e' hb'
        rw [e, k1] at he
        simp [setNu] at he
        omega
    · rw [if_neg e] at hb
      obtain ⟨k1, k2⟩ := key b o1 e hb
      by_cases e' : b' = s.c
      · rw [e', k1] at he
        simp [setNu] at he
        omega
      · rw [if_neg e'] at hb'
        obtain ⟨k3, k4⟩ := key b' o2 e' hb'
        rw [k1, k3] at he
        exact h.inj b b' o1 o2 hb hb' he
  · obtain ⟨h1, h2⟩ := h.glob g hg
    exact ⟨by rw [(hag g h2).1]; exact h1, hmono _ h2⟩
  · have : x ≠ s.c := fun e => hx (by subst e; exact ⟨Nat.le_refl _, Nat.lt_succ_self _⟩)
    simp [setNu, this]
  · rw [e1, Array.getElem?_push, if_neg (by omega)]
  · left
    have hb2 : b < s.c + 1 := hb2
    have : b = s.c := by omega
    simp [setNu, this]
/-- a block turned -/
theorem post_put (h : Rel P G s ν V w) {b : Nat} {o : AObj} (hb : s.h.get b = some o) (ht : b < top) {ao : AObj} {r : Obj} (hao : ValO V ao) (hr : ObjR P ν b ao r) {p : FP} (hp : p.W b)
    {w' : World} (e0 : w'.heap.size = w.heap.size) (e1 : w'.heap[ν.ρ b]? = some r) (e2 : ∀ k, k ≠ ν.ρ b → w'.heap[k]? = w.heap[k]?) (e3 : w'.os = w.os) (e4 : w'.tape = w.tape) (e5 : w'.output = w.output) :
    Post P G s ν V w ⟨s.h.upd 20 b (some ao), s.c⟩ p ν w' := by
  obtain ⟨hvb, _⟩ := h.cl b o hb
  have hVN : VN V s ⟨s.h.upd 20 b (some ao), s.c⟩ = V := VN_self V s
  have hget : ∀ x o', (s.h.upd 20 b (some ao)).get x = some o' → ∃ o2, s.h.get x = some o2 := fun x o' hx => by
    rw [upd20 ht] at hx
    by_cases e : x = b
    · exact ⟨o, e ▸ hb⟩
    · rw [if_neg e] at hx; exact ⟨o', hx⟩
  refine ⟨?_, fun _ _ => ⟨rfl, rfl⟩, ⟨e3, e4, e5, by rw [e0]; exact Nat.le_refl _, fun k _ hk => e2 k (fun e => hk b hp hvb e.symm)⟩, fun x hx1 hx2 => ?_⟩
  · rw [hVN]
    refine ⟨fun x o' hx => ?_, fun x o' hx => ?_, fun x y o1 o2 hx hy he => ?_, h.glob⟩
    · rw [upd20 ht] at hx
      by_cases e : x = b
      · subst e
        rw [if_pos rfl] at hx
        injection hx with hx; subst hx
        exact ⟨r, e1, hr⟩
      · rw [if_neg e] at hx
        obtain ⟨r', hr', ho'⟩ := h.blk x o' hx
        refine ⟨r', ?_, ho'⟩
        rw [e2 _ (fun e' => e (h.inj x b o' o hx hb e'))]; exact hr'
    · rw [upd20 ht] at hx
      by_cases e : x = b
      · subst e
        rw [if_pos rfl] at hx
        injection hx with hx; subst hx
        exact ⟨hvb, hao⟩
      · rw [if_neg e] at hx
        exact h.cl x o' hx
    · obtain ⟨o3, hx3⟩ := hget x o1 hx
      obtain ⟨o4, hy4⟩ := hget y o2 hy
      exact h.inj x y o3 o4 hx3 hy4 he
  · have : x < s.c := hx2
    omega
end Go.Ev
/- The abstract machine: what each operation does to abstract values and blocks. -/
namespace Go.Ev
def ofV1 : Value → SV
  | .string s => .str s.data.toList
  | v => .v v
def ofV : Value → SV
  | .string s => .str s.data.toList
  | .agg cs => .agg (cs.toList.map ofV1)
  | .tuple cs => .tup (cs.toList.map ofV1)
  | .iface t (.string s) => .ifc t (.str s.data.toList)
  | v => .v v
def SV.cells : SV → List SV
  | .agg l => l
  | .v (.agg cs) => cs.toList.map .v
  | x => [x]
structure Env where
  P : Program
  nG : Nat
  ty : Nat → Option TypeInfo
  fn : Nat → Option Func
  spec : Nat → List SV → Option (M SV)
noncomputable def Env.info (E : Env) (t : TypeId) : M TypeInfo := match E.ty t with
  | some i => pure i
  | none => fail "type"
noncomputable def Env.undO (E : Env) (t : TypeId) : Option TypeDesc := match E.ty t with
  | some i => (match i.desc with
    | .named _ u => (match E.ty u with | some j => some j.desc | none => none)
    | d => some d)
  | none => none
noncomputable def Env.und (E : Env) (t : TypeId) : M TypeDesc := match E.undO t with
  | some d => pure d
  | none => fail "type"
def aggD : TypeDesc → Bool
  | .struct _ | .array _ _ => true
  | _ => false
noncomputable def Env.zero (E : Env) (t : TypeId) : M SV := match E.ty t with
  | some i => (match i.zero with
    | some v => pure (ofV v)
    | none => fail "zero")
  | none => fail "type"
noncomputable def evalO (E : Env) (tm : T SV) : Operand → SV
  | .tmp t => tmGet tm t
  | .const v => ofV v
  | .global g => bif Nat.blt g E.nG then .ptr g 1 0 0 else .v (.pointer (some ⟨g, 0, none⟩))
  | .func f => .fn (.func f) [] []
def one1 : SV → Bool
  | .agg _ | .tup _ => false
  | .v x => (match x with | .agg _ | .tuple _ => false | _ => true)
  | _ => true
/-- n cells from a place on -/
noncomputable def cut (l : List SV) (k n : Nat) : Option (List SV) := bif Nat.beq (lenR (takeR (dropR l k) n)) n then some (takeR (dropR l k) n) else none
noncomputable def setL (l : List SV) (k : Nat) (xs : List SV) : List SV := appR (takeR l k) (appR xs (dropR l (k + lenR xs)))
noncomputable def cellsOf (b : Nat) : M (TypeId × List SV × Bool) := get b >>= fun o => match o with
  | .cells e l z => pure (e, l, z)
  | _ => fail "cells"
noncomputable def mapOf (b : Nat) : M (List (SV × SV × Nat) × Nat) := get b >>= fun o => match o with
  | .map es c => pure (es, c)
  | _ => fail "map"
noncomputable def loadVar (E : Env) (t : TypeId) (p : SV) : M SV := match p with
  | .ptr b s i j => cellsOf b >>= fun r => E.und t >>= fun d => bif aggD d then
      (E.info t >>= fun ti => match cut r.2.1 (i * s + j) ti.size with
        | some x => pure (.agg x)
        | none => fail "load: short")
    else (match getR r.2.1 (i * s + j) with
      | some x => pure x
      | none => fail "load: no cell")
  | _ => fail "load: pointer"
noncomputable def storeAt (b : Nat) (k : Nat) (xs : List SV) : M Unit := cellsOf b >>= fun r =>
  bif Nat.ble (k + lenR xs) (lenR r.2.1) && allR one1 xs then put b (.cells r.1 (setL r.2.1 k xs) r.2.2) else fail "store"
noncomputable def storeVar (E : Env) (t : TypeId) (p x : SV) : M Unit := match p with
  | .ptr b s i j => E.info t >>= fun ti => bif Nat.beq (lenR x.cells) ti.size then storeAt b (i * s + j) x.cells else fail "store: size"
  | _ => fail "store: pointer"
noncomputable def newRow (t : TypeId) (xs : List SV) (z : Bool) : M Nat := bif allR one1 xs then new (.cells t xs z) else fail "new"
noncomputable def newVar (_E : Env) (t : TypeId) (x : SV) : M SV := newRow t x.cells false >>= fun b => pure (.ptr b 1 0 0)
noncomputable def part (E : Env) (t : TypeId) (cs : List SV) (off : Nat) : M SV := E.und t >>= fun d => bif aggD d then
    (E.info t >>= fun ti => pure (.agg (takeR (dropR cs off) ti.size)))
  else (match getR cs off with
    | some x => pure x
    | none => fail "part")
noncomputable def asInt : SV → M (IntKind × Int)
  | .v (.int k n) => pure (k, n)
  | _ => fail "int"
noncomputable def asBool : SV → M Bool
  | .v (.bool b) => pure b
  | _ => fail "bool"
noncomputable def fillS (place : Nat → Option (Nat × Nat)) (cells : List SV) : List (Nat × SV) → M (List SV)
  | [] => pure cells
  | (i, x) :: rest => match place i with
    | some (off, size) => bif Nat.beq (lenR x.cells) size && Nat.ble (off + size) (lenR cells) then fillS place (setL cells off x.cells) rest else fail "fill"
    | none => fail "fill"
mutual
/-- an address-free value -/
def toV : SV → Option Value
  | .v x => some x
  | .str l => some (.string ⟨l.toArray⟩)
  | .ifc t x => (match toV x with | some y => some (.iface t y) | none => none)
  | .agg l => (match toVs l with | some xs => some (.agg xs.toArray) | none => none)
  | .tup l => (match toVs l with | some xs => some (.tuple xs.toArray) | none => none)
  | _ => none
def toVs : List SV → Option (List Value)
  | [] => some []
  | x :: xs => (match toV x, toVs xs with
    | some y, some ys => some (y :: ys)
    | _, _ => none)
end
/-- a program that asks the world nothing -/
noncomputable def purely {α : Type} (P : Program) : Sem α → Option α
  | .pure a => some a
  | .program k => purely P (k P)
  | .mark _ k => purely P k
  | _ => none
noncomputable def plainM {α : Type} (E : Env) (s : Sem α) (w : String) : M α := match purely E.P s with
  | some v => pure v
  | none => fail w
noncomputable def toM (x : SV) (w : String) : M Value := match toV x with
  | some v => pure v
  | none => fail w
noncomputable def toMs (x : List SV) (w : String) : M (List Value) := match toVs x with
  | some v => pure v
  | none => fail w
def ltI : Int → Int → Bool
  | .ofNat a, .ofNat b => Nat.blt a b
  | a, b => decide (a < b)
def eqI : Int → Int → Bool
  | .ofNat a, .ofNat b => Nat.beq a b
  | a, b => decide (a = b)
def inB (i : Int) (n : Nat) : Bool := match i with
  | .ofNat a => Nat.blt a n
  | _ => false
def lim : IntKind → Nat
  | .i8 => 128 | .i16 => 32768 | .i32 => 2147483648 | .i64 => 9223372036854775808
  | .u8 => 256 | .u16 => 65536 | .u32 => 4294967296 | .u64 => 18446744073709551616
def wrapA (k : IntKind) : Int → Int
  | .ofNat m => bif Nat.blt m (lim k) then .ofNat m else (match k with
    | .u8 => .ofNat (m % 256) | .u16 => .ofNat (m % 65536) | .u32 => .ofNat (m % 4294967296) | .u64 => .ofNat (m % 18446744073709551616)
    | _ => k.wrap (.ofNat m))
  | n => k.wrap n
def bitsA (k : IntKind) (op : BinOp) (a b : Int) : Option Int := match a, b, op with
  | .ofNat x, .ofNat y, .and => some (wrapA k (.ofNat (Nat.land x y)))
  | .ofNat x, .ofNat y, .or => some (wrapA k (.ofNat (Nat.lor x y)))
  | .ofNat x, .ofNat y, .xor => some (wrapA k (.ofNat (Nat.xor x y)))
  | _, _, _ => none
def inK (k : IntKind) : Int → Bool
  | .ofNat m => Nat.blt m (lim k)
  | _ => false
def intA (op : BinOp) (k : IntKind) (a b : Int) : Option SV := match op with
  | .add => some (.v (.int k (wrapA k (Int.add a b))))
  | .sub => some (.v (.int k (wrapA k (Int.sub a b))))
  | .mul => some (.v (.int k (wrapA k (Int.mul a b))))
  | .eql => some (.v (.bool (eqI a b)))
  | .neq => some (.v (.bool (!eqI a b)))
  | .lss => some (.v (.bool (ltI a b)))
  | .leq => some (.v (.bool (!ltI b a)))
  | .gtr => some (.v (.bool (ltI b a)))
  | .geq => some (.v (.bool (!ltI a b)))
  | _ => none
/-- two of one sort, of which one is nil -/
def eqT : TypeDesc → SV → SV → Option Bool
  | .pointer _, .v (.pointer none), .v (.pointer none) => some true
  | .pointer _, .v (.pointer none), .ptr .. => some false
  | .pointer _, .ptr .., .v (.pointer none) => some false
  | .slice _, .v (.slice none _ _), .v (.slice none _ _) => some true
  | .slice _, .v (.slice none _ _), .slc .. => some false
  | .slice _, .slc .., .v (.slice none _ _) => some false
  | .map _ _, .v (.map none), .v (.map none) => some true
  | .map _ _, .v (.map none), .mp _ => some false
  | .map _ _, .mp _, .v (.map none) => some false
  | .func _ _ _, .v .nilFunc, .v .nilFunc => some true
  | .func _ _ _, .v .nilFunc, .fn .. => some false
  | .func _ _ _, .fn .., .v .nilFunc => some false
  | .interface _, .v .nilIface, .ifc .. => some false
  | .interface _, .ifc .., .v .nilIface => some false
  | _, _, _ => none
/-- two structs that differ in their first field, of which one is nil -/
noncomputable def eqF (E : Env) (t : TypeId) (d : TypeDesc) (x y : SV) : Bool := match d, x, y with
  | .struct fs, .agg (x0 :: _), .agg (y0 :: _) => (match fs.toList with
    | f :: _ => (match E.undO f.type, E.ty f.type, x0, y0 with
      | some (.pointer _), some ti, .ptr .., .v (.pointer none) => Nat.beq f.offset 0 && Nat.beq ti.size 1 && !(f.name == "_") && !E.P.stoodInHeld t && !E.P.eqGuardType E.P.depth t
      | some (.pointer _), some ti, .v (.pointer none), .ptr .. => Nat.beq f.offset 0 && Nat.beq ti.size 1 && !(f.name == "_") && !E.P.stoodInHeld t && !E.P.eqGuardType E.P.depth t
      | _, _, _, _ => false)
    | [] => false)
  | _, _, _ => false
/-- one address -/
noncomputable def eqP (E : Env) (d : TypeDesc) (x y : SV) : Bool := match d, x, y with
  | .pointer e, .ptr b s i j, .ptr b' s' i' j' => Nat.beq b b' && Nat.beq s s' && Nat.beq i i' && Nat.beq j j' && (E.ty e).isSome
  | _, _, _ => false
noncomputable def eqA (E : Env) (op : BinOp) (t : TypeId) (ox oy : Operand) (x y : SV) (neg : Bool) : M SV := E.und t >>= fun d => match eqT d x y with
  | some b => pure (.v (.bool (b != neg)))
  | none => bif eqF E t d x y then pure (.v (.bool neg)) else bif eqP E d x y then pure (.v (.bool (!neg))) else toM x "eq" >>= fun a => toM y "eq" >>= fun b => plainM E (do eqGuard op t ox oy a b; Go.binOp op t a b) "eq" >>= fun r => pure (ofV r)
noncomputable def binA (E : Env) (op : BinOp) (t : TypeId) (ox oy : Operand) (x y : SV) : M SV := match x, y with
  | .v (.int k a), .v (.int k' b) => bif decide (k = k') then (match intA op k a b with
      | some r => pure r
      | none => (match (bif inK k a && inK k b then bitsA k op a b else none) with
        | some n => pure (.v (.int k n))
        | none => plainM E (Go.binOp op t (.int k a) (.int k' b)) "binop" >>= fun r => pure (ofV r)))
    else (match op with
      | .shl | .shr => plainM E (Go.binOp op t (.int k a) (.int k' b)) "binop" >>= fun r => pure (ofV r)
      | _ => fail "binop: kinds")
  | .str a, .str b => (match op with
    | .add => bif Nat.ble (lenR a + lenR b) 1000000 then pure (.str (appR a b)) else fail "long"
    | .eql => pure (.v (.bool (a == b)))
    | .neq => pure (.v (.bool (a != b)))
    | .lss => pure (.v (.bool (Op.bytesLess a b)))
    | .leq => pure (.v (.bool (Op.bytesLess a b || a == b)))
    | .gtr => pure (.v (.bool !(Op.bytesLess a b || a == b)))
    | .geq => pure (.v (.bool !(Op.bytesLess a b)))
    | _ => fail "binop: strings")
  | x, y => (match op with
    | .eql => eqA E op t ox oy x y false
    | .neq => eqA E op t ox oy x y true
    | _ => fail "binop")
noncomputable def bound (x : SV) (y : Nat) : M Nat := asInt x >>= fun i => asrt (inB i.2 (y + 1)) "bounds" >>= fun _ => pure i.2.toNat
noncomputable def boundsM (len cap : Nat) (lo hi mx : Option SV) : M (Nat × Nat × Nat) :=
  (match mx with | some v => bound v cap | none => pure cap) >>= fun m =>
  (match hi with | some v => bound v m | none => asrt (mx.isNone) "slice" >>= fun _ => pure len) >>= fun h =>
  (match lo with | some v => bound v h | none => pure 0) >>= fun l => pure (l, h, m)
/-- nothing of it: [:0] -/
def zeroHi (lo hi mx : Option SV) : Bool := match lo, hi, mx with
  | none, some (.v (.int _ n)), none => inB n 1
  | _, _, _ => false
noncomputable def sliceA (E : Env) (t : TypeId) (x : SV) (lo hi mx : Option SV) : M SV := E.und t >>= fun d => match d, x with
  | .string, .str s => asrt (mx.isNone) "slice" >>= fun _ => boundsM (lenR s) (lenR s) lo hi none >>= fun r => pure (.str (takeR (dropR s r.1) (r.2.1 - r.1)))
  | .slice e, .slc b s i len (some c) => E.info e >>= fun ti => bif Nat.beq ti.size s then boundsM len c lo hi mx >>= fun r => pure (.slc b s (bif Nat.beq r.2.2 r.1 then i else i + r.1) (r.2.1 - r.1) (some (r.2.2 - r.1))) else fail "slice: size"
  | .slice e, .slc b s i len none => E.info e >>= fun ti => bif zeroHi lo hi mx && Nat.beq i 0 then pure (.slc b s 0 0 none) else cellsOf b >>= fun q => E.info q.1 >>= fun qi => bif Nat.beq ti.size s && Nat.beq qi.size s && Nat.blt 0 s && q.2.2 && Nat.ble ((i + len) * s) (lenR q.2.1) then
      boundsM len len lo hi mx >>= fun r => (match mx with
        | some _ => pure (.slc b s (bif Nat.beq r.2.2 r.1 then i else i + r.1) (r.2.1 - r.1) (some (r.2.2 - r.1)))
        | none => bif Nat.blt r.1 len || Nat.beq r.1 0 then pure (.slc b s (i + r.1) (r.2.1 - r.1) none) else fail "slice: at the end")
      else fail "slice: loose"
  | .slice e, .v (.slice none 0 0) => E.info e >>= fun _ => boundsM 0 0 lo hi mx >>= fun r => bif Nat.beq r.1 0 && Nat.beq r.2.1 0 && Nat.beq r.2.2 0 then pure x else fail "slice: nil"
  | .array n e, .ptr b s i j => E.info e >>= fun ti => bif Nat.beq ti.size 1 then boundsM n n lo hi mx >>= fun r => pure (.slc b 1 (bif Nat.beq r.2.2 r.1 then i * s + j else i * s + j + r.1) (r.2.1 - r.1) (some (r.2.2 - r.1))) else fail "slice: array"
  | _, _ => fail "slice: what?"
noncomputable def fieldAt (E : Env) (s : TypeId) (x : SV) (f : Nat) : M SV := E.und s >>= fun d => match d, x with
  | .struct fs, .ptr b z i j => (match fs[f]? with
    | some fd => E.info fd.type >>= fun ti => bif Nat.blt 0 ti.size then pure (.ptr b z i (j + fd.offset)) else fail "field: size"
    | none => fail "field")
  | _, _ => fail "field"
noncomputable def indexAt (E : Env) (t : TypeId) (x ix : SV) : M SV := asInt ix >>= fun i => E.und t >>= fun d => match d, x with
  | .array len e, .ptr b s k j => asrt (inB i.2 len) "index" >>= fun _ => E.info e >>= fun ti => pure (.ptr b s k (j + i.2.toNat * ti.size))
  | .slice e, .slc b s k len _ => asrt (inB i.2 len) "index" >>= fun _ => E.info e >>= fun ti => bif Nat.beq ti.size s then pure (.ptr b s (k + i.2.toNat) 0) else fail "index: size"
  | _, _ => fail "index"
noncomputable def indexS (E : Env) (t : TypeId) (x ix : SV) : M SV := asInt ix >>= fun i => E.und t >>= fun d => match d, x with
  | .array len e, .agg cs => asrt (inB i.2 len) "index" >>= fun _ => E.info e >>= fun ti => part E e cs (i.2.toNat * ti.size)
  | .string, .str s => asrt (inB i.2 1000001) "index" >>= fun _ => (match getR s i.2.toNat with
    | some b => pure (.v (.int .u8 b.toNat))
    | none => fail "index: string")
  | _, _ => fail "index"
def intOf (n : Nat) : SV := .v (.int .i64 n)
noncomputable def lenS (E : Env) (x : SV) (t : TypeId) : M SV := E.und t >>= fun d => match d, x with
  | .string, .str s => pure (intOf (lenR s))
  | .slice _, .slc _ _ _ n _ => pure (intOf n)
  | .slice _, .v (.slice _ n _) => pure (intOf n)
  | .map _ _, .v (.map none) => pure (intOf 0)
  | .map _ _, .mp b => mapOf b >>= fun r => pure (intOf (lenR r.1))
  | .array n _, _ => pure (intOf n)
  | .pointer a, _ => E.und a >>= fun d => (match d with
    | .array n _ => pure (intOf n)
    | _ => fail "len")
  | _, _ => fail "len"
/-- how many elements, and their cells -/
noncomputable def srcCells (size : Nat) : SV → M (Nat × List SV)
  | .v (.slice none n _) => bif Nat.beq n 0 then pure (0, []) else fail "src"
  | .str s => pure (lenR s, mapR (fun b => .v (.int .u8 b.toNat)) s)
  | .slc b s i n _ => cellsOf b >>= fun r => bif Nat.beq s size then (match cut r.2.1 (i * s) (n * s) with
    | some x => pure (n, x)
    | none => fail "src: short") else fail "src: size"
  | _ => fail "src"
noncomputable def many (n : Nat) (z : List SV) : List SV := Nat.rec (motive := fun _ => List SV) [] (fun _ ih => appR z ih) n
/-- may the second argument's type be one of which an append takes elements? -/
def srcTy : TypeDesc → Bool
  | .slice _ | .string => true
  | _ => false
noncomputable def appendA (E : Env) (st xt : TypeId) (s x : SV) : M SV := E.und st >>= fun d => E.und xt >>= fun dx => match d with
  | .slice e => E.info e >>= fun ti => E.zero e >>= fun zr => asrt (srcTy dx && Nat.blt 0 ti.size && Nat.ble ti.bytes 10000 && Nat.beq (lenR zr.cells) ti.size && allR one1 zr.cells) "append: type" >>= fun _ =>
    srcCells ti.size x >>= fun r => asrt (Nat.beq (lenR r.2) (r.1 * ti.size) && Nat.ble r.1 1000000) "append: source" >>= fun _ => (match s with
    | .v (.slice none 0 0) => bif Nat.beq r.1 0 then pure s else newRow e r.2 true >>= fun b => pure (.slc b ti.size 0 r.1 none)
    | .slc b z i len (some c) => cellsOf b >>= fun q => bif Nat.beq z ti.size && Nat.ble (len + r.1) 1000000 then
        (bif Nat.ble (len + r.1) c then
          (bif Nat.beq r.1 0 then pure s else storeAt b ((i + len) * z) r.2 >>= fun _ => pure (.slc b z i (len + r.1) (some c)))
        else (match cut q.2.1 (i * z) (len * z) with
          | some old => newRow e (appR old r.2) true >>= fun b' => pure (.slc b' ti.size 0 (len + r.1) none)
          | none => fail "append: short"))
        else fail "append: size"
    | .slc b z i len none => cellsOf b >>= fun q => bif Nat.beq z ti.size && Nat.beq i 0 && q.2.2 && Nat.beq (lenR q.2.1) (len * z) && Nat.ble (len + r.1) 1000000 && Nat.beq q.1 e then
        (bif Nat.beq r.1 0 then pure s else newRow e (appR q.2.1 r.2) true >>= fun b' => del b >>= fun _ => pure (.slc b' z 0 (len + r.1) none))
        else fail "append: an inner slice"
    | _ => fail "append: what?")
  | _ => fail "append"
noncomputable def copyA (E : Env) (dt : TypeId) (d x : SV) : M SV := E.und dt >>= fun td => match td with
  | .slice e => E.info e >>= fun ti => srcCells ti.size x >>= fun r => asrt (Nat.beq (lenR r.2) (r.1 * ti.size) && Nat.blt 0 ti.size) "copy" >>= fun _ => (match d with
    | .v (.slice none 0 _) => pure (intOf 0)
    | .slc b z i len _ => bif Nat.beq z ti.size then storeAt b (i * z) (takeR r.2 (min r.1 len * z)) >>= fun _ => pure (intOf (min r.1 len)) else fail "copy"
    | _ => fail "copy: what?")
  | _ => fail "copy"
def keyV : List (SV × SV × Nat) → Option (List MapEntry)
  | [] => some []
  | (k, _, born) :: es => (match toV k, keyV es with
    | some v, some l => some ({ key := v, val := .nilIface, born } :: l)
    | _, _ => none)
/-- the bytes that cells hold -/
noncomputable def bytesA (l : List SV) : Option (List UInt8) := List.rec (motive := fun _ => Option (List UInt8)) (some [])
  (fun c _ ih => match c, ih with
    | .v (.int .u8 n), some l => bif inB n 256 then some (UInt8.ofNat n.toNat :: l) else none
    | _, _ => none) l
/-- where a key stands -/
def findE (k : SV) : List (SV × SV × Nat) → Nat → Option (Option (Nat × SV × Nat))
  | [], _ => some none
  | (k', x, born) :: es, i => match k, k' with
    | .v (.int a n), .v (.int a' m) => bif decide (a = a') then (bif eqI n m then some (some (i, x, born)) else findE k es (i + 1)) else none
    | .str a, .str b => bif a == b then some (some (i, x, born)) else findE k es (i + 1)
    | _, _ => none
noncomputable def findM (E : Env) (kt : TypeId) (k : SV) (es : List (SV × SV × Nat)) : M (Option (Nat × SV × Nat)) := E.und kt >>= fun d => match d, k with
  | .int _, .v (.int _ _) | .string, .str _ => (match findE k es 0 with
    | some r => pure r
    | none => fail "key")
  | .int _, _ | .string, _ => fail "key: kind"
  | _, _ => toM k "key" >>= fun kv => (match keyV es with
    | some l => plainM E (do Instr.checkKey true 10000 kt kv; Instr.checkKey false 10000 kt kv; Instr.findKey kt kv l) "key" >>= fun r => (match r with
      | some (i, _) => (match es[i]?, l[i]? with
        | some e, some m => bif Instr.sameBits 10000 m.key kv then pure (some (i, e.2.1, e.2.2)) else fail "key: bits"
        | _, _ => fail "key")
      | none => pure none)
    | none => fail "keys")
def setE (es : List (SV × SV × Nat)) (i : Nat) (x : SV) : List (SV × SV × Nat) := es.modify i fun e => (e.1, x, e.2.2)
def setK (es : List (SV × SV × Nat)) (i : Nat) (k : SV) : List (SV × SV × Nat) := es.modify i fun e => (k, e.2.1, e.2.2)
def setKE (es : List (SV × SV × Nat)) (i : Nat) (k x : SV) : List (SV × SV × Nat) := es.modify i fun e => (k, x, e.2.2)
inductive Nx where
  | val (x : SV)
  | enter (f : FuncId) (as : List SV)
  | round (l : Nat) (as : List SV)
  | dfr (f : SV) (as : List SV)
noncomputable def val (m : M SV) : M Nx := m >>= fun x => pure (.val x)
noncomputable def unit (m : M Unit) : M Nx := m >>= fun _ => pure (.val und)
noncomputable def enterM (E : Env) (f : FuncId) (as : List SV) : M Nx := match E.fn f with
  | none => fail "call: no function"
  | some fn => match fn.body with
    | some _ => pure (.enter f as)
    | none => bif fn.name == "internal/abi.NoEscape" && fn.origin == "" then (match as with
      | [x] => pure (.val x)
      | _ => fail "NoEscape") else bif fn.name == "internal/bytealg.MakeNoZero" && fn.origin == "" then (match as, fn.resultTypes.toList with
      | [.v (.int .i64 n)], t :: _ => E.und t >>= fun d => (match d with
        | .slice e => E.info e >>= fun ti => asrt (inB n 1000001 && Nat.beq ti.size 1) "MakeNoZero" >>= fun _ => newRow e [] true >>= fun b => pure (.val (.slc b 1 0 n.toNat none))
        | _ => fail "MakeNoZero")
      | _, _ => fail "MakeNoZero") else toMs as fn.name >>= fun vs => plainM E (callFunc f vs.toArray) fn.name >>= fun r => (match r with
      | .value x => pure (.val (ofV x))
      | _ => fail fn.name)
def recvA : SV → Option Value
  | .v y => some y
  | .ptr .. => some (.pointer (some ⟨0, 0, none⟩))
  | .agg _ => some (.agg #[])
  | .str _ => some (.string .empty)
  | _ => none
/-- the method of a name that is the dynamic type's own -/
noncomputable def methA (E : Env) (t : TypeId) (name : String) : Option FuncId := match E.ty t with
  | some ti => (match ti.methods.find? (·.name == name) with
    | some m => bif m.path.isEmpty then (match m.func, E.undO t with
      | some (f, true), some (.pointer _) => some f
      | some (_, false), some (.pointer _) => none
      | some (f, false), some _ => some f
      | _, _ => none) else none
    | none => none)
  | none => none
/-- unsafe.SliceData of a row of cells -/
noncomputable def dataA (E : Env) (x : SV) : M SV := match x with
  | .v (.slice none _ _) => pure (.v (.pointer none))
  | .slc b s i _ (some cap) => asrt (Nat.blt 0 cap) "SliceData" >>= fun _ => pure (.ptr b s i 0)
  | .slc b s i _ none => get b >>= fun o => (match o with
    | .cells e l true => E.info e >>= fun ti => asrt (Nat.blt (i * ti.size) (lenR l)) "SliceData" >>= fun _ => pure (.ptr b s i 0)
    | _ => fail "SliceData")
  | _ => fail "SliceData"
/-- unsafe.String of a row of bytes, which is not looked at any more -/
noncomputable def ustrA (E : Env) (pt : TypeId) (x n : SV) : M SV := match x, n with
  | .v (.pointer _), .v (.int .i64 n) => asrt (inB n 1) "String" >>= fun _ => pure (.str [])
  | .ptr b s i j, .v (.int .i64 n) => E.und pt >>= fun d => (match d with
    | .pointer e => E.info e >>= fun ti => get b >>= fun o => (match o with
      | .cells e' l _ => asrt (Nat.beq e e' && Nat.beq ti.size 1 && Nat.beq (i * s + j) 0 && inB n (lenR l + 1) && !inB n 1 && Nat.ble (lenR l) 1000000) "String" >>= fun _ => (match bytesA (takeR l n.toNat) with
        | some bs => del b >>= fun _ => pure (.str bs)
        | none => fail "String: bytes")
      | _ => fail "String")
    | _ => fail "String")
  | _, _ => fail "String"
noncomputable def capA (E : Env) (x : SV) (t : TypeId) : M SV := E.und t >>= fun d => match d, x with
  | .slice _, .slc b _ i _ none => pure (.cp b i)
  | .slice _, .slc _ _ _ _ (some c) => pure (.v (.int .i64 (c : Nat)))
  | .slice _, .v (.slice none _ c) => pure (.v (.int .i64 (c : Nat)))
  | .array n _, _ => pure (.v (.int .i64 (n : Nat)))
  | _, _ => fail "cap: of what?"
noncomputable def clearA (E : Env) (t : TypeId) (b z i len : Nat) : M Nx := E.und t >>= fun d => (match d with
  | .slice e => E.info e >>= fun ti => E.zero e >>= fun zr =>  asrt (Nat.blt 0 z && Nat.beq ti.size z && Nat.beq (lenR zr.cells) z && allR one1 zr.cells && Nat.ble (len * z) 1000000) "clear" >>= fun _ =>
    storeAt b (i * z) (many len zr.cells) >>= fun _ => pure (.val (.v (.tuple #[])))
  | _ => fail "clear")
noncomputable def callA (E : Env) (o : Oper) (c : Call) (as : List SV) (ρ : Operand → SV) : M Nx := match c.callee with
  | .builtin .len => (match c.argTypes.toList, as with
    | [t], [x] => val (lenS E x t)
    | _, _ => fail "len")
  | .builtin .append => (match c.argTypes.toList, as with
    | [t, u], [s, x] => val (appendA E t u s x)
    | _, _ => fail "append")
  | .builtin .copy => (match c.argTypes.toList, as with
    | t :: _, [d, x] => val (copyA E t d x)
    | _, _ => fail "copy")
  | .builtin .delete => (match c.argTypes.toList, as with
    | t :: _, [.mp b, k] => E.und t >>= fun d => (match d with
      | .map kt _ => mapOf b >>= fun r => findM E kt k r.1 >>= fun f => (match f with
        | some (i, _) => put b (.map (r.1.eraseIdx i) r.2) >>= fun _ => pure (.val (.v (.tuple #[])))
        | none => pure (.val (.v (.tuple #[]))))
      | _ => fail "delete")
    | _, _ => fail "delete")
  | .builtin .clear => (match c.argTypes.toList, as with
    | t :: _, [.mp b] => E.und t >>= fun _ => mapOf b >>= fun r => put b (.map [] r.2) >>= fun _ => pure (.val (.v (.tuple #[])))
    | t :: _, [.slc _ _ _ 0 _] => E.und t >>= fun _ => pure (.val (.v (.tuple #[])))
    | t :: _, [.v (.slice none _ _)] => E.und t >>= fun _ => pure (.val (.v (.tuple #[])))
    | t :: _, [.slc b z i len _] => clearA E t b z i len
    | _, _ => fail "clear")
  | .builtin .unsafeSliceData => (match as with
    | [x] => val (dataA E x)
    | _ => fail "SliceData")
  | .builtin .unsafeString => (match c.argTypes.toList, as with
    | [t, _], [x, n] => val (ustrA E t x n)
    | _, _ => fail "String")
  | .builtin .cap => (match c.argTypes.toList, as with
    | [t], [x] => val (capA E x t)
    | _, _ => fail "cap")
  | .builtin b => toMs as "builtin" >>= fun vs => plainM E (Go.builtin b c.argTypes o.type (c.args.map fun | .const _ => true | _ => false) vs.toArray) "builtin" >>= fun r => (match r with
    | .value x => pure (.val (ofV x))
    | _ => fail "builtin")
  | .value f => (match ρ f with
    | .fn (.func g) first cap => enterM E g (appR first (appR as cap))
    | .fn (.yield l) first cap => get l >>= fun o => (match o, cap with
      | .loop _ _ _ _ _ ps _ _ _, [] => bif Nat.beq ps.size (lenR (appR first as)) then pure (.round l (appR first as)) else fail "yield: how many?"
      | _, _ => fail "yield")
    | .fn (.method name) first _ => (match appR first as with
      | .ifc t x :: as => (match methA E t name with
        | some f => enterM E f (x :: as)
        | none => fail "method")
      | _ => fail "method")
    | _ => fail "call: what?")
  | .invoke r name => (match ρ r with
    | .ifc t x => (match methA E t name with
      | some f => enterM E f (x :: as)
      | none => fail name)
    | .v (.iface t x) => (match methA E t name with
      | some f => enterM E f (ofV x :: as)
      | none => fail name)
    | _ => fail "invoke")
noncomputable def placesOf (E : Env) (fs : List Field) : Option (List (Nat × Nat)) := List.rec (motive := fun _ => Option (List (Nat × Nat))) (some [])
  (fun f _ ih => match E.ty f.type, ih with
    | some ti, some l => some ((f.offset, ti.size) :: l)
    | _, _ => none) fs
noncomputable def ex_move (_E : Env) (ρ : Operand → SV) (x : Operand) : M Nx := pure (.val (ρ x))
noncomputable def ex_pick (_E : Env) (ρ : Operand → SV) (c : Operand) (a : Operand) (b : Operand) : M Nx := asBool (ρ c) >>= fun t => br t (pure (.val (ρ a))) (pure (.val (ρ b)))
noncomputable def ex_alloc (E : Env) (_ρ : Operand → SV) (t : TypeId) : M Nx := val (E.zero t >>= fun z => newVar E t z)
noncomputable def ex_box (E : Env) (ρ : Operand → SV) (t : TypeId) (x : Operand) : M Nx := val (newVar E t (ρ x))
noncomputable def ex_build (E : Env) (ρ : Operand → SV) (t : TypeId) (parts : Array (Nat × Operand)) : M Nx := val (E.zero t >>= fun z => E.und t >>= fun d => match d with
    | .struct fs => (match placesOf E fs.toList with
      | some pl => fillS (fun i => getR pl i) z.cells (mapR (fun q => (q.1, ρ q.2)) parts.toList) >>= fun l => pure (.agg l)
      | none => fail "build")
    | .array _ e => E.info e >>= fun ti => fillS (fun i => some (i * ti.size, ti.size)) z.cells (mapR (fun q => (q.1, ρ q.2)) parts.toList) >>= fun l => pure (.agg l)
    | _ => fail "build")
noncomputable def ex_buildSlice (E : Env) (ρ : Operand → SV) (t : TypeId) (len : Nat) (parts : Array (Nat × Operand)) : M Nx := val (E.und t >>= fun d => match d with
    | .slice e => E.info e >>= fun ti => E.zero e >>= fun z => asrt (Nat.blt 0 ti.size && Nat.beq (lenR z.cells) ti.size && Nat.ble (len * ti.size) 1000000) "buildSlice" >>= fun _ =>
      fillS (fun i => some (i * ti.size, ti.size)) (many len z.cells) (mapR (fun q => (q.1, ρ q.2)) parts.toList) >>= fun l => newRow e l false >>= fun b => pure (.slc b ti.size 0 len (some len))
    | _ => fail "buildSlice")
noncomputable def ex_load (E : Env) (ρ : Operand → SV) (t : TypeId) (a : Operand) : M Nx := val (loadVar E t (ρ a))
noncomputable def ex_store (E : Env) (ρ : Operand → SV) (t : TypeId) (a : Operand) (x : Operand) : M Nx := unit (storeVar E t (ρ a) (ρ x))
noncomputable def ex_nilCheck (_E : Env) (ρ : Operand → SV) (x : Operand) : M Nx := (match ρ x with
    | .ptr b s i j => pure (.val (.ptr b s i j))
    | .fn (.func f) a c => pure (.val (.fn (.func f) a c))
    | .ifc t x => pure (.val (.ifc t x))
    | _ => fail "nil")
/-- is a room nothing? (op: is it?, is it not?) -/
noncomputable def cpA (E : Env) (op : BinOp) (t : TypeId) (b i : Nat) (y : SV) : M SV := E.und t >>= fun d => match d, op, y with
  | .int _, .eql, .v (.int .i64 n) => get b >>= fun o => (match o with
    | .cells e l true => E.info e >>= fun ti => asrt (inB n 1 && Nat.blt (i * ti.size) (lenR l)) "cap" >>= fun _ => pure (.v (.bool false))
    | _ => fail "cap")
  | .int _, .neq, .v (.int .i64 n) => get b >>= fun o => (match o with
    | .cells e l true => E.info e >>= fun ti => asrt (inB n 1 && Nat.blt (i * ti.size) (lenR l)) "cap" >>= fun _ => pure (.v (.bool true))
    | _ => fail "cap")
  | _, _, _ => fail "cap"
noncomputable def ex_binOp (E : Env) (ρ : Operand → SV) (op : BinOp) (t : TypeId) (x : Operand) (y : Operand) : M Nx := val (match ρ x with
  | .cp b i => cpA E op t b i (ρ y)
  | z => binA E op t x y z (ρ y))
noncomputable def ex_unOp (E : Env) (ρ : Operand → SV) (op : UnOp) (x : Operand) : M Nx := (match op, ρ x with
    | .not, .v (.bool b) => pure (.val (.v (.bool !b)))
    | op, x => toM x "unop" >>= fun v => plainM E (Op.unary op v) "unop" >>= fun r => pure (.val (ofV r)))
noncomputable def ex_convert (E : Env) (ρ : Operand → SV) (src : TypeId) (dst : TypeId) (x : Operand) : M Nx := val (E.und src >>= fun d1 => E.und dst >>= fun d2 => match d1, d2, ρ x with
    | .int _, .int k, .v (.int _ n) => pure (.v (.int k (wrapA k n)))
    | .string, .string, .str s => pure (.str s)
    | .string, .slice e, .str s => E.und e >>= fun d => (match d with
      | .int .u8 => E.info e >>= fun ti => bif Nat.beq ti.size 1 && Nat.ble (lenR s) 1000000 then newRow e (mapR (fun b => .v (.int .u8 b.toNat)) s) true >>= fun b => pure (.slc b 1 0 (lenR s) none) else fail "bytes"
      | _ => fail "runes")
    | .slice _, .string, .str _ => fail "convert"
    | .slice e, .string, x => E.und e >>= fun d => (match d with
      | .int .u8 => srcCells 1 x >>= fun r => (match bytesA r.2 with
        | some l => pure (.str l)
        | none => fail "byte")
      | _ => fail "runes")
    | .slice e, .slice _, .slc b s i len cap => bif Nat.beq src dst then (E.und e >>= fun d => (match d with
      | .int .u8 => cellsOf b >>= fun r => bif r.2.2 || !Nat.beq r.1 e then fail "convert: loose" else put b (.cells r.1 r.2.1 r.2.2) >>= fun _ => pure (.slc b s i len cap)
      | _ => fail "convert: slices")) else fail "convert: slices"
    | .pointer t, .unsafePointer, .ptr b s i j => get b >>= fun o => (match o with
      | .cells _e l false => E.info t >>= fun ti => asrt (Nat.blt 0 ti.size && Nat.blt (i * s + j) (lenR l)) "convert: pointer" >>= fun _ => pure (.ptr b s i j)
      | _ => fail "convert: pointer")
    | .unsafePointer, .pointer u, .ptr b s i j => get b >>= fun o => (match o with
      | .cells e l false => E.info u >>= fun _ti => E.info e >>= fun te => asrt (liesAt E.P E.P.depth e (lenR l / te.size) (i * s + j) u 1) "convert: pointer" >>= fun _ => pure (.ptr b s i j)
      | _ => fail "convert: pointer")
    | _, _, .v (.int k n) => plainM E (Go.convert src dst (.int k n)) "convert" >>= fun r => pure (ofV r)
    | _, _, _ => fail "convert")
noncomputable def ex_makeInterface (E : Env) (ρ : Operand → SV) (t : TypeId) (x : Operand) : M Nx := E.und t >>= fun d => (match d with
    | .interface _ => fail "interface"
    | _ => pure (.val (.ifc t (ρ x))))
noncomputable def ex_makeFunc (_E : Env) (ρ : Operand → SV) (f : Fn) (a : Array Operand) (c : Array Operand) : M Nx := (match f with
    | .yield _ => fail "makeFunc"
    | f => pure (.val (.fn f (mapR ρ a.toList) (mapR ρ c.toList))))
noncomputable def ex_makeMap (E : Env) (ρ : Operand → SV) (t : TypeId) (r : Option Operand) : M Nx := E.und t >>= fun d => (match d, r.map ρ with
    | .map _ _, none | .map _ _, some (.v (.int _ _)) => new (.map [] 0) >>= fun b => pure (.val (.mp b))
    | _, _ => fail "makeMap")
noncomputable def ex_makeSlice (E : Env) (ρ : Operand → SV) (t : TypeId) (l : Operand) (c : Operand) : M Nx := val (E.und t >>= fun d => match d with
    | .slice e => asInt (ρ l) >>= fun n => asInt (ρ c) >>= fun m => E.info e >>= fun ti => E.zero e >>= fun z =>
      asrt (inB m.2 1000001 && inB n.2 (m.2.toNat + 1) && Nat.ble ti.bytes 10000 && Nat.blt 0 ti.size && Nat.beq (lenR z.cells) ti.size) "makeSlice" >>= fun _ =>
      newRow e (many m.2.toNat z.cells) false >>= fun b => pure (.slc b ti.size 0 n.2.toNat (some m.2.toNat))
    | _ => fail "makeSlice")
noncomputable def ex_slice (E : Env) (ρ : Operand → SV) (t : TypeId) (x : Operand) (lo : Option Operand) (hi : Option Operand) (mx : Option Operand) : M Nx := val (sliceA E t (ρ x) (lo.map ρ) (hi.map ρ) (mx.map ρ))
noncomputable def ex_fieldAddr (E : Env) (ρ : Operand → SV) (s : TypeId) (x : Operand) (f : Nat) : M Nx := val (fieldAt E s (ρ x) f)
noncomputable def ex_field (E : Env) (ρ : Operand → SV) (t : TypeId) (x : Operand) (f : Nat) : M Nx := val (E.und t >>= fun d => match d, ρ x with
    | .struct fs, .agg cs => (match fs[f]? with
      | some fd => part E fd.type cs fd.offset
      | none => fail "field")
    | _, _ => fail "field")
noncomputable def ex_indexAddr (E : Env) (ρ : Operand → SV) (t : TypeId) (x : Operand) (ix : Operand) : M Nx := val (indexAt E t (ρ x) (ρ ix))
noncomputable def ex_index (E : Env) (ρ : Operand → SV) (t : TypeId) (x : Operand) (ix : Operand) : M Nx := val (indexS E t (ρ x) (ρ ix))
noncomputable def ex_lookup (E : Env) (ρ : Operand → SV) (t : TypeId) (m : Operand) (k : Operand) (ok : Bool) : M Nx := val (E.und t >>= fun d => match d with
    | .map kt e => (match ρ m with
      | .v (.map none) => E.und kt >>= fun kd => (match kd with
        | .int _ | .string => E.zero e >>= fun z => pure (bif ok then .tup [z, .v (.bool false)] else z)
        | _ => fail "lookup: nil")
      | .mp b => mapOf b >>= fun r => findM E kt (ρ k) r.1 >>= fun f => (match f with
        | some (_, x, _) => pure (bif ok then .tup [x, .v (.bool true)] else x)
        | none => E.zero e >>= fun z => pure (bif ok then .tup [z, .v (.bool false)] else z))
      | _ => fail "lookup")
    | _ => fail "lookup")
noncomputable def ex_mapUpdate (E : Env) (ρ : Operand → SV) (t : TypeId) (m : Operand) (k : Operand) (x : Operand) : M Nx := E.und t >>= fun d => (match d, ρ m with
    | .map kt _, .mp b => mapOf b >>= fun r => findM E kt (ρ k) r.1 >>= fun f => (match f with
      | some (i, _) => put b (.map (setKE r.1 i (ρ k) (ρ x)) r.2) >>= fun _ => pure (.val und)
      | none => put b (.map (appR r.1 [(ρ k, ρ x, r.2)]) (r.2 + 1)) >>= fun _ => pure (.val und))
    | _, _ => fail "mapUpdate")
noncomputable def ex_mapEntry (E : Env) (ρ : Operand → SV) (t : TypeId) (m : Operand) (k : Operand) : M Nx := val (E.und t >>= fun d => match d, ρ m with
    | .map kt e, .mp b => mapOf b >>= fun r => findM E kt (ρ k) r.1 >>= fun f => (match f with
      | some (i, x, born) => put b (.map (setK r.1 i (ρ k)) r.2) >>= fun _ => pure (.tup [x, .v (.int .i64 born)])
      | none => E.zero e >>= fun z => put b (.map (appR r.1 [(ρ k, z, r.2)]) (r.2 + 1)) >>= fun _ => pure (.tup [z, .v (.int .i64 r.2)]))
    | _, _ => fail "mapEntry")
noncomputable def ex_entryStore (_E : Env) (ρ : Operand → SV) (m : Operand) (s : Operand) (x : Operand) : M Nx := (match ρ m, ρ s with
    | .mp b, .v (.int _ n) => mapOf b >>= fun r => (match r.1.findIdx? (fun e => (e.2.2 : Int) == n) with
      | some i => put b (.map (setE r.1 i (ρ x)) r.2) >>= fun _ => pure (.val und)
      | none => fail "entryStore")
    | _, _ => fail "entryStore")
noncomputable def ex_range (E : Env) (ρ : Operand → SV) (t : TypeId) (x : Operand) : M Nx := val (E.und t >>= fun d => match d, ρ x with
    | .string, .str s => new (.siter s 0) >>= fun b => pure (.ptr b 1 0 0)
    | .map _ _, .v (.map none) => new (.miter none 0 [] 0) >>= fun b => pure (.ptr b 1 0 0)
    | .map _ _, .mp m => mapOf m >>= fun r => new (.miter (some m) r.2 [] r.2) >>= fun b => pure (.ptr b 1 0 0)
    | _, _ => fail "range")
noncomputable def ex_next (_E : Env) (ρ : Operand → SV) (it : Operand) (isS : Bool) : M Nx := val (match ρ it with
    | .ptr b _ 0 0 => get b >>= fun o => (match o, isS with
      | .siter s pos, true => bif Nat.blt pos (lenR s) then
          (let r := Utf8.decode ⟨s.toArray⟩ pos
           put b (.siter s (pos + r.2)) >>= fun _ => pure (.tup [.v (.bool true), .v (.int .i64 pos), .v (.int .i32 r.1)]))
        else pure (.tup [.v (.bool false)])
      | .miter none _ _ _, false => pure (.tup [.v (.bool false)])
      | .miter (some m) since seen last, false => mapOf m >>= fun r => (match r.1.filter fun e => !seen.contains e.2.2 with
        | [] => bif seen.isEmpty || r.1.isEmpty || !(r.1.all fun e => Nat.ble last e.2.2) then pure (.tup [.v (.bool false)]) else fail "next: gone"
        | [e] => bif Nat.blt e.2.2 since && (seen.isEmpty || !(r.1.all fun e => Nat.ble last e.2.2)) then put b (.miter (some m) since (seen ++ [e.2.2]) r.2) >>= fun _ => pure (.tup [.v (.bool true), e.1, e.2.1])
          else fail "next: new"
        | _ => fail "next: many")
      | _, _ => fail "next")
    | _ => fail "next")
noncomputable def ex_extract (_E : Env) (ρ : Operand → SV) (x : Operand) (i : Nat) : M Nx := (match ρ x with
    | .tup l => (match getR l i with
      | some y => pure (.val y)
      | none => fail "extract")
    | _ => fail "extract")
noncomputable def ex_typeAssert (E : Env) (ρ : Operand → SV) (x : Operand) (t : TypeId) (ok : Bool) : M Nx := val (E.und t >>= fun d => match d with
    | .interface _ => fail "typeAssert: interface"
    | _ => (match ρ x with
      | .ifc u y => bif Nat.beq u t then pure (bif ok then .tup [y, .v (.bool true)] else y) else (bif ok then E.zero t >>= fun z => pure (.tup [z, .v (.bool false)]) else fail "typeAssert")
      | .v .nilIface => bif ok then E.zero t >>= fun z => pure (.tup [z, .v (.bool false)]) else fail "typeAssert"
      | _ => fail "typeAssert"))
noncomputable def ex_call (E : Env) (ρ : Operand → SV) (o : Oper) (c : Call) : M Nx := callA E o c (mapR ρ c.args.toList) ρ
noncomputable def ex_defer (_E : Env) (ρ : Operand → SV) (c : Call) : M Nx := (match c.callee with
    | .value f => (match ρ f with
      | .fn (.func g) a b => pure (.dfr (.fn (.func g) a b) (mapR ρ c.args.toList))
      | _ => fail "defer")
    | _ => fail "defer")
/-- an operation, spelt out -/
noncomputable def execM (E : Env) (ρ : Operand → SV) (o : Oper) : M Nx := match o.op with
  | .move x => ex_move E ρ x
  | .assign x => ex_move E ρ x
  | .pick c a b => ex_pick E ρ c a b
  | .alloc t => ex_alloc E ρ t
  | .box t x => ex_box E ρ t x
  | .build t parts => ex_build E ρ t parts
  | .buildSlice t len parts => ex_buildSlice E ρ t len parts
  | .load t a => ex_load E ρ t a
  | .store t a x => ex_store E ρ t a x
  | .nilCheck x => ex_nilCheck E ρ x
  | .binOp op t x y _ => ex_binOp E ρ op t x y
  | .unOp op _ x => ex_unOp E ρ op x
  | .convert src dst x => ex_convert E ρ src dst x
  | .makeInterface t x => ex_makeInterface E ρ t x
  | .makeFunc f a c => ex_makeFunc E ρ f a c
  | .makeMap t r => ex_makeMap E ρ t r
  | .makeSlice t l c => ex_makeSlice E ρ t l c
  | .slice t x lo hi mx => ex_slice E ρ t x lo hi mx
  | .fieldAddr s x f => ex_fieldAddr E ρ s x f
  | .field t x f => ex_field E ρ t x f
  | .indexAddr t x ix => ex_indexAddr E ρ t x ix
  | .index t x ix => ex_index E ρ t x ix
  | .lookup t m k ok => ex_lookup E ρ t m k ok
  | .mapUpdate t m k x => ex_mapUpdate E ρ t m k x
  | .insert t m k x => ex_mapUpdate E ρ t m k x
  | .mapEntry t m k => ex_mapEntry E ρ t m k
  | .entryStore _ m s x => ex_entryStore E ρ m s x
  | .range t x => ex_range E ρ t x
  | .next it isS => ex_next E ρ it isS
  | .extract x i => ex_extract E ρ x i
  | .typeAssert x _ t ok => ex_typeAssert E ρ x t ok
  | .call c => ex_call E ρ o c
  | .defer c => ex_defer E ρ c
  | _ => fail "op"
noncomputable def exec (E : Env) (ρ : Operand → SV) (o : Oper) : M Nx := Op.rec (motive := fun _ => Env → (Operand → SV) → Oper → M Nx)
  (fun x E ρ _ => ex_move E ρ x)
  (fun x E ρ _ => ex_move E ρ x)
  (fun c a b E ρ _ => ex_pick E ρ c a b)
  (fun t E ρ _ => ex_alloc E ρ t)
  (fun t x E ρ _ => ex_box E ρ t x)
  (fun t parts E ρ _ => ex_build E ρ t parts)
  (fun t len parts E ρ _ => ex_buildSlice E ρ t len parts)
  (fun t m k x E ρ _ => ex_mapUpdate E ρ t m k x)
  (fun t a E ρ _ => ex_load E ρ t a)
  (fun t a x E ρ _ => ex_store E ρ t a x)
  (fun _ _ _ _ => fail "op")
  (fun _ _ _ _ => fail "op")
  (fun x E ρ _ => ex_nilCheck E ρ x)
  (fun op t x y _ E ρ _ => ex_binOp E ρ op t x y)
  (fun op _ x E ρ _ => ex_unOp E ρ op x)
  (fun src dst x E ρ _ => ex_convert E ρ src dst x)
  (fun _ _ _ _ _ => fail "op")
  (fun t x E ρ _ => ex_makeInterface E ρ t x)
  (fun f a c E ρ _ => ex_makeFunc E ρ f a c)
  (fun t r E ρ _ => ex_makeMap E ρ t r)
  (fun _ _ _ _ _ => fail "op")
  (fun t l c E ρ _ => ex_makeSlice E ρ t l c)
  (fun t x lo hi mx E ρ _ => ex_slice E ρ t x lo hi mx)
  (fun s x f E ρ _ => ex_fieldAddr E ρ s x f)
  (fun t x f E ρ _ => ex_field E ρ t x f)
  (fun t x ix E ρ _ => ex_indexAddr E ρ t x ix)
  (fun t x ix E ρ _ => ex_index E ρ t x ix)
  (fun t m k ok E ρ _ => ex_lookup E ρ t m k ok)
  (fun t m k x E ρ _ => ex_mapUpdate E ρ t m k x)
  (fun t m k E ρ _ => ex_mapEntry E ρ t m k)
  (fun _ m s x E ρ _ => ex_entryStore E ρ m s x)
  (fun t x E ρ _ => ex_range E ρ t x)
  (fun it isS E ρ _ => ex_next E ρ it isS)
  (fun _ _ _ _ => fail "op")
  (fun x _ t ok E ρ _ => ex_typeAssert E ρ x t ok)
  (fun x i E ρ _ => ex_extract E ρ x i)
  (fun c E ρ o => ex_call E ρ o c)
  (fun _ _ _ _ => fail "op")
  (fun c E ρ _ => ex_defer E ρ c)
  (fun _ _ _ _ => fail "op")
  (fun _ _ _ _ _ => fail "op")
  (fun _ _ _ _ _ _ => fail "op")
  (fun _ _ _ _ _ => fail "op")
  o.op E ρ o
theorem exec_eq (E : Env) (ρ : Operand → SV) (o : Oper) : exec E ρ o = execM E ρ o := by
  unfold exec execM
  generalize o.op = q
  cases q <;> rfl
noncomputable def execA (E : Env) (tm : T SV) (o : Oper) : M Nx := exec E (evalO E tm) o
end Go.Ev
/- What the abstract machine's programs come to: their ends, one by one; lists of cells. -/
namespace Go.Ev
/-! ### Ends -/
structure EnvOK (E : Env) (P : Program) : Prop where
  prog : E.P = P
  ty : ∀ t i, E.ty t = some i → P.info? t = some i
  fn : ∀ f fn, E.fn f = some fn → P.funcs[f]? = some fn
  named : ∀ f fn, E.fn f = some fn → (fn.name == "runtime.NumGoroutine") = false
section
variable {E : Env} {s s' : HS} {p : FP}
theorem ok_info {t : TypeId} {i : TypeInfo} : Ok (E.info t) s i s' p ↔ E.ty t = some i ∧ s = s' ∧ p = .nil := by
  unfold Env.info
  cases h : E.ty t with
  | none => simp [ok_fail]
  | some j => simp [ok_pure]
theorem ok_und {t : TypeId} {d : TypeDesc} : Ok (E.und t) s d s' p ↔ E.undO t = some d ∧ s = s' ∧ p = .nil := by
  unfold Env.und
  cases h : E.undO t with
  | none => simp [ok_fail]
  | some j => simp [ok_pure]
theorem ok_zero {t : TypeId} {x : SV} : Ok (E.zero t) s x s' p ↔ (∃ i v, E.ty t = some i ∧ i.zero = some v ∧ x = ofV v) ∧ s = s' ∧ p = .nil := by
  unfold Env.zero
  cases h : E.ty t with
  | none => simp [ok_fail]
  | some i =>
    cases h2 : i.zero with
    | none => simp [ok_fail, h2]
    | some v =>
      simp only [h2, ok_pure]
      constructor
      · rintro ⟨rfl, h3, h4⟩; exact ⟨⟨i, v, rfl, h2, rfl⟩, h3, h4⟩
      · rintro ⟨⟨i', v', e, e2, rfl⟩, h3, h4⟩
        injection e with e; subst e
        rw [h2] at e2; injection e2 with e2; subst e2
        exact ⟨rfl, h3, h4⟩
theorem ok_cells {b : Nat} {r : TypeId × List SV × Bool} : Ok (cellsOf b) s r s' p ↔ s.h.get b = some (.cells r.1 r.2.1 r.2.2) ∧ s = s' ∧ p = .app (.r b) .nil := by
  unfold cellsOf
  rw [ok_bind]
  constructor
  · rintro ⟨o, s1, p1, p2, h1, h2, rfl⟩
    obtain ⟨hg, rfl, rfl⟩ := ok_get.1 h1
    cases o with
    | cells e l z =>
      obtain ⟨rfl, rfl, rfl⟩ := ok_pure.1 h2
      exact ⟨hg, rfl, rfl⟩
    | _ => exact (ok_fail h2).elim
  · rintro ⟨h1, rfl, rfl⟩
    exact ⟨_, s, _, _, ok_get.2 ⟨h1, rfl, rfl⟩, ok_pure.2 ⟨rfl, rfl, rfl⟩, rfl⟩
theorem ok_map {b : Nat} {r : List (SV × SV × Nat) × Nat} : Ok (mapOf b) s r s' p ↔ s.h.get b = some (.map r.1 r.2) ∧ s = s' ∧ p = .app (.r b) .nil := by
  unfold mapOf
  rw [ok_bind]
  constructor
  · rintro ⟨o, s1, p1, p2, h1, h2, rfl⟩
    obtain ⟨hg, rfl, rfl⟩ := ok_get.1 h1
    cases o with
    | map es c =>
      obtain ⟨rfl, rfl, rfl⟩ := ok_pure.1 h2
      exact ⟨hg, rfl, rfl⟩
    | _ => exact (ok_fail h2).elim
  · rintro ⟨h1, rfl, rfl⟩
    exact ⟨_, s, _, _, ok_get.2 ⟨h1, rfl, rfl⟩, ok_pure.2 ⟨rfl, rfl, rfl⟩, rfl⟩
theorem ok_asInt {x : SV} {r : IntKind × Int} : Ok (asInt x) s r s' p ↔ x = .v (.int r.1 r.2) ∧ s = s' ∧ p = .nil := by
  unfold asInt
  split
  · rw [ok_pure]
    constructor
    · rintro ⟨rfl, h⟩; exact ⟨rfl, h⟩
    · rintro ⟨h1, h⟩
      injection h1 with h1; injection h1 with h1 h2
      exact ⟨by rw [h1, h2], h⟩
  · rename_i h
    constructor
    · exact fun h => (ok_fail h).elim
    · rintro ⟨h1, _⟩; exact (h _ _ h1).elim
theorem ok_asBool {x : SV} {r : Bool} : Ok (asBool x) s r s' p ↔ x = .v (.bool r) ∧ s = s' ∧ p = .nil := by
  unfold asBool
  split
  · rw [ok_pure]
    constructor
    · rintro ⟨rfl, h⟩; exact ⟨rfl, h⟩
    · rintro ⟨h1, h⟩
      injection h1 with h1; injection h1 with h1
      exact ⟨h1, h⟩
  · rename_i h
    constructor
    · exact fun h => (ok_fail h).elim
    · rintro ⟨h1, _⟩; exact (h _ h1).elim
theorem ok_plainM {α : Type} {S : Sem α} {w : String} {a : α} : Ok (plainM E S w) s a s' p ↔ purely E.P S = some a ∧ s = s' ∧ p = .nil := by
  unfold plainM
  cases h : purely E.P S with
  | none => simp [ok_fail]
  | some v => simp [ok_pure]
theorem ok_toM {x : SV} {w : String} {a : Value} : Ok (toM x w) s a s' p ↔ toV x = some a ∧ s = s' ∧ p = .nil := by
  unfold toM
  cases h : toV x with
  | none => simp [ok_fail]
  | some v => simp [ok_pure]
theorem ok_toMs {x : List SV} {w : String} {a : List Value} : Ok (toMs x w) s a s' p ↔ toVs x = some a ∧ s = s' ∧ p = .nil := by
  unfold toMs
  cases h : toVs x with
  | none => simp [ok_fail]
  | some v => simp [ok_pure]
theorem ok_bif {α : Type} {c : Bool} {x y : M α} {a : α} : Ok (bif c then x else y) s a s' p ↔ (c = true ∧ Ok x s a s' p) ∨ (c = false ∧ Ok y s a s' p) := by
  cases c <;> simp
end
/-! ### Values that name no block -/
theorem purely_run {α : Type} {P : Program} (S : Sem α) : ∀ {a : α}, purely P S = some a → ∀ w : World, S.run P w = .ok a w := by
  induction S with
  | pure a => intro b h w; simp [purely] at h; subst h; rfl
  | program k ih => intro b h w; exact ih P h w
  | mark m k ih => intro b h w; exact ih h w
  | _ => intro b h; simp [purely] at h
mutual
theorem toV_den (ν : Nu) : ∀ (x : SV) {v : Value}, toV x = some v → den ν x = v
  | .v y, v, h => by simp [toV] at h; simp [den, h]
  | .str l, v, h => by simp [toV] at h; simp [den, h]
  | .ifc t y, v, h => by
    simp only [toV] at h
    cases hy : toV y with
    | none => simp [hy] at h
    | some z => simp [hy] at h; subst h; simp [den, toV_den ν y hy]
  | .agg l, v, h => by
    simp only [toV] at h
    cases hy : toVs l with
    | none => simp [hy] at h
    | some z => simp [hy] at h; subst h; simp [den, toVs_den ν l hy]
  | .tup l, v, h => by
    simp only [toV] at h
    cases hy : toVs l with
    | none => simp [hy] at h
    | some z => simp [hy] at h; subst h; simp [den, toVs_den ν l hy]
  | .ptr b s i j, v, h => by simp [toV] at h
  | .slc b s i len cap, v, h => by simp [toV] at h
  | .mp b, v, h => by simp [toV] at h
  | .fn f a c, v, h => by simp [toV] at h
theorem toVs_den (ν : Nu) : ∀ (l : List SV) {vs : List Value}, toVs l = some vs → denL ν l = vs
  | [], vs, h => by simp [toVs] at h; simp [denL, h]
  | x :: xs, vs, h => by
    simp only [toVs] at h
    cases hx : toV x with
    | none => simp [hx] at h
    | some y =>
      cases hs : toVs xs with
      | none => simp [hx, hs] at h
      | some ys =>
        simp [hx, hs] at h; subst h
        simp [denL, toV_den ν x hx, toVs_den ν xs hs]
end
theorem ofV1_den (ν : Nu) (v : Value) : den ν (ofV1 v) = v := by cases v <;> simp [ofV1, den]
theorem ofV1_val (V : Nat → Prop) (v : Value) : Val V (ofV1 v) := by cases v <;> simp [ofV1, Val]
theorem ofV1s_den (ν : Nu) (l : List Value) : denL ν (l.map ofV1) = l := by
  rw [denL_eq, List.map_map]
  conv => rhs; rw [← List.map_id l]
  exact List.map_congr_left fun v _ => ofV1_den ν v
theorem ofV1s_val (V : Nat → Prop) (l : List Value) : ValL V (l.map ofV1) := by
  rw [valL_iff]
  intro x hx
  obtain ⟨v, _, rfl⟩ := List.mem_map.1 hx
  exact ofV1_val V v
theorem ofV_den (ν : Nu) (v : Value) : den ν (ofV v) = v := by
  cases v with
  | agg cs => simp only [ofV, den, ofV1s_den]
  | tuple cs => simp only [ofV, den, ofV1s_den]
  | iface t x => cases x <;> simp [ofV, den]
  | _ => simp [ofV, den]
theorem ofV_val (V : Nat → Prop) (v : Value) : Val V (ofV v) := by
  cases v with
  | agg cs => simp only [ofV, Val, ofV1s_val]
  | tuple cs => simp only [ofV, Val, ofV1s_val]
  | iface t x => cases x <;> simp [ofV, Val]
  | _ => simp [ofV, Val]
theorem und_den (ν : Nu) : den ν und = undef := by simp [und, den]
theorem und_val (V : Nat → Prop) : Val V und := by simp [und, Val]
/-! ### Cells -/
theorem denL_append (ν : Nu) (a b : List SV) : denL ν (a ++ b) = denL ν a ++ denL ν b := by simp [denL_eq]
theorem denL_length (ν : Nu) (a : List SV) : (denL ν a).length = a.length := by simp [denL_eq]
theorem denL_get (ν : Nu) (a : List SV) (i : Nat) : (denL ν a)[i]? = (a[i]?).map (den ν) := by simp [denL_eq]
theorem cells_den (ν : Nu) (x : SV) (h : ∀ l, x ≠ .v (.agg l)) : (den ν x).cells.toList = denL ν x.cells := by
  cases x with
  | v y =>
    cases y with
    | agg l => exact (h l rfl).elim
    | _ => simp [SV.cells, den, Value.cells, denL]
  | agg l => simp [SV.cells, den, Value.cells]
  | _ => simp [SV.cells, den, Value.cells, denL]
theorem cells_den' (ν : Nu) (x : SV) : (den ν x).cells.toList = denL ν x.cells := by
  cases x with
  | v y =>
    cases y with
    | agg l =>
      simp only [SV.cells, den, Value.cells]
      rw [denL_eq, List.map_map]
      conv => lhs; rw [← List.map_id l.toList]
      exact List.map_congr_left fun v _ => by simp [den]
    | _ => simp [SV.cells, den, Value.cells, denL]
  | agg l => simp [SV.cells, den, Value.cells]
  | _ => simp [SV.cells, den, Value.cells, denL]
theorem cells_val {V : Nat → Prop} {x : SV} (h : Val V x) : ValL V x.cells := by
  cases x with
  | v y =>
    cases y with
    | agg l =>
      simp only [SV.cells]
      rw [valL_iff]
      intro x hx
      obtain ⟨v, _, rfl⟩ := List.mem_map.1 hx
      simp [Val]
    | _ => simp [SV.cells, ValL, Val]
  | agg l => simpa [SV.cells, Val] using h
  | _ => simp [SV.cells, ValL]; exact h
theorem one1_den (ν : Nu) {x : SV} (h : one1 x = true) : one (den ν x) := by
  unfold one
  cases x with
  | v y => cases y <;> simp_all [one1, den, Value.oneCell']
  | agg l => simp [one1] at h
  | tup l => simp [one1] at h
  | _ => simp [den, Value.oneCell']
theorem cut_some {l x : List SV} {k n : Nat} (h : cut l k n = some x) : x = (l.drop k).take n ∧ x.length = n := by
  unfold cut at h
  rw [takeR_eq, dropR_eq, lenR_eq] at h
  cases hb : Nat.beq ((l.drop k).take n).length n with
  | false => rw [hb] at h; cases h
  | true =>
    simp only [hb, cond_true, Option.some.injEq] at h
    subst h
    exact ⟨rfl, by simpa using hb⟩
theorem setL_eq (l : List SV) (k : Nat) (xs : List SV) : setL l k xs = l.take k ++ (xs ++ l.drop (k + xs.length)) := by
  unfold setL; rw [appR_eq, appR_eq, takeR_eq, dropR_eq, lenR_eq]
theorem val_sub {V : Nat → Prop} {l : List SV} (h : ValL V l) {l2 : List SV} (hs : ∀ x ∈ l2, x ∈ l) : ValL V l2 := by
  rw [valL_iff] at *
  exact fun x hx => h x (hs x hx)
theorem beq_true {a b : Nat} (h : Nat.beq a b = true) : a = b := by simpa using h
theorem ble_true {a b : Nat} (h : Nat.ble a b = true) : a ≤ b := by simpa using h
theorem blt_true {a b : Nat} (h : Nat.blt a b = true) : a < b := by
  have : Nat.ble (a + 1) b = true := h
  exact ble_true this
end Go.Ev
