/- The abstract machine, text 5 of 7: calls are evaluated once, and hold in every world. -/
import Derived.Test.YtongfkckenahnaaGreatDoorEva
import Derived.Test.YtongfkckenahnaaGreatDoorEvd
import Derived.CallsIn
import Derived.RangeFuncIn
import Derived.RangeFuncRecord
import Derived.OrdersIn
/- The abstract machine: the control of an activation. -/
namespace Go.Ev
inductive AExit where
  | normal
  | exit (id : Nat)
  | goto (l : Nat)
  | ret
/-- a deferred call, or the mark of a loop over a function -/
inductive DfE where
  | call (g : FuncId) (cap as : List SV)
  | mark (d : Nat)
structure A where
  tm : T SV
  n : Nat
  df : List DfE
noncomputable def A.put (a : A) (o : Oper) (x : SV) : A := A.rec (motive := fun _ => A) (fun tm n df => Option.rec (motive := fun _ => A) ⟨tm, n, df⟩ (fun d => bif Nat.blt d n then ⟨tm.upd 20 d (some x), n, df⟩ else ⟨tm, n, df⟩) o.dst) a
/-- an operation that has run: its place, the numbers that it gave out, the blocks that it read and wrote, its kind, the temporaries that it names, the one that it fills -/
structure OpR where
  i : Nat
  c0 : Nat
  c1 : Nat
  rd : List Nat
  wr : List Nat
  k : Nat
  ns : List Nat
  ds : Option Nat
  again : HS → Bool
def opK : Op → Nat
  | .lookup _ _ _ false => 1
  | .mapEntry .. => 2
  | _ => 0
noncomputable def memR (l : List Nat) (x : Nat) : Bool := List.rec (motive := fun _ => Bool) false (fun h _ ih => Bool.rec ih true (Nat.beq h x)) l
noncomputable def addN (c0 c1 x : Nat) (l : List Nat) : List Nat := bif (Nat.blt x c0 || Nat.ble c1 x) && !memR l x then x :: l else l
noncomputable def FP.rds (c0 c1 : Nat) (p : FP) : List Nat → List Nat := FP.rec (motive := fun _ => List Nat → List Nat) (fun l => l) (fun b l => addN c0 c1 b l) (fun _ l => l) (fun _ _ f g l => g (f l)) p
noncomputable def FP.wrs (c0 c1 : Nat) (p : FP) : List Nat → List Nat := FP.rec (motive := fun _ => List Nat → List Nat) (fun l => l) (fun _ l => l) (fun b l => addN c0 c1 b l) (fun _ _ f g l => g (f l)) p
def FP.ofL (f : Nat → FP) : List Nat → FP
  | [] => .nil
  | x :: l => .app (f x) (FP.ofL f l)
noncomputable def stp (xs ys : List Nat) : Bool := allR (fun x => !memR ys x) xs
noncomputable def out (c0 c1 : Nat) (xs : List Nat) : Bool := allR (fun x => Nat.blt x c0 || Nat.ble c1 x) xs
noncomputable def freeT (d : Option Nat) (l : List Nat) : Bool := match d with
  | none => true
  | some d => !memR l d
/-- neither touches what the other writes -/
noncomputable def near (a b : OpR) : Bool := stp a.wr b.wr && stp a.wr b.rd && stp b.wr a.rd && out a.c0 a.c1 b.rd && out a.c0 a.c1 b.wr && out b.c0 b.c1 a.rd && out b.c0 b.c1 a.wr
noncomputable def nilR (l : List Nat) : Bool := List.rec (motive := fun _ => Bool) true (fun _ _ _ => false) l
/-- neither writes, nor makes anything -/
noncomputable def quiet (a b : OpR) : Bool := nilR a.wr && (nilR b.wr && (Nat.beq a.c0 a.c1 && Nat.beq b.c0 b.c1))
noncomputable def bitR (n i : Nat) : Bool := Nat.beq (Nat.land (Nat.shiftRight n i) 1) 1
/-- two that have run stand apart: in either order they do the same; or the elder is a look-up that yields the same behind the younger, too -/
noncomputable def apart (a b : OpR) (s : HS) : Bool :=
  freeT a.ds b.ns && freeT b.ds a.ns &&
  (quiet a b || near a b || (Nat.beq a.k 1 && Nat.beq b.k 2 && nilR a.wr && Nat.beq a.c0 a.c1 && a.again s))
/-- surely the same value -/
noncomputable def sameSV (x y : SV) : Bool := match x, y with
  | .v (.int k a), .v (.int j b) => k == j && a == b
  | .v (.bool a), .v (.bool b) => a == b
  | .v (.slice none 0 0), .v (.slice none 0 0) => true
  | .str [], .str [] => true
  | .v (.pointer none), .v (.pointer none) => true
  | .v (.map none), .v (.map none) => true
  | .v .nilIface, .v .nilIface => true
  | _, _ => false
/-- the temporaries among operands -/
noncomputable def tmpsR (l : List Operand) (acc : List Nat) : List Nat := List.rec (motive := fun _ => List Nat) acc (fun o _ ih => match o with
  | .tmp t => t :: ih
  | _ => ih) l
noncomputable def guardT (ops : Array Oper) (o : Oper) : List Nat := match o.guard with
  | none => []
  | some (j, _) => match (ops[j]?).bind (·.dst) with
    | some d => [d]
    | none => []
noncomputable def namesR (ops : Array Oper) (o : Oper) : List Nat := tmpsR o.op.operands.toList (match o.dst with
  | some d => d :: guardT ops o
  | none => guardT ops o)
section
variable (E : Env) (call : FuncId → List SV → M SV) (yld : Nat → List SV → M SV) (ar : Option Nat)
noncomputable def dfrA (ar : Option Nat) (a : A) (o : Oper) (f : SV) (as : List SV) : M A := match f with
  | .fn (.func g) b cap => (match ar with
    | none => pure ((⟨a.tm, a.n, .call g cap (appR b as) :: a.df⟩ : A).put o und)
    | some _ => fail "defer in a round")
  | _ => fail "defer"
/-- the value of an operation that defers nothing -/
noncomputable def runX (a : A) (o : Oper) : M SV := exec E (evalO E a.tm) o >>= fun r => match r with
  | .val x => pure x
  | .enter f as => call f as
  | .round l as => yld l as
  | .dfr _ _ => fail "defer in a drawn region"
noncomputable def isNext (x : SV) (r : Nx) : Bool := match r with
  | .val y => sameSV x y
  | _ => false
/-- run again elsewhere, an operation yields the same, and looks at no more than one block -/
noncomputable def againX (a : A) (o : Oper) (rd : List Nat) (x : SV) (s : HS) : Bool := Option.rec false (fun r => isNext x r.1 && Nat.beq r.2.1.c s.c && (match FP.rds 0 0 r.2.2 [], FP.wrs 0 0 r.2.2 [], rd with
  | [b], [], [b'] => Nat.beq b b'
  | _, _, _ => false)) (exec E (evalO E a.tm) o s).run
noncomputable def runO (a : A) (o : Oper) : M A := exec E (evalO E a.tm) o >>= fun r => match r with
  | .val x => pure (a.put o x)
  | .enter f as => call f as >>= fun x => pure (a.put o x)
  | .round l as => yld l as >>= fun x => pure (a.put o x)
  | .dfr f as => dfrA ar a o f as
noncomputable def want (ops : Array Oper) (tm : T SV) (o : Oper) : Bool := match o.guard with
  | none => true
  | some (j, w) => match (ops[j]?).bind (·.dst) with
    | some d => (match tmGet tm d with
      | .v (.bool b) => b == w
      | _ => false)
    | none => false
noncomputable def evS (ops : Array Oper) (l : List Oper) : A → M A := List.rec (motive := fun _ => A → M A) (fun a => pure a)
  (fun o _ ih a => br (want ops a.tm o) (runO E call yld ar a o >>= fun a => ih a) (ih (a.put o und))) l
noncomputable def evD (ops : Array Oper) (bf : Array Nat) (l : List Oper) : Nat → List OpR → A → M A := List.rec (motive := fun _ => Nat → List OpR → A → M A) (fun _ _ a => pure a)
  (fun o _ ih i done a => br (want ops a.tm o)
    (fun s => (runX E call yld a o s).bind fun x s1 p1 =>
      let rd := FP.rds s.c s1.c p1 []
      let wr := FP.wrs s.c s1.c p1 []
      let me : OpR := ⟨i, s.c, s1.c, rd, wr, opK o.op, namesR ops o, o.dst, againX E a o rd x⟩
      bif allR (fun d => bitR (bf.getD i 0) d.i || apart d me s1) done then (ih (i + 1) (me :: done) (a.put o x) s1).bind fun b s2 q => .ret b s2 (.app (.app (FP.ofL .r rd) (FP.ofL .w wr)) q) else .fail "order")
    (fun s => let me : OpR := ⟨i, 0, 0, [], [], 0, namesR ops o, o.dst, fun _ => false⟩
      bif allR (fun d => bitR (bf.getD i 0) d.i || apart d me s) done then ih (i + 1) (me :: done) (a.put o und) s else .fail "order: left out")) l
/-- what binds an operation lies ahead of it in the text -/
noncomputable def backs (l : List Oper) : Nat → Bool := List.rec (motive := fun _ => Nat → Bool) (fun _ => true) (fun o _ ih i => allR (fun e => !Region.binds .any e || Nat.blt e.on i) o.after.toList && ih (i + 1)) l
noncomputable def evDr (ops : Array Oper) (a : A) : M A := br (backs ops.toList 0) (evD E call yld ops (Region.before ops) ops.toList 0 [] a) (fail "an edge that goes on")
noncomputable def layR (ar : Option Nat) (a : A) : M (Nat × List DfE) := match ar with
  | none => new (.dfr []) >>= fun d => pure (d, .mark d :: a.df)
  | some l0 => get l0 >>= fun o => (match o with
    | .loop _ _ _ _ _ _ _ _ d => pure (d, a.df)
    | _ => fail "around")
noncomputable def evR (a : A) (f : Operand) (ps : Array Tmp) (asg body : Code) : M (AExit × A) := match evalO E a.tm f with
  | .fn (.func g) first cap => layR ar a >>= fun dm =>
    new (.loop .ready none 0 a.tm a.n ps asg body dm.1) >>= fun l =>
    enterM E g (appR first (.fn (.yield l) [] [] :: cap)) >>= fun r => (match r with
    | .enter g as => call g as >>= fun _ => get l >>= fun o => (match o with
      | .loop .ready none _ _ _ _ _ _ _ => del l >>= fun _ => pure (.normal, ⟨a.tm, a.n, dm.2⟩)
      | .loop .done (some .ret) _ _ _ _ _ _ _ => del l >>= fun _ => pure (.ret, ⟨a.tm, a.n, dm.2⟩)
      | .loop .done (some (.exit i)) _ _ _ _ _ _ _ => del l >>= fun _ => pure (.exit i, ⟨a.tm, a.n, dm.2⟩)
      | _ => fail "rangeFunc")
    | _ => fail "rangeFunc: no body")
  | _ => fail "rangeFunc: what?"
/-- a piece of a scope; a jump to a label of its -/
noncomputable def evSc (evC : Code → A → M (AExit × A)) (b : Code) (n : Nat) : Code → A → M (AExit × A) := Nat.rec (motive := fun _ => Code → A → M (AExit × A)) (fun _ _ => fail "jumps") (fun _ ih c a => evC c a >>= fun r => (match r.1 with
  | .goto l => (match findLabel b l with
    | some c' => ih c' r.2
    | none => pure (.goto l, r.2))
  | e => pure (e, r.2))) n
noncomputable def evC1 (n : Nat) (evC : Code → A → M (AExit × A)) (c : Code) (a : A) : M (AExit × A) := match c with
    | .skip | .label _ => pure (.normal, a)
    | .region _ ops draw => bif draw then evDr E call yld ops a >>= fun t => pure (.normal, t) else evS E call yld ar ops ops.toList a >>= fun t => pure (.normal, t)
    | .seq x y => evC x a >>= fun r => (match r.1 with
      | .normal => evC y r.2
      | e => pure (e, r.2))
    | .cond x p q => asBool (evalO E a.tm x) >>= fun t => br t (evC p a) (evC q a)
    | .block id b => evC b a >>= fun r => (match r.1 with
      | .exit i => bif Nat.beq i id then pure (.normal, r.2) else pure (.exit i, r.2)
      | e => pure (e, r.2))
    | .loop b => evC b a >>= fun r => (match r.1 with
      | .normal => evC (.loop b) r.2
      | e => pure (e, r.2))
    | .exit id => pure (.exit id, a)
    | .ret => pure (.ret, a)
    | .scope b => evSc evC b n b a
    | .goto l => pure (.goto l, a)
    | .rangeFunc f ps asg body => evR E call ar a f ps asg body
    | _ => fail "code"
noncomputable def evC (n : Nat) : Code → A → M (AExit × A) := Nat.rec (motive := fun _ => Code → A → M (AExit × A)) (fun _ _ => fail "fuel") (fun n ih => evC1 E call yld ar n ih) n
end
section
variable (E : Env) (call dcall : FuncId → List SV → M SV) (yld : Nat → List SV → M SV)
noncomputable def evDf : List DfE → M Unit
  | [] => pure ()
  | .call g cap as :: l => enterM E g (appR as cap) >>= fun r => (match r with
    | .enter g as => dcall g as >>= fun _ => evDf l
    | _ => fail "deferred: no body")
  | .mark d :: l => get d >>= fun o => (match o with
    | .dfr _ => del d >>= fun _ => evDf l
    | _ => fail "deferred: mark")
noncomputable def resM (tm : T SV) : List ResultVar → M (List SV)
  | [] => pure []
  | .tmp t :: l => resM tm l >>= fun r => pure (tmGet tm t :: r)
  | .cell x t :: l => loadVar E t (tmGet tm x) >>= fun v => resM tm l >>= fun r => pure (v :: r)
noncomputable def evRes (tm : T SV) (l : List ResultVar) : M SV := resM E tm l >>= fun vs => (match vs with
  | [x] => pure x
  | vs => pure (.tup vs))
noncomputable def evB (F : Nat) (fn : Func) (body : Code) (as : List SV) : M (AExit × A) := asrt (Nat.ble (max (lenR as) fn.ntmps) 100000 && Nat.ble (lenR as) 4000) "too many temporaries" >>= fun _ =>
  evC E call yld none F body ⟨T.ofL 12 as, max (lenR as) fn.ntmps, []⟩
noncomputable def evF (F : Nat) (f : FuncId) (as : List SV) : M SV := match E.fn f with
  | some fn => (match fn.body with
    | some body => evB E call yld F fn body as >>= fun r => (match r.1 with
      | .exit _ => fail "exit"
      | .goto _ => fail "goto"
      | _ => evDf E dcall r.2.df >>= fun _ => evRes E r.2.tm fn.results.toList)
    | none => fail "no body")
  | none => fail "no function"
def isRec (o : Oper) : Bool := match o.op with
  | .call c => (match c.callee with
    | .builtin b => (match b with
      | .recover => true
      | _ => false)
    | _ => false)
  | _ => false
/-- a region of a deferred call that nothing panicked ahead of: recover tells nil -/
noncomputable def evZ (ops : Array Oper) (l : List Oper) : A → M A := List.rec (motive := fun _ => A → M A) (fun a => pure a)
  (fun o _ ih a => br (want ops a.tm o) (bif isRec o then ih (a.put o (.v .nilIface)) else exec E (evalO E a.tm) o >>= fun r => (match r with
    | .val x => ih (a.put o x)
    | _ => fail "a region of a deferred call")) (ih (a.put o und))) l
def hasRec : Code → Bool
  | .seq (.region _ ops false) _ => ops.toList.any isRec
  | _ => false
noncomputable def evZB (F : Nat) (fn : Func) (body : Code) (as : List SV) : M (AExit × A) := match body with
  | .seq (.region _ ops false) c => asrt (Nat.ble (max (lenR as) fn.ntmps) 100000 && Nat.ble (lenR as) 4000) "too many temporaries" >>= fun _ =>
      evZ E ops ops.toList ⟨T.ofL 12 as, max (lenR as) fn.ntmps, []⟩ >>= fun a => evC E call yld none F c a
  | _ => fail "a deferred call"
/-- a deferred call: of a function that defers nothing itself -/
noncomputable def evFd (F : Nat) (f : FuncId) (as : List SV) : M SV := match E.fn f with
  | some fn => (match fn.body with
    | some body => (bif hasRec body then evZB E call yld F fn body as else evB E call yld F fn body as) >>= fun r => (match r.1 with
      | .exit _ => fail "exit"
      | .goto _ => fail "goto"
      | _ => (match r.2.df with
        | [] => evRes E r.2.tm fn.results.toList
        | _ => fail "defers of a deferred call"))
    | none => fail "no body")
  | none => fail "no function"
end
section
variable (E : Env) (call : FuncId → List SV → M SV) (yld : Nat → List SV → M SV)
noncomputable def endY (l : Nat) (st : LoopState) (pe : Option Code) (t : Bool) : M SV := get l >>= fun o => match o with
  | .loop _ _ f tm n ps asg body d => put l (.loop st pe f tm n ps asg body d) >>= fun _ => pure (.v (.bool t))
  | _ => fail "end of a round"
noncomputable def evY (F : Nat) (l : Nat) (as : List SV) : M SV := get l >>= fun o => match o with
  | .loop _ _ _f tm n ps asg body _d => bif Nat.beq ps.size (lenR as) then evC E call yld (some l) F asg ⟨(ps.toList.zip as).foldl (fun t q => bif Nat.blt q.1 n then t.upd 20 q.1 (some q.2) else t) tm, n, []⟩ >>= fun r => (match r.1 with
    | .normal => get l >>= fun o => (match o with
      | .loop .ready pe f tm n ps asg' body' d => put l (.loop .busy pe f tm n ps asg' body' d) >>= fun _ => evC E call yld (some l) F body r.2 >>= fun q => (match q.1 with
        | .normal => endY l .ready none true
        | .exit id => endY l .done (some (.exit id)) false
        | .goto _ => fail "goto of a round"
        | .ret => endY l .done (some .ret) false)
      | _ => fail "begin of a round")
    | _ => fail "round") else fail "yield"
  | _ => fail "yield"
end
structure CY where
  c : FuncId → List SV → M SV
  d : FuncId → List SV → M SV
  y : Nat → List SV → M SV
noncomputable def ev (E : Env) (F : Nat) (d : Nat) : CY := Nat.rec (motive := fun _ => CY) ⟨fun _ _ => fail "deep", fun _ _ => fail "deep", fun _ _ => fail "deep"⟩
  (fun _ ih => ⟨fun f as => match E.spec f as with
      | some m => m
      | none => evF E ih.c ih.d ih.y F f as, fun f as => evFd E ih.c ih.y F f as, fun l as => evY E ih.c ih.y F l as⟩) d
end Go.Ev
/- An activation of the abstract machine and one of the model. -/
namespace Go.Ev
variable {E : Env} {P : Program} {s s' : HS} {p : FP} {ν : Nu} {V : Nat → Prop} {w : World}
def ValD (V : Nat → Prop) : DfE → Prop
  | .call _ cap as => ValL V cap ∧ ValL V as
  | .mark d => V d
noncomputable def denD (ν : Nu) : DfE → Deferred
  | .call g cap as => { target := .fn (.func g) (denL ν cap).toArray, args := (denL ν as).toArray }
  | .mark d => { target := .collected (ν.ρ d), args := #[] }
def ValA (V : Nat → Prop) (a : A) : Prop := TmOK V a.tm a.n ∧ ∀ d ∈ a.df, ValD V d
structure ActR (ν : Nu) (a : A) (act : Act) : Prop where
  tm : act.tmps = (tmL ν a.tm a.n).toArray
  df : act.defers = a.df.map (denD ν)
theorem tmL_get (ν : Nu) (tm : T SV) (n i : Nat) : (tmL ν tm n)[i]? = if i < n then some (den ν (tmGet tm i)) else none := by
  unfold tmL
  rw [List.getElem?_map]
  by_cases h : i < n
  · rw [List.getElem?_range h, if_pos h]; rfl
  · rw [if_neg h, List.getElem?_eq_none (by simpa using h)]; rfl
theorem tmL_length (ν : Nu) (tm : T SV) (n : Nat) : (tmL ν tm n).length = n := by simp [tmL]
theorem eval_den (hR : Rel P E.nG s ν V w) {a : A} {act : Act} (hv : ValA V a) (ha : ActR ν a act) : act.eval = fun y => den ν (evalO E a.tm y) := by
  funext y
  cases y with
  | tmp t =>
    show act.tmps.getD t undef = den ν (tmGet a.tm t)
    rw [ha.tm]
    by_cases h : t < a.n
    · simp [tmL, h]
    · rw [hv.1.2.2 t (Nat.le_of_not_lt h), und_den]
      simp [tmL, h]
  | const v => exact (ofV_den ν v).symm
  | global g =>
    show Value.pointer (some ⟨g, 0, none⟩) = den ν (bif Nat.blt g E.nG then .ptr g 1 0 0 else .v (.pointer (some ⟨g, 0, none⟩)))
    cases h : Nat.blt g E.nG with
    | true => rw [cond_true, den, (hR.glob g (blt_true h)).1]
    | false => rw [cond_false, den]
  | func f => show Value.func (.func f) #[] #[] = _; simp [evalO, den, denFn, denL]
theorem val_evalO (hR : Rel P E.nG s ν V w) {a : A} (hv : ValA V a) (y : Operand) : Val V (evalO E a.tm y) := by
  cases y with
  | tmp t => exact hv.1.2.1 t
  | const v => exact ofV_val V v
  | global g =>
    show Val V (bif Nat.blt g E.nG then .ptr g 1 0 0 else .v (.pointer (some ⟨g, 0, none⟩)))
    cases h : Nat.blt g E.nG with
    | true => exact (hR.glob g (blt_true h)).2
    | false => trivial
  | func f => simp [evalO, Val, okFn, ValL]
theorem tmGet_upd {tm : T SV} {d t : Nat} {x : SV} (h : d < top) : tmGet (tm.upd 20 d (some x)) t = if t = d then x else tmGet tm t := by
  unfold tmGet
  rw [T.get_upd 20 tm d t (some x) (by unfold top at h; omega)]
  split <;> rfl
theorem tmOK_put {V : Nat → Prop} {tm : T SV} {n d : Nat} {x : SV} (h : TmOK V tm n) (hd : d < n) (hx : Val V x) : TmOK V (tm.upd 20 d (some x)) n := by
  have hdt : d < top := Nat.lt_of_lt_of_le hd h.1
  refine ⟨h.1, fun t => ?_, fun t ht => ?_⟩
  · rw [tmGet_upd hdt]; split
    · exact hx
    · exact h.2.1 t
  · rw [tmGet_upd hdt, if_neg (by omega)]; exact h.2.2 t ht
theorem tmL_put (ν : Nu) {tm : T SV} {n d : Nat} {x : SV} (hn : n ≤ top) (hd : d < n) : tmL ν (tm.upd 20 d (some x)) n = (tmL ν tm n).set d (den ν x) := by
  have hdt : d < top := Nat.lt_of_lt_of_le hd hn
  apply List.ext_getElem?
  intro i
  rw [tmL_get, List.getElem?_set, tmL_length, tmL_get, tmGet_upd hdt]
  by_cases h : i = d
  · subst h; simp [hd]
  · rw [if_neg h, if_neg (fun e : d = i => h e.symm)]
theorem put_some {a : A} {o : Oper} {x : SV} {d : Nat} (ho : o.dst = some d) : a.put o x = bif Nat.blt d a.n then ⟨a.tm.upd 20 d (some x), a.n, a.df⟩ else a := by
  cases a; unfold A.put; rw [ho]
theorem put_none {a : A} {o : Oper} {x : SV} (ho : o.dst = none) : a.put o x = a := by
  cases a; unfold A.put; rw [ho]
theorem val_put {a : A} {o : Oper} {x : SV} (hv : ValA V a) (hx : Val V x) : ValA V (a.put o x) := by
  cases ho : o.dst with
  | some d =>
    rw [put_some ho]
    cases h : Nat.blt d a.n with
    | true => exact ⟨tmOK_put hv.1 (blt_true h) hx, hv.2⟩
    | false => exact hv
  | none => rw [put_none ho]; exact hv
theorem act_put {a : A} {act : Act} {o : Oper} {x : SV} (hv : ValA V a) (ha : ActR ν a act) : ActR ν (a.put o x) (act.put o.dst (den ν x)) := by
  cases ho : o.dst with
  | none => rw [put_none ho]; exact ha
  | some d =>
    rw [put_some ho]
    have e : act.put (some d) (den ν x) = { act with tmps := act.tmps.setIfInBounds d (den ν x) } := rfl
    rw [e]
    cases h : Nat.blt d a.n with
    | true =>
      refine ⟨?_, ha.df⟩
      show act.tmps.setIfInBounds d (den ν x) = (tmL ν (a.tm.upd 20 d (some x)) a.n).toArray
      rw [ha.tm, tmL_put ν hv.1.1 (blt_true h)]
      simp
    | false =>
      refine ⟨?_, ha.df⟩
      show act.tmps.setIfInBounds d (den ν x) = (tmL ν a.tm a.n).toArray
      have hd : ¬ d < a.n := fun hlt => by
        have : Nat.blt d a.n = true := by unfold Nat.blt; exact Nat.ble_eq_true_of_le hlt
        rw [this] at h; cases h
      rw [ha.tm]
      apply Array.ext'
      simp only [Array.toList_setIfInBounds]
      rw [List.set_eq_of_length_le (by rw [tmL_length]; exact Nat.le_of_not_lt hd)]
theorem act_agree {ν' : Nu} (h : Agree V ν ν') {a : A} {act : Act} (hv : ValA V a) (ha : ActR ν a act) : ActR ν' a act := by
  refine ⟨by rw [tmL_agree h a.n hv.1.2.1]; exact ha.tm, ?_⟩
  rw [ha.df]
  apply List.map_congr_left
  intro d hd
  have := hv.2 d hd
  cases d with
  | call g cap as => simp only [denD, denL_agree h cap this.1, denL_agree h as this.2]
  | mark d => simp only [denD, (h d this).1]
theorem valA_mono {V' : Nat → Prop} (h : ∀ b, V b → V' b) {a : A} (hv : ValA V a) : ValA V' a := by
  refine ⟨⟨hv.1.1, fun t => val_mono h _ (hv.1.2.1 t), hv.1.2.2⟩, fun d hd => ?_⟩
  have := hv.2 d hd
  cases d with
  | call g cap as => exact ⟨valL_mono h _ this.1, valL_mono h _ this.2⟩
  | mark d => exact h d this
end Go.Ev
/- One operation, in its place. -/
namespace Go.Ev
variable {E : Env} {P : Program} {s s' : HS} {p : FP} {ν : Nu} {V : Nat → Prop} {w : World}
/-- the wide fence, in a round or in none -/
def fen (r : Option Nat) : Fence := { fn := fun _ => True, depth := none, alive := false, round := r }
def RetR (P : Program) (G : Nat) (s : HS) (ν : Nu) (V : Nat → Prop) (w : World) (s' : HS) (p : FP) (x : SV) : Ending → World → Prop :=
  fun e w' => ∃ ν', e = .returned (den ν' x) ∧ Val (VN V s s') x ∧ Post P G s ν V w s' p ν' w'
structure CallOK (E : Env) (P : Program) (call : FuncId → List SV → M SV) : Prop where
  loc : ∀ f as, Loc (call f as)
  run : ∀ {f as s x s' p}, Ok (call f as) s x s' p → ∀ {ν V w} (n : Nat), Rel P E.nG s ν V w → Fresh s s' V → ValL V as → CallsIn (fen none) n P f (denL ν as).toArray w (RetR P E.nG s ν V w s' p x)
def yTmps (ν : Nu) (r : Loop) (as : List SV) : Array Value := (r.params.zip (denL ν as).toArray).foldl (fun tmps q => tmps.setIfInBounds q.1 q.2) r.tmps
structure YldOK (E : Env) (P : Program) (yld : Nat → List SV → M SV) : Prop where
  loc : ∀ l as, Loc (yld l as)
  run : ∀ {l as s x s' p}, Ok (yld l as) s x s' p → ∀ {ν V w} (n : Nat), Rel P E.nG s ν V w → Fresh s s' V → V l → ValL V as → ∀ {r : Loop}, w.heap[ν.ρ l]? = some (.loop r) → as.length = r.params.size →
    RoundIn (fen none) n P (ν.ρ l) r.fn (yTmps ν r as) r.assign r.body w (RetR P E.nG s ν V w s' p x)
variable {call : FuncId → List SV → M SV} {yld : Nat → List SV → M SV} {ar : Option Nat}
theorem exec_defer {ρ : Operand → SV} {o : Oper} {c : Call} {x : Nx} (ho : o.op = .defer c) (h : Ok (exec E ρ o) s x s' p) : ∃ f as, x = .dfr f as := by
  rw [exec_eq] at h
  unfold execM at h
  rw [ho] at h
  simp only at h
  unfold ex_defer at h
  split at h
  · split at h
    · obtain ⟨rfl, _, _⟩ := ok_pure.1 h
      exact ⟨_, _, rfl⟩
    · exact (ok_fail h).elim
  · exact (ok_fail h).elim
theorem ok_dfrA {a a' : A} {o : Oper} {f : SV} {as : List SV} (h : Ok (dfrA ar a o f as) s a' s' p) :
    ar = none ∧ (∃ g b cap, f = .fn (.func g) b cap ∧ a' = (⟨a.tm, a.n, .call g cap (b ++ as) :: a.df⟩ : A).put o und) ∧ s = s' ∧ p = .nil := by
  unfold dfrA at h
  split at h
  · split at h
    · obtain ⟨rfl, rfl, rfl⟩ := ok_pure.1 h
      exact ⟨rfl, ⟨_, _, _, rfl, by rw [appR_eq]⟩, rfl, rfl⟩
    · exact (ok_fail h).elim
  · exact (ok_fail h).elim
theorem runO_le (hC : CallOK E P call) (hY : YldOK E P yld) {a a' : A} {r : Nx} {o : Oper} {s1 : HS} {p2 : FP} (h2 : Ok (match r with
  | .val x => pure (a.put o x)
  | .enter f as => call f as >>= fun x => pure (a.put o x)
  | .round l as => yld l as >>= fun x => pure (a.put o x)
  | .dfr f as => dfrA ar a o f as) s1 a' s' p2) : s1.c ≤ s'.c := by
  cases r with
  | val x => obtain ⟨_, rfl, _⟩ := ok_pure.1 h2; exact Nat.le_refl _
  | enter f as =>
    obtain ⟨x, s2, p3, p4, h3, h4, _⟩ := ok_bind.1 h2
    obtain ⟨_, rfl, _⟩ := ok_pure.1 h4
    exact (hC.loc f as _ _ _ _ h3).le
  | round l as =>
    obtain ⟨x, s2, p3, p4, h3, h4, _⟩ := ok_bind.1 h2
    obtain ⟨_, rfl, _⟩ := ok_pure.1 h4
    exact (hY.loc l as _ _ _ _ h3).le
  | dfr f as =>
    obtain ⟨_, _, rfl, _⟩ := ok_dfrA h2
    exact Nat.le_refl _
theorem run_wp (hE : EnvOK E P) (hC : CallOK E P call) (hY : YldOK E P yld) {a a' : A} {o : Oper} {act : Act} {n : Nat} (h : Ok (runO E call yld ar a o) s a' s' p) (hR : Rel P E.nG s ν V w) (hf : Fresh s s' V)
    (hv : ValA V a) (ha : ActR ν a act) {nxt : Act → World → Prop} {Q : Exit → Act → World → Prop}
    (hn : ∀ ν' w' act', Post P E.nG s ν V w s' p ν' w' → ValA (VN V s s') a' → ActR ν' a' act' → nxt act' w') : o.wpIn (fen (ar.map ν.ρ)) n P act w nxt Q := by
  unfold runO at h
  obtain ⟨r, s1, p1, p2, h1, h2, rfl⟩ := ok_bind.1 h
  have hle : s1.c ≤ s'.c := runO_le hC hY h2
  obtain ⟨c1, ν1, nx, w1, hrun, hnx, hvx, hp1⟩ := exec_sound hE hR (hf.left hle) (val_evalO hR hv) h1
  have hag := hp1.out.agree (hf.left hle)
  have hv1 : ValA (VN V s s1) a := valA_mono (fun b hb => Or.inl hb) hv
  have ha1 : ActR ν1 a act := act_agree hag hv ha
  have hf1 : Fresh s1 s' (VN V s s1) := hf.right c1
  refine ⟨fun _ _ => trivial, ?_⟩
  have hsem : o.semAt (fen (ar.map ν.ρ)).round act.eval = execOp (fun y => den ν (evalO E a.tm y)) o := by
    rw [← eval_den hR hv ha]
    cases har : ar with
    | none => rfl
    | some l =>
      cases ho : o.op with
      | defer c =>
        obtain ⟨f, as, rfl⟩ := exec_defer ho h1
        obtain ⟨h3, _⟩ := ok_dfrA h2
        rw [h3] at har; cases har
      | _ => exact Oper.semAt_eq _ _ _ (fun c hc => by rw [ho] at hc; cases hc)
  rw [hsem, hrun]
  cases r with
  | val x =>
    obtain ⟨rfl, rfl, rfl⟩ := ok_pure.1 h2
    have hp : Post P E.nG s ν V w s1 (p1.app .nil) ν1 w1 := hp1.mono (fun b hb => Or.inl hb)
    cases hnx with
    | val => exact hn _ _ _ hp (val_put hv1 hvx) (act_put hv1 ha1)
    | skip =>
      have := act_put (o := o) (x := und) hv1 ha1
      rw [und_den] at this
      exact hn _ _ _ hp (val_put hv1 hvx) this
  | enter f as =>
    obtain ⟨x, s2, p3, p4, h3, h4, rfl⟩ := ok_bind.1 h2
    obtain ⟨rfl, rfl, rfl⟩ := ok_pure.1 h4
    cases hnx
    refine ⟨fun hd => (by cases hd), (hC.run h3 (n - 1) hp1.rel hf1 hvx).mono ?_⟩
    rintro e w' ⟨ν', rfl, hvx', hp2⟩
    rw [VN_trans c1 hle] at hvx'
    have hp := hp1.trans hp2 c1 hle hf
    have hag2 := hp2.out.agree hf1
    have hv2 : ValA (VN V s s2) a := valA_mono (fun b hb => Or.inl hb) hv
    exact hn ν' w' _ (hp.mono (fun b hb => by rcases hb with hb | hb; exact Or.inl hb; exact Or.inr (Or.inl hb))) (val_put hv2 hvx') (act_put hv2 (act_agree hag2 hv1 ha1))
  | round l as =>
    obtain ⟨x, s2, p3, p4, h3, h4, rfl⟩ := ok_bind.1 h2
    obtain ⟨rfl, rfl, rfl⟩ := ok_pure.1 h4
    cases hnx with
    | round _ _ rr hr hs =>
    refine ⟨fun hd => (by cases hd), (hY.run h3 (n - 1) hp1.rel hf1 hvx.1 hvx.2 hr hs).mono ?_⟩
    rintro e w' ⟨ν', rfl, hvx', hp2⟩
    rw [VN_trans c1 hle] at hvx'
    have hp := hp1.trans hp2 c1 hle hf
    have hag2 := hp2.out.agree hf1
    have hv2 : ValA (VN V s s2) a := valA_mono (fun b hb => Or.inl hb) hv
    exact hn ν' w' _ (hp.mono (fun b hb => by rcases hb with hb | hb; exact Or.inl hb; exact Or.inr (Or.inl hb))) (val_put hv2 hvx') (act_put hv2 (act_agree hag2 hv1 ha1))
  | dfr f as =>
    obtain ⟨har, ⟨g, b, cap, rfl, rfl⟩, rfl, rfl⟩ := ok_dfrA h2
    have hp : Post P E.nG s ν V w s1 (p1.app .nil) ν1 w1 := hp1.mono (fun b hb => Or.inl hb)
    cases hnx
    have hv3 : ValA (VN V s s1) ⟨a.tm, a.n, .call g cap (b ++ as) :: a.df⟩ := ⟨hv1.1, fun d hd => by
      rcases List.mem_cons.1 hd with rfl | hd
      · exact ⟨hvx.1.2.2, valL_append hvx.1.2.1 hvx.2⟩
      · exact hv1.2 d hd⟩
    have ha3 : ActR ν1 ⟨a.tm, a.n, .call g cap (b ++ as) :: a.df⟩ { act with defers := denD ν1 (.call g cap (b ++ as)) :: act.defers } := ⟨ha1.tm, by simp [ha1.df]⟩
    have := act_put (o := o) (x := und) hv3 ha3
    rw [und_den] at this
    exact hn _ _ _ hp (val_put hv3 (und_val _)) this
end Go.Ev
/- A region whose order is fixed; guards. -/
namespace Go.Ev
variable {E : Env} {P : Program} {s s' : HS} {p : FP} {ν : Nu} {V : Nat → Prop} {w : World}
variable {call : FuncId → List SV → M SV} {yld : Nat → List SV → M SV} {ar : Option Nat}
theorem den_bool {x : SV} {b : Bool} (h : den ν x = .bool b) : x = .v (.bool b) := by
  cases x <;> simp [den] at h
  rw [h]
theorem want_eq {a : A} {act : Act} (ha : ActR ν a act) (ops : Array Oper) (o : Oper) (hv : ValA V a) : Region.wanted o (yielded ops act.tmps) = want ops a.tm o := by
  unfold Region.wanted want
  cases hg : o.guard with
  | none => rfl
  | some q =>
    obtain ⟨j, b⟩ := q
    simp only
    unfold yielded
    cases hd : (ops[j]?).bind (·.dst) with
    | none => rfl
    | some d =>
      simp only [Option.bind_some]
      rw [ha.tm]
      have e : (tmL ν a.tm a.n).toArray[d]? = if d < a.n then some (den ν (tmGet a.tm d)) else none := by
        rw [List.getElem?_toArray, tmL_get]
      rw [e]
      by_cases h : d < a.n
      · rw [if_pos h]
        cases hx : tmGet a.tm d with
        | v y => cases y <;> simp [den]
        | _ => simp [den]
      · rw [if_neg h, hv.1.2.2 d (Nat.le_of_not_lt h)]
        rfl
theorem loc_dfrA (a : A) (o : Oper) (f : SV) (as : List SV) : Loc (dfrA ar a o f as) := by
  unfold dfrA
  with_reducible repeat' first | exact loc_pure _ | exact loc_fail _ | split
theorem loc_runO (hC : ∀ f as, Loc (call f as)) (hY : ∀ l as, Loc (yld l as)) (a : A) (o : Oper) : Loc (runO E call yld ar a o) := by
  unfold runO
  refine loc_bind (loc_exec _ _ _) (fun r => ?_)
  cases r with
  | val x => exact loc_pure _
  | enter f as => exact loc_bind (hC f as) (fun _ => loc_pure _)
  | round l as => exact loc_bind (hY l as) (fun _ => loc_pure _)
  | dfr f as => exact loc_dfrA a o f as
theorem evS_nil (ops : Array Oper) (a : A) : evS E call yld ar ops [] a = pure a := rfl
theorem evS_cons (ops : Array Oper) (o : Oper) (l : List Oper) (a : A) : evS E call yld ar ops (o :: l) a =
    br (want ops a.tm o) (runO E call yld ar a o >>= fun a => evS E call yld ar ops l a) (evS E call yld ar ops l (a.put o und)) := rfl
theorem loc_evS (hC : ∀ f as, Loc (call f as)) (hY : ∀ l as, Loc (yld l as)) (ops : Array Oper) : ∀ (l : List Oper) (a : A), Loc (evS E call yld ar ops l a)
  | [], a => loc_pure _
  | o :: l, a => by
    rw [evS_cons]
    exact loc_br (loc_bind (loc_runO hC hY a o) (fun a => loc_evS hC hY ops l a)) (loc_evS hC hY ops l _)
/-- what is asked of the end of a piece of code -/
def Ends (E : Env) (P : Program) (s : HS) (ν : Nu) (V : Nat → Prop) (w : World) (s' : HS) (p : FP) (a' : A) (K : Act → World → Prop) : Prop :=
  ∀ ν' w' act', Post P E.nG s ν V w s' p ν' w' → ValA (VN V s s') a' → ActR ν' a' act' → K act' w'
theorem Ends.mono {a' : A} {K : Act → World → Prop} {q : FP} (h : Ends E P s ν V w s' q a' K) (hw : ∀ b, p.W b → q.W b) : Ends E P s ν V w s' p a' K :=
  fun ν' w' act' hp hv ha => h ν' w' act' (hp.mono hw) hv ha
theorem Ends.next {s1 : HS} {p1 p2 : FP} {ν1 : Nu} {w1 : World} {a' : A} {K : Act → World → Prop} (h : Ends E P s ν V w s' (p1.app p2) a' K) (hp : Post P E.nG s ν V w s1 p1 ν1 w1) (c1 : s.c ≤ s1.c) (c2 : s1.c ≤ s'.c) (hf : Fresh s s' V) :
    Ends E P s1 ν1 (VN V s s1) w1 s' p2 a' K := fun ν' w' act' hp2 hv ha => by
  rw [VN_trans c1 c2] at hv
  exact h ν' w' act' (hp.trans hp2 c1 c2 hf) hv ha
theorem fen_agree {ν' : Nu} (h : Agree V ν ν') (har : ∀ l, ar = some l → V l) : fen (ar.map ν'.ρ) = fen (ar.map ν.ρ) := by
  cases ar with
  | none => rfl
  | some l => simp [(h l (har l rfl)).1]
theorem evS_wp (hE : EnvOK E P) (hC : CallOK E P call) (hY : YldOK E P yld) (ops : Array Oper) {n : Nat} {Q : Exit → Act → World → Prop} : ∀ (l : List Oper) (k : Nat), (∀ i, l[i]? = ops[k + i]?) →
    ∀ {s s' p ν V w a a' act}, Ok (evS E call yld ar ops l a) s a' s' p → Rel P E.nG s ν V w → Fresh s s' V → (∀ l, ar = some l → V l) → ValA V a → ActR ν a act → Ends E P s ν V w s' p a' (Q .normal) →
      wpOpsIn (fen (ar.map ν.ρ)) n P ops Q (List.range' k l.length) act w
  | [], k, hl, s, s', p, ν, V, w, a, a', act, h, hR, hf, har, hv, ha, hq => by
    obtain ⟨rfl, rfl, rfl⟩ := ok_pure.1 h
    exact hq ν w act (post_refl hR _) (by rw [VN_self]; exact hv) ha
  | o :: l, k, hl, s, s', p, ν, V, w, a, a', act, h, hR, hf, har, hv, ha, hq => by
    have ho : ops[k]? = some o := by have := hl 0; simpa using this.symm
    have hl' : ∀ i, l[i]? = ops[k + 1 + i]? := fun i => by
      have := hl (i + 1)
      rw [List.getElem?_cons_succ] at this
      rw [this]; congr 1; omega
    rw [List.length_cons, List.range'_succ]
    simp only [wpOpsIn, ho, want_eq ha ops o hv]
    rw [evS_cons] at h
    rcases ok_br.1 h with ⟨hw, h1⟩ | ⟨hw, h1⟩
    · rw [if_pos hw]
      obtain ⟨a1, s1, p1, p2, h2, h3, rfl⟩ := ok_bind.1 h1
      have c1 := (loc_runO hC.loc hY.loc a o _ _ _ _ h2).le
      have c2 := (loc_evS hC.loc hY.loc ops l a1 _ _ _ _ h3).le
      refine run_wp hE hC hY h2 hR (hf.left c2) hv ha ?_
      intro ν1 w1 act1 hp hv1 ha1
      have hag := hp.out.agree (hf.left c2)
      rw [← fen_agree hag har]
      exact evS_wp hE hC hY ops l (k + 1) hl' h3 hp.rel (hf.right c1) (fun l hl => Or.inl (har l hl)) hv1 ha1 (hq.next hp c1 c2 hf)
    · rw [if_neg (by rw [hw]; simp)]
      refine ⟨fun _ _ => trivial, ?_⟩
      have := act_put (o := o) (x := und) hv ha
      rw [und_den] at this
      exact evS_wp hE hC hY ops l (k + 1) hl' h1 hR hf har (val_put hv (und_val _)) this hq
end Go.Ev
/- A region whose order is drawn. -/
namespace Go.Ev
variable {E : Env} {P : Program} {s s' : HS} {p : FP} {ν : Nu} {V : Nat → Prop} {w : World}
variable {call : FuncId → List SV → M SV} {yld : Nat → List SV → M SV}
theorem mapR_congr {α β : Type} {f g : α → β} {l : List α} (h : ∀ x ∈ l, f x = g x) : mapR f l = mapR g l := by
  rw [mapR_eq, mapR_eq]
  exact List.map_congr_left h
/-- an operation hangs on its operands alone -/
theorem exec_congr {ρ ρ' : Operand → SV} (o : Oper) (h : ∀ x ∈ o.op.operands, ρ x = ρ' x) : exec E ρ o = exec E ρ' o := by
  rw [exec_eq, exec_eq]
  unfold execM
  cases hop : o.op <;> simp only [hop, Op.operands, Array.mem_def, List.mem_cons, List.not_mem_nil, or_false, forall_eq_or_imp, forall_eq] at h ⊢
  all_goals try rfl
  all_goals try (simp only [ex_move, ex_pick, ex_box, ex_load, ex_store, ex_nilCheck, ex_binOp, ex_unOp, ex_convert, ex_makeInterface, ex_fieldAddr, ex_field, ex_indexAddr, ex_index, ex_lookup, ex_mapUpdate, ex_mapEntry, ex_entryStore, ex_range, ex_next, ex_extract, ex_typeAssert, ex_makeSlice, h]; done)
  case build t ps =>
    have e : mapR (fun q : Nat × Operand => (q.1, ρ q.2)) ps.toList = mapR (fun q => (q.1, ρ' q.2)) ps.toList := mapR_congr (fun q hq => by rw [h q.2 (List.mem_map.2 ⟨q, hq, rfl⟩)])
    simp only [ex_build, e]
  case buildSlice t n ps =>
    have e : mapR (fun q : Nat × Operand => (q.1, ρ q.2)) ps.toList = mapR (fun q => (q.1, ρ' q.2)) ps.toList := mapR_congr (fun q hq => by rw [h q.2 (List.mem_map.2 ⟨q, hq, rfl⟩)])
    simp only [ex_buildSlice, e]
  case makeFunc f a c =>
    have e1 : mapR ρ a.toList = mapR ρ' a.toList := mapR_congr (fun q hq => h q (by simp at hq ⊢; exact Or.inl hq))
    have e2 : mapR ρ c.toList = mapR ρ' c.toList := mapR_congr (fun q hq => h q (by simp at hq ⊢; exact Or.inr hq))
    simp only [ex_makeFunc, e1, e2]
  case makeMap t r =>
    have e : r.map ρ = r.map ρ' := by cases r with
      | none => rfl
      | some x => simp [h x (by simp)]
    simp only [ex_makeMap, e]
  case slice t x lo hi mx =>
    have e : ∀ r : Option Operand, (∀ y, r = some y → ρ y = ρ' y) → r.map ρ = r.map ρ' := fun r hr => by cases r with
      | none => rfl
      | some y => simp [hr y rfl]
    simp only [ex_slice, h x (by simp), e lo (fun y hy => h y (by simp [hy])), e hi (fun y hy => h y (by simp [hy])), e mx (fun y hy => h y (by simp [hy]))]
  case call c =>
    have e : mapR ρ c.args.toList = mapR ρ' c.args.toList := mapR_congr (fun q hq => h q (by simp at hq; simp [Call.operands, hq]))
    unfold ex_call callA
    rw [e]
    cases hc : c.callee with
    | builtin b => cases b <;> rfl
    | value f => simp only [h f (by simp [Call.operands, hc])]
    | invoke r m => simp only [h r (by simp [Call.operands, hc])]
  case defer c =>
    have e : mapR ρ c.args.toList = mapR ρ' c.args.toList := mapR_congr (fun q hq => h q (by simp at hq; simp [Call.operands, hq]))
    unfold ex_defer
    rw [e]
    cases hc : c.callee with
    | builtin b => rfl
    | value f => simp only [h f (by simp [Call.operands, hc])]
    | invoke r m => rfl
theorem loc_runX (hC : ∀ f as, Loc (call f as)) (hY : ∀ l as, Loc (yld l as)) (a : A) (o : Oper) : Loc (runX E call yld a o) := by
  unfold runX
  refine loc_bind (loc_exec _ _ _) (fun r => ?_)
  cases r with
  | val x => exact loc_pure _
  | enter f as => exact hC f as
  | round l as => exact hY l as
  | dfr f as => exact loc_fail _
theorem runX_le (hC : CallOK E P call) (hY : YldOK E P yld) {x : SV} {r : Nx} {s1 : HS} {p2 : FP} (h2 : Ok (match r with
  | .val x => pure x
  | .enter f as => call f as
  | .round l as => yld l as
  | .dfr _ _ => fail "defer in a drawn region") s1 x s' p2) : s1.c ≤ s'.c := by
  cases r with
  | val x => obtain ⟨_, rfl, _⟩ := ok_pure.1 h2; exact Nat.le_refl _
  | enter f as => exact (hC.loc f as _ _ _ _ h2).le
  | round l as => exact (hY.loc l as _ _ _ _ h2).le
  | dfr f as => exact (ok_fail h2).elim
theorem runX_wp (hE : EnvOK E P) (hC : CallOK E P call) (hY : YldOK E P yld) {a : A} {x : SV} {o : Oper} {act : Act} {n : Nat} {rd : Option Nat} (h : Ok (runX E call yld a o) s x s' p) (hR : Rel P E.nG s ν V w) (hf : Fresh s s' V)
    (hv : ValA V a) (ha : ActR ν a act) {nxt : Act → World → Prop} {Q : Exit → Act → World → Prop}
    (hn : ∀ ν' w', Post P E.nG s ν V w s' p ν' w' → Val (VN V s s') x → ActR ν' a act → nxt (act.put o.dst (den ν' x)) w') : o.wpIn (fen rd) n P act w nxt Q := by
  unfold runX at h
  obtain ⟨r, s1, p1, p2, h1, h2, rfl⟩ := ok_bind.1 h
  have hle : s1.c ≤ s'.c := runX_le hC hY h2
  obtain ⟨c1, ν1, nx, w1, hrun, hnx, hvx, hp1⟩ := exec_sound hE hR (hf.left hle) (val_evalO hR hv) h1
  have hag := hp1.out.agree (hf.left hle)
  have hv1 : ValA (VN V s s1) a := valA_mono (fun b hb => Or.inl hb) hv
  have ha1 : ActR ν1 a act := act_agree hag hv ha
  have hf1 : Fresh s1 s' (VN V s s1) := hf.right c1
  refine ⟨fun _ _ => trivial, ?_⟩
  have hsem : o.semAt (fen rd).round act.eval = execOp (fun y => den ν (evalO E a.tm y)) o := by
    rw [← eval_den hR hv ha]
    cases ho : o.op with
    | defer c =>
      obtain ⟨f, as, rfl⟩ := exec_defer ho h1
      exact (ok_fail h2).elim
    | _ => exact Oper.semAt_eq _ _ _ (fun c hc => by rw [ho] at hc; cases hc)
  rw [hsem, hrun]
  cases r with
  | val y =>
    obtain ⟨rfl, rfl, rfl⟩ := ok_pure.1 h2
    have hp : Post P E.nG s ν V w s1 (p1.app .nil) ν1 w1 := hp1.mono (fun b hb => Or.inl hb)
    cases hnx with
    | val => exact hn _ _ hp hvx ha1
    | skip =>
      have := hn _ _ hp hvx ha1
      rw [und_den] at this
      exact this
  | enter f as =>
    cases hnx
    refine ⟨fun hd => (by cases hd), (hC.run h2 (n - 1) hp1.rel hf1 hvx).mono ?_⟩
    rintro e w' ⟨ν', rfl, hvx', hp2⟩
    rw [VN_trans c1 hle] at hvx'
    exact hn ν' w' (hp1.trans hp2 c1 hle hf) hvx' (act_agree (hp2.out.agree hf1) hv1 ha1)
  | round l as =>
    cases hnx with
    | round _ _ rr hr hs =>
    refine ⟨fun hd => (by cases hd), (hY.run h2 (n - 1) hp1.rel hf1 hvx.1 hvx.2 hr hs).mono ?_⟩
    rintro e w' ⟨ν', rfl, hvx', hp2⟩
    rw [VN_trans c1 hle] at hvx'
    exact hn ν' w' (hp1.trans hp2 c1 hle hf) hvx' (act_agree (hp2.out.agree hf1) hv1 ha1)
  | dfr f as => exact (ok_fail h2).elim
end Go.Ev
/- A region whose order is drawn: what its run in the text's order tells. -/
namespace Go.Ev
variable {E : Env} {P : Program} {s s' : HS} {p : FP} {ν : Nu} {V : Nat → Prop} {w : World}
variable {call : FuncId → List SV → M SV} {yld : Nat → List SV → M SV}
/-- the record of an operation that was carried out, of one that was left out -/
noncomputable def meOf (E : Env) (ops : Array Oper) (a : A) (o : Oper) (i : Nat) (s : HS) (x : SV) (s1 : HS) (p1 : FP) : OpR :=
  ⟨i, s.c, s1.c, FP.rds s.c s1.c p1 [], FP.wrs s.c s1.c p1 [], opK o.op, namesR ops o, o.dst, againX E a o (FP.rds s.c s1.c p1 []) x⟩
noncomputable def outOf (ops : Array Oper) (o : Oper) (i : Nat) : OpR := ⟨i, 0, 0, [], [], 0, namesR ops o, o.dst, fun _ => false⟩
theorem bitR_eq (n i : Nat) : bitR n i = n.testBit i := by
  unfold bitR Nat.testBit
  have h : (n >>> i) &&& 1 = (n >>> i) % 2 := Nat.and_one_is_mod _
  have h2 : 1 &&& (n >>> i) = (n >>> i) % 2 := by rw [Nat.and_comm]; exact h
  rw [show Nat.land (Nat.shiftRight n i) 1 = (n >>> i) % 2 from h, h2]
  have := Nat.mod_two_eq_zero_or_one (n >>> i)
  rcases this with h | h <;> rw [h] <;> rfl
theorem evD_nil (ops : Array Oper) (bf : Array Nat) (i : Nat) (done : List OpR) (a : A) : evD E call yld ops bf [] i done a = pure a := rfl
theorem ok_evD_cons {ops : Array Oper} {bf : Array Nat} {o : Oper} {l : List Oper} {i : Nat} {done : List OpR} {a a' : A} (h : Ok (evD E call yld ops bf (o :: l) i done a) s a' s' p) :
    (want ops a.tm o = true ∧ ∃ x s1 p1 q, Ok (runX E call yld a o) s x s1 p1 ∧ (∀ d ∈ done, (bf.getD i 0).testBit d.i = true ∨ apart d (meOf E ops a o i s x s1 p1) s1 = true) ∧
      Ok (evD E call yld ops bf l (i + 1) (meOf E ops a o i s x s1 p1 :: done) (a.put o x)) s1 a' s' q ∧
      p = .app (.app (FP.ofL .r (FP.rds s.c s1.c p1 [])) (FP.ofL .w (FP.wrs s.c s1.c p1 []))) q) ∨
    (want ops a.tm o = false ∧ (∀ d ∈ done, (bf.getD i 0).testBit d.i = true ∨ apart d (outOf ops o i) s = true) ∧ Ok (evD E call yld ops bf l (i + 1) (outOf ops o i :: done) (a.put o und)) s a' s' p) := by
  have hall : ∀ (me : OpR) (s : HS), allR (fun d => bitR (bf.getD i 0) d.i || apart d me s) done = true → ∀ d ∈ done, (bf.getD i 0).testBit d.i = true ∨ apart d me s = true := by
    intro me s h d hd
    rw [allR_eq, List.all_eq_true] at h
    simpa [bitR_eq] using h d hd
  rcases ok_br.1 h with ⟨hw, h1⟩ | ⟨hw, h1⟩
  · refine .inl ⟨hw, ?_⟩
    have h1 : (((runX E call yld a o s).bind fun x s1 p1 =>
      bif allR (fun d => bitR (bf.getD i 0) d.i || apart d (meOf E ops a o i s x s1 p1) s1) done then (evD E call yld ops bf l (i + 1) (meOf E ops a o i s x s1 p1 :: done) (a.put o x) s1).bind fun b s2 q => .ret b s2 (.app (.app (FP.ofL .r (FP.rds s.c s1.c p1 [])) (FP.ofL .w (FP.wrs s.c s1.c p1 []))) q) else .fail "order")).run = some (a', s', p) := h1
    rw [Tr.run_bind] at h1
    cases hr : (runX E call yld a o s).run with
    | none => rw [hr] at h1; cases h1
    | some r =>
      obtain ⟨x, s1, p1⟩ := r
      rw [hr] at h1
      simp only [Option.bind_some] at h1
      cases hc : allR (fun d => bitR (bf.getD i 0) d.i || apart d (meOf E ops a o i s x s1 p1) s1) done with
      | false => rw [hc] at h1; cases h1
      | true =>
        rw [hc, cond_true, Tr.run_bind] at h1
        cases hq : (evD E call yld ops bf l (i + 1) (meOf E ops a o i s x s1 p1 :: done) (a.put o x) s1).run with
        | none => rw [hq] at h1; cases h1
        | some q =>
          obtain ⟨b, s2, q⟩ := q
          rw [hq] at h1
          simp only [Option.bind_some, Tr.run, Option.some.injEq, Prod.mk.injEq] at h1
          obtain ⟨rfl, rfl, rfl⟩ := h1
          exact ⟨x, s1, p1, q, hr, hall _ _ hc, hq, rfl⟩
  · refine .inr ⟨hw, ?_⟩
    have h1 : (bif allR (fun d => bitR (bf.getD i 0) d.i || apart d (outOf ops o i) s) done then evD E call yld ops bf l (i + 1) (outOf ops o i :: done) (a.put o und) s else .fail "order: left out").run = some (a', s', p) := h1
    cases hc : allR (fun d => bitR (bf.getD i 0) d.i || apart d (outOf ops o i) s) done with
    | false => rw [hc] at h1; cases h1
    | true =>
      rw [hc, cond_true] at h1
      exact ⟨hall _ _ hc, h1⟩
end Go.Ev
/- A region whose order is drawn: its run in the text's order, as a list of steps. -/
namespace Go.Ev
variable {E : Env} {P : Program} {s s' : HS} {p : FP} {ν : Nu} {V : Nat → Prop} {w : World}
variable {call : FuncId → List SV → M SV} {yld : Nat → List SV → M SV}
/-- a step: the operation, was it wanted, before and behind -/
structure Stp where
  o : Oper
  wt : Bool
  a : A
  s : HS
  x : SV
  s1 : HS
  p1 : FP
noncomputable def Stp.a1 (t : Stp) : A := t.a.put t.o t.x
noncomputable def Stp.me (E : Env) (ops : Array Oper) (i : Nat) (t : Stp) : OpR := bif t.wt then meOf E ops t.a t.o i t.s t.x t.s1 t.p1 else outOf ops t.o i
noncomputable def Stp.rd (t : Stp) : List Nat := bif t.wt then FP.rds t.s.c t.s1.c t.p1 [] else []
noncomputable def Stp.wr (t : Stp) : List Nat := bif t.wt then FP.wrs t.s.c t.s1.c t.p1 [] else []
structure StpOK (E : Env) (call : FuncId → List SV → M SV) (yld : Nat → List SV → M SV) (ops : Array Oper) (t : Stp) : Prop where
  want : want ops t.a.tm t.o = t.wt
  run : t.wt = true → Ok (runX E call yld t.a t.o) t.s t.x t.s1 t.p1
  out : t.wt = false → t.x = und ∧ t.s1 = t.s ∧ t.p1 = .nil
/-- the steps from a state on: each begins where the one ahead ended, and stands apart from all that it does not come behind -/
def Chain (E : Env) (call : FuncId → List SV → M SV) (yld : Nat → List SV → M SV) (ops : Array Oper) (bf : Array Nat) : List Stp → Nat → List OpR → A → HS → A → HS → Prop
  | [], _, _, a, s, a', s' => a = a' ∧ s = s'
  | t :: l, i, done, a, s, a', s' => t.a = a ∧ t.s = s ∧ StpOK E call yld ops t ∧ (∀ d ∈ done, (bf.getD i 0).testBit d.i = true ∨ apart d (t.me E ops i) t.s1 = true) ∧ Chain E call yld ops bf l (i + 1) (t.me E ops i :: done) t.a1 t.s1 a' s'
/-- what the region's run logs: what the steps read and wrote outside their own numbers -/
def Logs (p : FP) (l : List Stp) : Prop := ∀ b, (p.R b ↔ ∃ t ∈ l, b ∈ t.rd) ∧ (p.W b ↔ ∃ t ∈ l, b ∈ t.wr)
theorem ofL_R (l : List Nat) (b : Nat) : ((FP.ofL .r l).R b ↔ b ∈ l) ∧ ((FP.ofL .r l).W b ↔ False) := by
  induction l with
  | nil => simp [FP.ofL, FP.R, FP.W]
  | cons x l ih => simp [FP.ofL, FP.R, FP.W, ih]
theorem ofL_W (l : List Nat) (b : Nat) : ((FP.ofL .w l).W b ↔ b ∈ l) ∧ ((FP.ofL .w l).R b ↔ False) := by
  induction l with
  | nil => simp [FP.ofL, FP.R, FP.W]
  | cons x l ih => simp [FP.ofL, FP.R, FP.W, ih]
theorem evD_chain {ops : Array Oper} {bf : Array Nat} : ∀ (l : List Oper) {i : Nat} {done : List OpR} {a a' : A} {s s' : HS} {p : FP}, Ok (evD E call yld ops bf l i done a) s a' s' p →
    ∃ sts : List Stp, sts.map (·.o) = l ∧ Chain E call yld ops bf sts i done a s a' s' ∧ Logs p sts
  | [], i, done, a, a', s, s', p, h => by
    obtain ⟨rfl, rfl, rfl⟩ := ok_pure.1 h
    exact ⟨[], rfl, ⟨rfl, rfl⟩, fun b => by simp [FP.R, FP.W]⟩
  | o :: l, i, done, a, a', s, s', p, h => by
    rcases ok_evD_cons h with ⟨hw, x, s1, p1, q, h1, h2, h3, rfl⟩ | ⟨hw, h2, h3⟩
    · obtain ⟨sts, e1, e2, e3⟩ := evD_chain l h3
      refine ⟨⟨o, true, a, s, x, s1, p1⟩ :: sts, by simp [e1], ⟨rfl, rfl, ⟨hw, fun _ => h1, fun h => by cases h⟩, h2, e2⟩, fun b => ?_⟩
      simp only [FP.R, FP.W, (ofL_R _ b).1, (ofL_R _ b).2, (ofL_W _ b).1, (ofL_W _ b).2, (e3 b).1, (e3 b).2, List.mem_cons, exists_eq_or_imp, Stp.rd, Stp.wr, cond_true, or_false, false_or, and_self]
    · obtain ⟨sts, e1, e2, e3⟩ := evD_chain l h3
      refine ⟨⟨o, false, a, s, und, s, .nil⟩ :: sts, by simp [e1], ⟨rfl, rfl, ⟨hw, fun h => (by cases h), fun _ => ⟨rfl, rfl, rfl⟩⟩, h2, e2⟩, fun b => ?_⟩
      simp only [(e3 b).1, (e3 b).2, List.mem_cons, exists_eq_or_imp, Stp.rd, Stp.wr, cond_false, List.not_mem_nil, false_or, and_self]
end Go.Ev
/- The steps of a drawn region by their places. -/
namespace Go.Ev
variable {E : Env} {P : Program}
variable {call : FuncId → List SV → M SV} {yld : Nat → List SV → M SV}
theorem me_i (ops : Array Oper) (i : Nat) (t : Stp) : (t.me E ops i).i = i := by
  unfold Stp.me meOf outOf
  cases t.wt <;> rfl
theorem chain_done {ops : Array Oper} {bf : Array Nat} : ∀ {sts : List Stp} {i : Nat} {done : List OpR} {a a' : A} {s s' : HS}, Chain E call yld ops bf sts i done a s a' s' →
    ∀ k t, sts[k]? = some t → ∀ d ∈ done, (bf.getD (i + k) 0).testBit d.i = true ∨ apart d (t.me E ops (i + k)) t.s1 = true
  | [], i, done, a, a', s, s', h, k, t, hk, d, hd => by simp at hk
  | u :: l, i, done, a, a', s, s', h, k, t, hk, d, hd => by
    obtain ⟨_, _, _, h1, h2⟩ := h
    cases k with
    | zero => simp at hk; subst hk; exact h1 d hd
    | succ k =>
      rw [List.getElem?_cons_succ] at hk
      have := chain_done h2 k t hk d (List.mem_cons_of_mem _ hd)
      rwa [show i + 1 + k = i + (k + 1) by omega] at this
theorem chain_ord {ops : Array Oper} {bf : Array Nat} : ∀ {sts : List Stp} {i : Nat} {done : List OpR} {a a' : A} {s s' : HS}, Chain E call yld ops bf sts i done a s a' s' →
    ∀ j k u t, j < k → sts[j]? = some u → sts[k]? = some t → (bf.getD (i + k) 0).testBit (i + j) = true ∨ apart (u.me E ops (i + j)) (t.me E ops (i + k)) t.s1 = true
  | [], i, done, a, a', s, s', h, j, k, u, t, hjk, hj, hk => by simp at hk
  | v :: l, i, done, a, a', s, s', h, j, k, u, t, hjk, hj, hk => by
    obtain ⟨_, _, _, h1, h2⟩ := h
    cases k with
    | zero => omega
    | succ k =>
      rw [List.getElem?_cons_succ] at hk
      cases j with
      | zero =>
        simp at hj; subst hj
        have := chain_done h2 k t hk (v.me E ops i) List.mem_cons_self
        rw [me_i, show i + 1 + k = i + (k + 1) by omega] at this
        exact this
      | succ j =>
        rw [List.getElem?_cons_succ] at hj
        have := chain_ord h2 j k u t (by omega) hj hk
        rwa [show i + 1 + k = i + (k + 1) by omega, show i + 1 + j = i + (j + 1) by omega] at this
theorem chain_ok {ops : Array Oper} {bf : Array Nat} : ∀ {sts : List Stp} {i : Nat} {done : List OpR} {a a' : A} {s s' : HS}, Chain E call yld ops bf sts i done a s a' s' → ∀ t ∈ sts, StpOK E call yld ops t
  | [], i, done, a, a', s, s', h, t, ht => by cases ht
  | u :: l, i, done, a, a', s, s', h, t, ht => by
    obtain ⟨_, _, h0, _, h2⟩ := h
    rcases List.mem_cons.1 ht with rfl | ht
    · exact h0
    · exact chain_ok h2 t ht
/-- where step k begins -/
noncomputable def begA (sts : List Stp) (a : A) : Nat → A
  | 0 => a
  | k + 1 => match sts[k]? with
    | some t => t.a.put t.o t.x
    | none => a
def begS (sts : List Stp) (s : HS) : Nat → HS
  | 0 => s
  | k + 1 => match sts[k]? with
    | some t => t.s1
    | none => s
theorem beg_cons (u : Stp) (l : List Stp) (a : A) (s : HS) : ∀ k, k ≤ l.length → begA (u :: l) a (k + 1) = begA l u.a1 k ∧ begS (u :: l) s (k + 1) = begS l u.s1 k
  | 0, _ => ⟨rfl, rfl⟩
  | k + 1, h => by
    have hk : l[k]? = some (l[k]'(by omega)) := List.getElem?_eq_getElem (by omega)
    constructor
    · show (match (u :: l)[k + 1]? with
        | some t => t.a.put t.o t.x
        | none => a) = (match l[k]? with
        | some t => t.a.put t.o t.x
        | none => u.a1)
      rw [List.getElem?_cons_succ, hk]
    · show (match (u :: l)[k + 1]? with
        | some t => t.s1
        | none => s) = (match l[k]? with
        | some t => t.s1
        | none => u.s1)
      rw [List.getElem?_cons_succ, hk]
theorem chain_beg {ops : Array Oper} {bf : Array Nat} : ∀ {sts : List Stp} {i : Nat} {done : List OpR} {a a' : A} {s s' : HS}, Chain E call yld ops bf sts i done a s a' s' →
    (∀ k t, sts[k]? = some t → t.a = begA sts a k ∧ t.s = begS sts s k) ∧ a' = begA sts a sts.length ∧ s' = begS sts s sts.length
  | [], i, done, a, a', s, s', h => ⟨fun k t hk => by simp at hk, h.1.symm, h.2.symm⟩
  | u :: l, i, done, a, a', s, s', h => by
    obtain ⟨e1, e2, _, _, h2⟩ := h
    obtain ⟨g1, g2, g3⟩ := chain_beg h2
    refine ⟨fun k t hk => ?_, ?_, ?_⟩
    · cases k with
      | zero => simp at hk; subst hk; exact ⟨e1, e2⟩
      | succ k =>
        rw [List.getElem?_cons_succ] at hk
        have hlt := (List.getElem?_eq_some_iff.1 hk).1
        obtain ⟨b1, b2⟩ := beg_cons u l a s k (by omega)
        rw [b1, b2]
        exact g1 k t hk
    · rw [List.length_cons, (beg_cons u l a s l.length (Nat.le_refl _)).1]; exact g2
    · rw [List.length_cons, (beg_cons u l a s l.length (Nat.le_refl _)).2]; exact g3
end Go.Ev
/- What lies where a step begins: what the last that wrote there left. -/
namespace Go.Ev
variable {E : Env} {P : Program}
variable {call : FuncId → List SV → M SV} {yld : Nat → List SV → M SV}
def Stp.W (t : Stp) (b : Nat) : Prop := Wrt t.s t.s1 t.p1 b
def Stp.T (t : Stp) (b : Nat) : Prop := Tch t.s t.s1 t.p1 b
theorem stp_loc (hC : CallOK E P call) (hY : YldOK E P yld) {ops : Array Oper} {t : Stp} (h : StpOK E call yld ops t) : t.s.c ≤ t.s1.c ∧ ∀ b, ¬ t.W b → t.s1.h.get b = t.s.h.get b := by
  cases hw : t.wt with
  | true =>
    have l := loc_runX hC.loc hY.loc t.a t.o _ _ _ _ (h.run hw)
    exact ⟨l.le, l.same⟩
  | false =>
    obtain ⟨_, e, _⟩ := h.out hw
    rw [e]
    exact ⟨Nat.le_refl _, fun _ _ => rfl⟩
theorem beg_succ {sts : List Stp} {k : Nat} {t : Stp} (h : sts[k]? = some t) (a : A) (s : HS) : begA sts a (k + 1) = t.a1 ∧ begS sts s (k + 1) = t.s1 := by
  constructor
  · show (match sts[k]? with
      | some t => t.a.put t.o t.x
      | none => a) = _
    rw [h]; rfl
  · show (match sts[k]? with
      | some t => t.s1
      | none => s) = _
    rw [h]
section
variable {ops : Array Oper} {bf : Array Nat} {sts : List Stp} {i : Nat} {done : List OpR} {a a' : A} {s s' : HS}
theorem beg_le (hC : CallOK E P call) (hY : YldOK E P yld) (h : Chain E call yld ops bf sts i done a s a' s') (j : Nat) : ∀ k, j ≤ k → k ≤ sts.length → (begS sts s j).c ≤ (begS sts s k).c := by
  intro k
  induction k with
  | zero => intro hj _; rw [Nat.le_zero.1 hj]; exact Nat.le_refl _
  | succ k ih =>
    intro hj hk
    rcases Nat.lt_or_ge k j with hlt | hge
    · rw [show j = k + 1 by omega]; exact Nat.le_refl _
    · obtain ⟨t, ht⟩ : ∃ t, sts[k]? = some t := ⟨_, List.getElem?_eq_getElem (by omega)⟩
      rw [(beg_succ ht a s).2]
      have := (stp_loc hC hY (chain_ok h t (List.mem_of_getElem? ht))).1
      rw [((chain_beg h).1 k t ht).2] at this
      exact Nat.le_trans (ih hge (by omega)) this
theorem beg_gap (hC : CallOK E P call) (hY : YldOK E P yld) (h : Chain E call yld ops bf sts i done a s a' s') (b j : Nat) : ∀ k, j ≤ k → k ≤ sts.length → (∀ m t, j ≤ m → m < k → sts[m]? = some t → ¬ t.W b) →
    (begS sts s k).h.get b = (begS sts s j).h.get b := by
  intro k
  induction k with
  | zero => intro hj _ _; rw [Nat.le_zero.1 hj]
  | succ k ih =>
    intro hj hk hw
    rcases Nat.lt_or_ge k j with hlt | hge
    · rw [show j = k + 1 by omega]
    · obtain ⟨t, ht⟩ : ∃ t, sts[k]? = some t := ⟨_, List.getElem?_eq_getElem (by omega)⟩
      rw [(beg_succ ht a s).2, (stp_loc hC hY (chain_ok h t (List.mem_of_getElem? ht))).2 b (hw k t hge (Nat.lt_succ_self k) ht), ((chain_beg h).1 k t ht).2]
      exact ih hge (by omega) (fun m t h1 h2 h3 => hw m t h1 (by omega) h3)
theorem put_get {a : A} {o : Oper} {x : SV} {t : Nat} (ha : a.n ≤ top) (h : o.dst ≠ some t) : tmGet (a.put o x).tm t = tmGet a.tm t := by
  cases ho : o.dst with
  | none => rw [put_none ho]
  | some d =>
    rw [put_some ho]
    cases hd : Nat.blt d a.n with
    | false => rfl
    | true =>
      show tmGet (a.tm.upd 20 d (some x)) t = _
      rw [tmGet_upd (Nat.lt_of_lt_of_le (blt_true hd) ha), if_neg (fun e => h (by rw [ho, e]))]
theorem put_n (a : A) (o : Oper) (x : SV) : (a.put o x).n = a.n ∧ (a.put o x).df = a.df := by
  cases ho : o.dst with
  | none => rw [put_none ho]; exact ⟨rfl, rfl⟩
  | some d =>
    rw [put_some ho]
    cases hd : Nat.blt d a.n <;> exact ⟨rfl, rfl⟩
theorem beg_n (h : Chain E call yld ops bf sts i done a s a' s') : ∀ k, k ≤ sts.length → (begA sts a k).n = a.n ∧ (begA sts a k).df = a.df := by
  intro k
  induction k with
  | zero => intro _; exact ⟨rfl, rfl⟩
  | succ k ih =>
    intro hk
    obtain ⟨t, ht⟩ : ∃ t, sts[k]? = some t := ⟨_, List.getElem?_eq_getElem (by omega)⟩
    rw [(beg_succ ht a s).1]
    obtain ⟨e1, e2⟩ := put_n t.a t.o t.x
    obtain ⟨g1, g2⟩ := ih (by omega)
    have := ((chain_beg h).1 k t ht).1
    exact ⟨e1.trans (this ▸ g1), e2.trans (this ▸ g2)⟩
theorem beg_gapT (h : Chain E call yld ops bf sts i done a s a' s') (ha : a.n ≤ top) (b j : Nat) : ∀ k, j ≤ k → k ≤ sts.length → (∀ m t, j ≤ m → m < k → sts[m]? = some t → t.o.dst ≠ some b) →
    tmGet (begA sts a k).tm b = tmGet (begA sts a j).tm b := by
  intro k
  induction k with
  | zero => intro hj _ _; rw [Nat.le_zero.1 hj]
  | succ k ih =>
    intro hj hk hw
    rcases Nat.lt_or_ge k j with hlt | hge
    · rw [show j = k + 1 by omega]
    · obtain ⟨t, ht⟩ : ∃ t, sts[k]? = some t := ⟨_, List.getElem?_eq_getElem (by omega)⟩
      have e := ((chain_beg h).1 k t ht).1
      have hn : t.a.n ≤ top := by rw [e, (beg_n h k (by omega)).1]; exact ha
      rw [(beg_succ ht a s).1]
      show tmGet (t.a.put t.o t.x).tm b = _
      rw [put_get hn (hw k t hge (Nat.lt_succ_self k) ht), e]
      exact ih hge (by omega) (fun m t h1 h2 h3 => hw m t h1 (by omega) h3)
end
end Go.Ev
/- Steps that stand apart touch nothing that the other writes. -/
namespace Go.Ev
variable {E : Env} {P : Program}
theorem memR_iff (l : List Nat) (x : Nat) : memR l x = true ↔ x ∈ l := by
  induction l with
  | nil => exact ⟨fun h => (by cases h), fun h => (by cases h)⟩
  | cons y l ih =>
    show (Bool.rec (memR l x) true (Nat.beq y x) : Bool) = true ↔ _
    cases h : Nat.beq y x with
    | true => have := beq_true h; subst this; simp
    | false =>
      have hne : x ≠ y := by rintro rfl; simp at h
      simp [ih, hne]
theorem addN_iff (c0 c1 x : Nat) (l : List Nat) (b : Nat) : b ∈ addN c0 c1 x l ↔ b ∈ l ∨ (b = x ∧ (b < c0 ∨ c1 ≤ b)) := by
  unfold addN
  have ho : (Nat.blt x c0 || Nat.ble c1 x) = true ↔ (x < c0 ∨ c1 ≤ x) := by
    rw [Bool.or_eq_true]
    constructor
    · rintro (h | h)
      · exact Or.inl (blt_true h)
      · exact Or.inr (ble_true h)
    · rintro (h | h)
      · exact Or.inl (by unfold Nat.blt; exact Nat.ble_eq_true_of_le h)
      · exact Or.inr (Nat.ble_eq_true_of_le h)
  cases hc : (Nat.blt x c0 || Nat.ble c1 x) && !memR l x with
  | true =>
    rw [Bool.and_eq_true] at hc
    have h1 := ho.1 hc.1
    simp only [cond_true, List.mem_cons]
    constructor
    · rintro (rfl | h)
      · exact Or.inr ⟨rfl, h1⟩
      · exact Or.inl h
    · rintro (h | ⟨rfl, _⟩)
      · exact Or.inr h
      · exact Or.inl rfl
  | false =>
    simp only [cond_false]
    constructor
    · exact Or.inl
    · rintro (h | ⟨rfl, h⟩)
      · exact h
      · rw [Bool.and_eq_false_iff] at hc
        rcases hc with hc | hc
        · rw [ho.2 h] at hc; cases hc
        · have : memR l b = true := by simpa using hc
          exact (memR_iff l b).1 this
theorem rds_iff (c0 c1 : Nat) (b : Nat) : ∀ (p : FP) (l : List Nat), b ∈ FP.rds c0 c1 p l ↔ b ∈ l ∨ (p.R b ∧ (b < c0 ∨ c1 ≤ b))
  | .nil, l => ⟨Or.inl, fun h => h.elim id (fun h => h.1.elim)⟩
  | .r x, l => addN_iff c0 c1 x l b
  | .w x, l => ⟨Or.inl, fun h => h.elim id (fun h => h.1.elim)⟩
  | .app p q, l => by
    show b ∈ FP.rds c0 c1 q (FP.rds c0 c1 p l) ↔ _
    rw [rds_iff c0 c1 b q, rds_iff c0 c1 b p]
    simp only [FP.R, or_assoc, or_and_right]
theorem wrs_iff (c0 c1 : Nat) (b : Nat) : ∀ (p : FP) (l : List Nat), b ∈ FP.wrs c0 c1 p l ↔ b ∈ l ∨ (p.W b ∧ (b < c0 ∨ c1 ≤ b))
  | .nil, l => ⟨Or.inl, fun h => h.elim id (fun h => h.1.elim)⟩
  | .r x, l => ⟨Or.inl, fun h => h.elim id (fun h => h.1.elim)⟩
  | .w x, l => addN_iff c0 c1 x l b
  | .app p q, l => by
    show b ∈ FP.wrs c0 c1 q (FP.wrs c0 c1 p l) ↔ _
    rw [wrs_iff c0 c1 b q, wrs_iff c0 c1 b p]
    simp only [FP.W, or_assoc, or_and_right]
theorem stp_iff {xs ys : List Nat} (h : stp xs ys = true) : ∀ b, b ∈ xs → b ∉ ys := by
  unfold stp at h
  rw [allR_eq, List.all_eq_true] at h
  intro b hb hy
  have := h b hb
  rw [(memR_iff ys b).2 hy] at this
  cases this
theorem out_iff {c0 c1 : Nat} {xs : List Nat} (h : out c0 c1 xs = true) : ∀ b, b ∈ xs → b < c0 ∨ c1 ≤ b := by
  unfold out at h
  rw [allR_eq, List.all_eq_true] at h
  intro b hb
  have := h b hb
  rw [Bool.or_eq_true] at this
  rcases this with h | h
  · exact Or.inl (blt_true h)
  · exact Or.inr (ble_true h)
end Go.Ev
/- Steps that stand apart: in terms of blocks. -/
namespace Go.Ev
variable {E : Env} {P : Program}
variable {call : FuncId → List SV → M SV} {yld : Nat → List SV → M SV} {ops : Array Oper}
theorem me_wanted {t : Stp} (h : t.wt = true) (i : Nat) : t.me E ops i = meOf E ops t.a t.o i t.s t.x t.s1 t.p1 := by unfold Stp.me; rw [h]; rfl
theorem none_W {t : Stp} (ht : StpOK E call yld ops t) (h : t.wt = false) (b : Nat) : ¬ t.W b ∧ ¬ t.T b := by
  obtain ⟨_, e1, e2⟩ := ht.out h
  unfold Stp.W Stp.T Wrt Tch
  rw [e1, e2]
  simp only [FP.W, FP.R, false_or]
  exact ⟨fun h => by omega, fun h => by omega⟩
theorem near_mem {u t : Stp} {i k : Nat} (hu : StpOK E call yld ops u) (ht : StpOK E call yld ops t) (hle : u.s1.c ≤ t.s.c) (h : near (u.me E ops i) (t.me E ops k) = true) (b : Nat) : (u.W b → ¬ t.T b) ∧ (t.W b → ¬ u.T b) := by
  cases hwu : u.wt with
  | false => exact ⟨fun h => ((none_W hu hwu b).1 h).elim, fun _ h => (none_W hu hwu b).2 h⟩
  | true =>
  cases hwt : t.wt with
  | false => exact ⟨fun _ h => (none_W ht hwt b).2 h, fun h => ((none_W ht hwt b).1 h).elim⟩
  | true =>
  rw [me_wanted hwu, me_wanted hwt] at h
  unfold near meOf at h
  simp only [Bool.and_eq_true] at h
  obtain ⟨⟨⟨⟨⟨⟨h1, h2⟩, h3⟩, h4⟩, h5⟩, h6⟩, h7⟩ := h
  have g1 := stp_iff h1 b
  have g2 := stp_iff h2 b
  have g3 := stp_iff h3 b
  have g4 := out_iff h4 b
  have g5 := out_iff h5 b
  have g6 := out_iff h6 b
  have g7 := out_iff h7 b
  simp only [rds_iff, wrs_iff, List.not_mem_nil, false_or] at g1 g2 g3 g4 g5 g6 g7
  constructor
  · rintro (hw | hw) (ht | ht | ht)
    · by_cases hb : b < u.s.c ∨ u.s1.c ≤ b
      · by_cases hb2 : b < t.s.c ∨ t.s1.c ≤ b
        · exact g2 ⟨hw, hb⟩ ⟨ht, hb2⟩
        · exact hb2 (g7 ⟨hw, hb⟩)
      · exact hb (g4 ⟨ht, by omega⟩)
    · by_cases hb : b < u.s.c ∨ u.s1.c ≤ b
      · by_cases hb2 : b < t.s.c ∨ t.s1.c ≤ b
        · exact g1 ⟨hw, hb⟩ ⟨ht, hb2⟩
        · exact hb2 (g7 ⟨hw, hb⟩)
      · exact hb (g5 ⟨ht, by omega⟩)
    · have := g7 ⟨hw, by omega⟩; omega
    · have := g4 ⟨ht, by omega⟩; omega
    · have := g5 ⟨ht, by omega⟩; omega
    · omega
  · rintro (hw | hw) (ht | ht | ht)
    · by_cases hb : b < t.s.c ∨ t.s1.c ≤ b
      · by_cases hb2 : b < u.s.c ∨ u.s1.c ≤ b
        · exact g3 ⟨hw, hb⟩ ⟨ht, hb2⟩
        · exact hb2 (g5 ⟨hw, hb⟩)
      · exact hb (g6 ⟨ht, by omega⟩)
    · by_cases hb : b < t.s.c ∨ t.s1.c ≤ b
      · by_cases hb2 : b < u.s.c ∨ u.s1.c ≤ b
        · exact g1 ⟨ht, hb2⟩ ⟨hw, hb⟩
        · exact hb2 (g5 ⟨hw, hb⟩)
      · exact hb (g7 ⟨ht, by omega⟩)
    · have := g5 ⟨hw, by omega⟩; omega
    · have := g6 ⟨ht, by omega⟩; omega
    · have := g7 ⟨ht, by omega⟩; omega
    · omega
end Go.Ev
/- The temporaries that an operation names. -/
namespace Go.Ev
variable {E : Env} {P : Program} {ops : Array Oper}
theorem freeT_iff {d : Option Nat} {l : List Nat} (h : freeT d l = true) : ∀ x, d = some x → x ∉ l := by
  rintro x rfl hx
  have h : (!memR l x) = true := h
  rw [(memR_iff l x).2 hx] at h
  cases h
theorem tmpsR_mem (t : Nat) : ∀ (l : List Operand) (acc : List Nat), (t ∈ acc ∨ .tmp t ∈ l) → t ∈ tmpsR l acc
  | [], acc, h => h.elim id (fun h => by cases h)
  | o :: l, acc, h => by
    show t ∈ (match o with
      | .tmp t => t :: tmpsR l acc
      | _ => tmpsR l acc)
    have ih := tmpsR_mem t l acc
    rcases h with h | h
    · cases o with
      | tmp y => exact List.mem_cons_of_mem _ (ih (Or.inl h))
      | _ => exact ih (Or.inl h)
    · rcases List.mem_cons.1 h with rfl | h2
      · exact List.mem_cons_self
      · cases o with
        | tmp y => exact List.mem_cons_of_mem _ (ih (Or.inr h2))
        | _ => exact ih (Or.inr h2)
theorem names_op {o : Oper} {t : Nat} (h : Operand.tmp t ∈ o.op.operands) : t ∈ namesR ops o := tmpsR_mem t _ _ (Or.inr (by simpa using h))
theorem names_dst {o : Oper} {t : Nat} (h : o.dst = some t) : t ∈ namesR ops o := by
  refine tmpsR_mem t _ _ (Or.inl ?_)
  rw [h]
  exact List.mem_cons_self
theorem names_guard {o : Oper} {t : Nat} (h : t ∈ guardT ops o) : t ∈ namesR ops o := by
  refine tmpsR_mem t _ _ (Or.inl ?_)
  cases o.dst with
  | none => exact h
  | some d => exact List.mem_cons_of_mem _ h
theorem want_congr {o : Oper} {tm tm' : T SV} (h : ∀ t ∈ guardT ops o, tmGet tm t = tmGet tm' t) : want ops tm o = want ops tm' o := by
  unfold want
  cases hg : o.guard with
  | none => rfl
  | some q =>
    obtain ⟨j, w⟩ := q
    simp only
    cases hd : (ops[j]?).bind (·.dst) with
    | none => rfl
    | some d =>
      have hm : d ∈ guardT ops o := by unfold guardT; rw [hg]; simp only [hd]; exact List.mem_cons_self
      simp only [h d hm]
theorem apart_T {a b : OpR} {s : HS} (h : apart a b s = true) : (∀ x, a.ds = some x → x ∉ b.ns) ∧ (∀ x, b.ds = some x → x ∉ a.ns) := by
  unfold apart at h
  rw [Bool.and_eq_true, Bool.and_eq_true] at h
  exact ⟨freeT_iff h.1.1, freeT_iff h.1.2⟩
end Go.Ev
/- A region whose order is drawn: its run hangs on what it touches alone. -/
namespace Go.Ev
variable {E : Env} {P : Program} {s s' : HS} {p : FP} {ν : Nu} {V : Nat → Prop} {w : World}
variable {call : FuncId → List SV → M SV} {yld : Nat → List SV → M SV}
/-- a look-up that is asked again looks at the same block alone -/
def AgainOK (d : OpR) : Prop := ∀ (s : HS) (h3 : T AObj), d.again s = true → (∀ b ∈ d.rd, h3.get b = s.h.get b) → d.again ⟨h3, s.c⟩ = true ∧ ∃ b, d.rd = [b]
theorem ok_againX {a : A} {o : Oper} {rd : List Nat} {x : SV} (h : againX E a o rd x s = true) :
    ∃ y s1 p b, Ok (exec E (evalO E a.tm) o) s (.val y) s1 p ∧ sameSV x y = true ∧ s1.c = s.c ∧ rd = [b] ∧ FP.rds 0 0 p [] = [b] ∧ FP.wrs 0 0 p [] = [] := by
  unfold againX at h
  cases hr : (exec E (evalO E a.tm) o s).run with
  | none => rw [hr] at h; cases h
  | some r =>
    obtain ⟨n, s1, p⟩ := r
    rw [hr] at h
    replace h : (isNext x n && Nat.beq s1.c s.c && (match (generalizing := false) FP.rds 0 0 p [], FP.wrs 0 0 p [], rd with
      | [b], [], [b'] => Nat.beq b b'
      | _, _, _ => false)) = true := h
    rw [Bool.and_eq_true, Bool.and_eq_true] at h
    obtain ⟨⟨h1, h2⟩, h3⟩ := h
    cases n with
    | val y =>
      split at h3
      · rename_i b b' e1 e2
        have := beq_true h3
        subst this
        exact ⟨y, s1, p, b, hr, h1, beq_true h2, rfl, e1, e2⟩
      · cases h3
    | _ => cases h1
theorem againX_of {a : A} {o : Oper} {rd : List Nat} {x y : SV} {s1 : HS} {b : Nat} (h : Ok (exec E (evalO E a.tm) o) s (.val y) s1 p) (h1 : sameSV x y = true) (h2 : s1.c = s.c) (h3 : rd = [b]) (h4 : FP.rds 0 0 p [] = [b]) (h5 : FP.wrs 0 0 p [] = []) :
    againX E a o rd x s = true := by
  have hr : (exec E (evalO E a.tm) o s).run = some (.val y, s1, p) := h
  unfold againX
  rw [hr]
  show (isNext x (.val y) && Nat.beq s1.c s.c && (match (generalizing := false) FP.rds 0 0 p [], FP.wrs 0 0 p [], rd with
      | [b], [], [b'] => Nat.beq b b'
      | _, _, _ => false)) = true
  rw [h4, h5, h3, h2]
  have e : isNext x (.val y) = true := h1
  rw [e]
  simp
/-- what it touches -/
theorem again_tch {s1 : HS} {b : Nat} (h2 : s1.c = s.c) (h4 : FP.rds 0 0 p [] = [b]) (h5 : FP.wrs 0 0 p [] = []) : ∀ b0, (Tch s s1 p b0 → b0 = b) ∧ ¬ Wrt s s1 p b0 := by
  intro b0
  have hw : ¬ p.W b0 := fun h => by
    have := (wrs_iff 0 0 b0 p []).2 (Or.inr ⟨h, Or.inr (Nat.zero_le _)⟩)
    rw [h5] at this; cases this
  have hi : ¬ (s.c ≤ b0 ∧ b0 < s1.c) := by omega
  refine ⟨?_, fun h => h.elim hw hi⟩
  rintro (h | h | h)
  · have := (rds_iff 0 0 b0 p []).2 (Or.inr ⟨h, Or.inr (Nat.zero_le _)⟩)
    rw [h4] at this
    simpa using this
  · exact (hw h).elim
  · exact (hi h).elim
theorem again_me (ops : Array Oper) (a : A) (o : Oper) (i : Nat) (s0 : HS) (x : SV) (s1 : HS) (p1 : FP) : AgainOK (meOf E ops a o i s0 x s1 p1) := by
  intro s h3 h hh
  have h : againX E a o (FP.rds s0.c s1.c p1 []) x s = true := h
  obtain ⟨y, s2, q, b, h1, h2, h4, h5, h6, h7⟩ := ok_againX h
  refine ⟨?_, b, h5⟩
  have l := loc_exec E (evalO E a.tm) o _ _ _ _ h1
  obtain ⟨h8, ho, _⟩ := l.again h3 (fun b0 hb => hh b0 (by
    show b0 ∈ FP.rds s0.c s1.c p1 []
    rw [h5, ((again_tch h4 h6 h7 b0).1 hb)]
    exact List.mem_singleton_self _))
  exact againX_of (s := ⟨h3, s.c⟩) ho h2 h4 h5 h6 h7
theorem again_out (ops : Array Oper) (o : Oper) (i : Nat) : AgainOK (outOf ops o i) := fun s h3 h => by cases h
theorem nilR_iff {l : List Nat} (h : nilR l = true) : l = [] := by
  cases l with
  | nil => rfl
  | cons x l => cases h
theorem stp_of {xs ys : List Nat} (h : ∀ b, b ∈ xs → b ∉ ys) : stp xs ys = true := by
  unfold stp
  rw [allR_eq, List.all_eq_true]
  intro b hb
  have := h b hb
  rw [← memR_iff] at this
  simpa using this
theorem out_of {c0 c1 : Nat} {xs : List Nat} (h : ∀ b, b ∈ xs → b < c0 ∨ c1 ≤ b) : out c0 c1 xs = true := by
  unfold out
  rw [allR_eq, List.all_eq_true]
  intro b hb
  rw [Bool.or_eq_true]
  rcases h b hb with h | h
  · left; unfold Nat.blt; exact Nat.ble_eq_true_of_le h
  · right; exact Nat.ble_eq_true_of_le h
/-- a look-up ahead of an entry, taken apart -/
theorem quiet_near {a b : OpR} (h : quiet a b = true) : near a b = true := by
  unfold quiet at h
  simp only [Bool.and_eq_true] at h
  obtain ⟨h1, h2, h3, h4⟩ := h
  have h1 := nilR_iff h1
  have h2 := nilR_iff h2
  have h3 := beq_true h3
  have h4 := beq_true h4
  unfold near
  rw [h1, h2]
  simp only [Bool.and_eq_true]
  exact ⟨⟨⟨⟨⟨⟨rfl, rfl⟩, rfl⟩, out_of (fun x _ => by omega)⟩, rfl⟩, out_of (fun x _ => by omega)⟩, rfl⟩
theorem apart_cases {a b : OpR} (h : apart a b s = true) : near a b = true ∨ (near a b = false ∧ a.k = 1 ∧ b.k = 2 ∧ a.wr = [] ∧ a.c0 = a.c1 ∧ a.again s = true) := by
  unfold apart at h
  rw [Bool.and_eq_true] at h
  have h := h.2
  cases hn : near a b with
  | true => exact Or.inl rfl
  | false =>
    have hq : quiet a b = false := by
      cases hq : quiet a b with
      | false => rfl
      | true => rw [quiet_near hq] at hn; cases hn
    rw [hn, hq, Bool.false_or, Bool.false_or] at h
    simp only [Bool.and_eq_true] at h
    obtain ⟨⟨⟨⟨h1, h2⟩, h3⟩, h4⟩, h5⟩ := h
    exact Or.inr ⟨rfl, beq_true h1, beq_true h2, nilR_iff h3, beq_true h4, h5⟩
theorem near_wr {a b : OpR} (h : near a b = false) (h1 : a.wr = []) (h2 : a.c0 = a.c1) : ∃ x ∈ a.rd, x ∈ b.wr ∨ (b.c0 ≤ x ∧ x < b.c1) := by
  apply Classical.byContradiction
  intro hn
  have hn : ∀ x ∈ a.rd, ¬ (x ∈ b.wr ∨ (b.c0 ≤ x ∧ x < b.c1)) := fun x hx hc => hn ⟨x, hx, hc⟩
  have : near a b = true := by
    unfold near
    rw [h1, h2]
    simp only [Bool.and_eq_true]
    refine ⟨⟨⟨⟨⟨⟨rfl, rfl⟩, stp_of (fun x hx hr => hn x hr (Or.inl hx))⟩, out_of (fun x _ => by omega)⟩, out_of (fun x _ => by omega)⟩, out_of (fun x hx => ?_)⟩, rfl⟩
    have := hn x hx
    by_cases hc : x < b.c0
    · exact Or.inl hc
    · exact Or.inr (by
        rcases Nat.lt_or_ge x b.c1 with h | h
        · exact absurd (Or.inr ⟨by omega, h⟩) this
        · exact h)
  rw [this] at h
  cases h
/-- the check passes again where the younger's own writes stand -/
theorem apart_again {d me : OpR} {h3 : T AObj} (h : apart d me s = true) (hd : AgainOK d) (hh : ∀ b, b ∈ me.wr ∨ (me.c0 ≤ b ∧ b < me.c1) → h3.get b = s.h.get b) : apart d me ⟨h3, s.c⟩ = true := by
  have h0 := h
  unfold apart at h0 ⊢
  rw [Bool.and_eq_true] at h0 ⊢
  refine ⟨h0.1, ?_⟩
  rcases apart_cases h with hn | ⟨hn, k1, k2, hw, hc, ha⟩
  · rw [hn]; simp
  · obtain ⟨x, hx, hxm⟩ := near_wr hn hw hc
    obtain ⟨_, b, hb⟩ := hd s s.h ha (fun _ _ => rfl)
    have hxb : x = b := by rw [hb] at hx; simpa using hx
    have := (hd s h3 ha (fun b' hb' => by
      rw [hb] at hb'
      have e : b' = b := by simpa using hb'
      rw [e, ← hxb]
      exact hh x hxm)).1
    rw [k1, k2, hw, hc, this]
    simp [nilR]
theorem ok_evD_mk {ops : Array Oper} {bf : Array Nat} {o : Oper} {l : List Oper} {i : Nat} {done : List OpR} {a a' : A} {x : SV} {s1 : HS} {p1 q : FP} (hw : want ops a.tm o = true) (h1 : Ok (runX E call yld a o) s x s1 p1)
    (h2 : ∀ d ∈ done, (bf.getD i 0).testBit d.i = true ∨ apart d (meOf E ops a o i s x s1 p1) s1 = true) (h3 : Ok (evD E call yld ops bf l (i + 1) (meOf E ops a o i s x s1 p1 :: done) (a.put o x)) s1 a' s' q) :
    Ok (evD E call yld ops bf (o :: l) i done a) s a' s' (.app (.app (FP.ofL .r (FP.rds s.c s1.c p1 [])) (FP.ofL .w (FP.wrs s.c s1.c p1 []))) q) := by
  refine ok_br.2 (Or.inl ⟨hw, ?_⟩)
  show (((runX E call yld a o s).bind fun x s1 p1 =>
      bif allR (fun d => bitR (bf.getD i 0) d.i || apart d (meOf E ops a o i s x s1 p1) s1) done then (evD E call yld ops bf l (i + 1) (meOf E ops a o i s x s1 p1 :: done) (a.put o x) s1).bind fun b s2 q => .ret b s2 (FP.app (FP.app (FP.ofL .r (FP.rds s.c s1.c p1 [])) (FP.ofL .w (FP.wrs s.c s1.c p1 []))) q) else .fail "order")).run = some (a', s', _)
  have h1 : (runX E call yld a o s).run = some (x, s1, p1) := h1
  have h3 : (evD E call yld ops bf l (i + 1) (meOf E ops a o i s x s1 p1 :: done) (a.put o x) s1).run = some (a', s', q) := h3
  have hall : allR (fun d => bitR (bf.getD i 0) d.i || apart d (meOf E ops a o i s x s1 p1) s1) done = true := by
    rw [allR_eq, List.all_eq_true]
    intro d hd
    simpa [bitR_eq] using h2 d hd
  rw [Tr.run_bind, h1]
  simp only [Option.bind_some, hall, cond_true]
  rw [Tr.run_bind, h3]
  rfl
theorem ok_evD_skip {ops : Array Oper} {bf : Array Nat} {o : Oper} {l : List Oper} {i : Nat} {done : List OpR} {a a' : A} (hw : want ops a.tm o = false)
    (h2 : ∀ d ∈ done, (bf.getD i 0).testBit d.i = true ∨ apart d (outOf ops o i) s = true) (h3 : Ok (evD E call yld ops bf l (i + 1) (outOf ops o i :: done) (a.put o und)) s a' s' p) :
    Ok (evD E call yld ops bf (o :: l) i done a) s a' s' p := by
  refine ok_br.2 (Or.inr ⟨hw, ?_⟩)
  have hall : allR (fun d => bitR (bf.getD i 0) d.i || apart d (outOf ops o i) s) done = true := by
    rw [allR_eq, List.all_eq_true]
    intro d hd
    simpa [bitR_eq] using h2 d hd
  show (bif allR (fun d => bitR (bf.getD i 0) d.i || apart d (outOf ops o i) s) done then evD E call yld ops bf l (i + 1) (outOf ops o i :: done) (a.put o und) s else .fail "order: left out").run = some (a', s', p)
  rw [hall]
  exact h3
/-- the log of a step, outside its own numbers -/
theorem flt_R (s s1 : HS) (p1 : FP) (b : Nat) : ((FP.app (FP.ofL .r (FP.rds s.c s1.c p1 [])) (FP.ofL .w (FP.wrs s.c s1.c p1 []))).R b ↔ p1.R b ∧ (b < s.c ∨ s1.c ≤ b)) ∧
    ((FP.app (FP.ofL .r (FP.rds s.c s1.c p1 [])) (FP.ofL .w (FP.wrs s.c s1.c p1 []))).W b ↔ p1.W b ∧ (b < s.c ∨ s1.c ≤ b)) := by
  simp only [FP.R, FP.W, (ofL_R _ b).1, (ofL_R _ b).2, (ofL_W _ b).1, (ofL_W _ b).2, rds_iff, wrs_iff, List.not_mem_nil, false_or, or_false, and_self]
theorem loc_evD (hC : ∀ f as, Loc (call f as)) (hY : ∀ l as, Loc (yld l as)) (ops : Array Oper) (bf : Array Nat) : ∀ (l : List Oper) (i : Nat) (done : List OpR) (a : A), (∀ d ∈ done, AgainOK d) → Loc (evD E call yld ops bf l i done a)
  | [], i, done, a, _ => loc_pure _
  | o :: l, i, done, a, hd => by
    intro s a' s' p h
    rcases ok_evD_cons h with ⟨hw, x, s1, p1, q, h1, h2, h3, rfl⟩ | ⟨hw, h2, h3⟩
    · have l1 := loc_runX hC hY a o _ _ _ _ h1
      have hd' : ∀ d ∈ meOf E ops a o i s x s1 p1 :: done, AgainOK d := fun d hm => by
        rcases List.mem_cons.1 hm with rfl | hm
        · exact again_me _ _ _ _ _ _ _ _
        · exact hd d hm
      have l2 := loc_evD hC hY ops bf l (i + 1) _ (a.put o x) hd' _ _ _ _ h3
      have fR := fun b => (flt_R s s1 p1 b).1
      have fW := fun b => (flt_R s s1 p1 b).2
      generalize hp1' : FP.app (FP.ofL .r (FP.rds s.c s1.c p1 [])) (FP.ofL .w (FP.wrs s.c s1.c p1 [])) = p1' at fR fW h ⊢
      have w1 : ∀ b, Wrt s s1 p1 b → Wrt s s' (p1'.app q) b := by
        rintro b (hb | hb)
        · by_cases hi : b < s.c ∨ s1.c ≤ b
          · exact .inl (.inl ((fW b).2 ⟨hb, hi⟩))
          · exact .inr ⟨by omega, Nat.lt_of_lt_of_le (by omega) l2.le⟩
        · exact .inr ⟨hb.1, Nat.lt_of_lt_of_le hb.2 l2.le⟩
      have w2 : ∀ b, Wrt s1 s' q b → Wrt s s' (p1'.app q) b := by
        rintro b (hb | hb)
        · exact .inl (.inr hb)
        · exact .inr ⟨Nat.le_trans l1.le hb.1, hb.2⟩
      have w3 : ∀ b, Wrt s s' (p1'.app q) b → ¬ Wrt s1 s' q b → Wrt s s1 p1 b := by
        rintro b ((hb | hb) | hb) hn
        · exact .inl ((fW b).1 hb).1
        · exact (hn (.inl hb)).elim
        · by_cases hc : b < s1.c
          · exact .inr ⟨hb.1, hc⟩
          · exact (hn (.inr ⟨by omega, hb.2⟩)).elim
      have hold : ∀ b, (p1'.app q).W b → (∃ o, s.h.get b = some o) ∨ (s.c ≤ b ∧ b < s'.c) := by
        have one : ∀ b, p1.W b → (∃ o, s.h.get b = some o) ∨ (s.c ≤ b ∧ b < s'.c) := fun b hb => by
          rcases l1.old b hb with h | h
          · exact Or.inl h
          · exact Or.inr ⟨h.1, Nat.lt_of_lt_of_le h.2 l2.le⟩
        rintro b (hb | hb)
        · exact one b ((fW b).1 hb).1
        · rcases l2.old b hb with ⟨o, ho⟩ | h
          · by_cases hw : Wrt s s1 p1 b
            · rcases hw with hw | hw
              · exact one b hw
              · exact Or.inr ⟨hw.1, Nat.lt_of_lt_of_le hw.2 l2.le⟩
            · exact Or.inl ⟨o, (l1.same b hw) ▸ ho⟩
          · exact Or.inr ⟨Nat.le_trans l1.le h.1, h.2⟩
      refine ⟨Nat.le_trans l1.le l2.le, hold, fun b hb => (l2.same b (fun h => hb (w2 b h))).trans (l1.same b (fun h => hb (w1 b h))), fun h0 hh => ?_⟩
      have t1 : ∀ b, Tch s s1 p1 b → Tch s s' (p1'.app q) b := by
        rintro b (hb | hb | hb)
        · by_cases hi : b < s.c ∨ s1.c ≤ b
          · exact .inl (.inl ((fR b).2 ⟨hb, hi⟩))
          · exact .inr (.inr ⟨by omega, Nat.lt_of_lt_of_le (by omega) l2.le⟩)
        · exact (w1 b (.inl hb)).elim (fun h => .inr (.inl h)) (fun h => .inr (.inr h))
        · exact .inr (.inr ⟨hb.1, Nat.lt_of_lt_of_le hb.2 l2.le⟩)
      have t2 : ∀ b, Tch s1 s' q b → Tch s s' (p1'.app q) b := by
        rintro b (hb | hb | hb)
        · exact .inl (.inr hb)
        · exact .inr (.inl (.inr hb))
        · exact .inr (.inr ⟨Nat.le_trans l1.le hb.1, hb.2⟩)
      obtain ⟨h3', o3, g3⟩ := l1.again h0 (fun b hb => hh b (t1 b hb))
      obtain ⟨h4, o4, g4⟩ := l2.again h3' (fun b hb => by
        by_cases hw : Wrt s s1 p1 b
        · exact (g3 b).1 hw
        · exact ((g3 b).2 hw).trans ((hh b (t2 b hb)).trans (l1.same b hw).symm))
      refine ⟨h4, ?_, fun b => ⟨fun hb => ?_, fun hb => ((g4 b).2 (fun h => hb (w2 b h))).trans ((g3 b).2 (fun h => hb (w1 b h)))⟩⟩
      · subst hp1'
        refine ok_evD_mk (s := ⟨h0, s.c⟩) (s1 := ⟨h3', s1.c⟩) hw o3 (fun d hdm => ?_) o4
        rcases h2 d hdm with hb | hb
        · exact Or.inl hb
        · refine Or.inr (apart_again hb (hd d hdm) (fun b hb => (g3 b).1 ?_))
          rcases hb with hb | hb
          · have hb : b ∈ FP.wrs s.c s1.c p1 [] := hb
            rw [wrs_iff] at hb
            exact .inl (hb.elim (fun h => by cases h) (fun h => h.1))
          · exact .inr hb
      · by_cases hw : Wrt s1 s' q b
        · exact (g4 b).1 hw
        · refine ((g4 b).2 hw).trans (Eq.trans ?_ (l2.same b hw).symm)
          exact (g3 b).1 (w3 b hb hw)
    · have hd' : ∀ d ∈ outOf ops o i :: done, AgainOK d := fun d hm => by
        rcases List.mem_cons.1 hm with rfl | hm
        · exact again_out _ _ _
        · exact hd d hm
      have l2 := loc_evD hC hY ops bf l (i + 1) _ (a.put o und) hd' _ _ _ _ h3
      refine ⟨l2.le, l2.old, l2.same, fun h0 hh => ?_⟩
      obtain ⟨h4, o4, g4⟩ := l2.again h0 hh
      refine ⟨h4, ok_evD_skip (s := ⟨h0, s.c⟩) hw (fun d hdm => ?_) o4, g4⟩
      rcases h2 d hdm with hb | hb
      · exact Or.inl hb
      · refine Or.inr (apart_again hb (hd d hdm) (fun b hb => ?_))
        rcases hb with hb | hb
        · cases hb
        · have : b < 0 := hb.2
          omega
end Go.Ev
/- What comes ahead of an operation of a drawn region. -/
namespace Go.Ev
variable {ops : Array Oper} {L : Array Bool}
def oneB (look : Nat → Nat) (o : Oper) : Nat := o.after.foldl (fun s e => if Region.binds .any e then s ||| 2 ^ e.on ||| look e.on else s) 0
theorem oneB_bit (look : Nat → Nat) (o : Oper) (j : Nat) : (oneB look o).testBit j = true ↔ ∃ e ∈ o.after, Region.binds .any e = true ∧ (j = e.on ∨ (look e.on).testBit j = true) := by
  unfold oneB
  rw [← Array.foldl_toList]
  have key : ∀ (l : List Edge) (s : Nat), (l.foldl (fun s e => if Region.binds .any e then s ||| 2 ^ e.on ||| look e.on else s) s).testBit j = true ↔ s.testBit j = true ∨ ∃ e ∈ l, Region.binds .any e = true ∧ (j = e.on ∨ (look e.on).testBit j = true) := by
    intro l
    induction l with
    | nil => intro s; simp
    | cons e l ih =>
      intro s
      rw [List.foldl_cons, ih]
      cases hb : Region.binds .any e with
      | true =>
        simp only [if_true, Nat.testBit_or, Bool.or_eq_true, Nat.testBit_two_pow, decide_eq_true_eq]
        constructor
        · rintro (((h | h) | h) | ⟨e', he, h1, h2⟩)
          · exact Or.inl h
          · exact Or.inr ⟨e, List.mem_cons_self, hb, Or.inl h.symm⟩
          · exact Or.inr ⟨e, List.mem_cons_self, hb, Or.inr h⟩
          · exact Or.inr ⟨e', List.mem_cons_of_mem _ he, h1, h2⟩
        · rintro (h | ⟨e', he, h1, h2⟩)
          · exact Or.inl (Or.inl (Or.inl h))
          · rcases List.mem_cons.1 he with rfl | he
            · rcases h2 with h2 | h2
              · exact Or.inl (Or.inl (Or.inr h2.symm))
              · exact Or.inl (Or.inr h2)
            · exact Or.inr ⟨e', he, h1, h2⟩
      | false =>
        simp only [Bool.false_eq_true, if_false]
        constructor
        · rintro (h | ⟨e', he, h1, h2⟩)
          · exact Or.inl h
          · exact Or.inr ⟨e', List.mem_cons_of_mem _ he, h1, h2⟩
        · rintro (h | ⟨e', he, h1, h2⟩)
          · exact Or.inl h
          · rcases List.mem_cons.1 he with rfl | he
            · rw [hb] at h1; cases h1
            · exact Or.inr ⟨e', he, h1, h2⟩
  rw [key]
  simp
def befL (l : List Oper) (A : Array Nat) : Array Nat := l.foldl (fun acc o => acc.push (oneB (fun i => acc.getD i 0) o)) A
theorem before_eq (ops : Array Oper) : Region.before ops = befL ops.toList #[] := by
  unfold Region.before befL
  rw [← Array.foldl_toList]
  rfl
theorem getD_push (A : Array Nat) (v k : Nat) : (A.push v).getD k 0 = if k = A.size then v else A.getD k 0 := by
  rw [Array.getD_eq_getD_getElem?, Array.getD_eq_getD_getElem?, Array.getElem?_push]
  split <;> rfl
theorem befL_lt : ∀ (l : List Oper) (A : Array Nat) (k : Nat), k < A.size → (befL l A).getD k 0 = A.getD k 0
  | [], A, k, hk => rfl
  | o :: l, A, k, hk => by
    show (befL l (A.push _)).getD k 0 = _
    rw [befL_lt l _ k (by simp; omega), getD_push, if_neg (by omega)]
theorem befL_at : ∀ (l : List Oper) (A : Array Nat) (i : Nat) (o : Oper), l[i]? = some o → (befL l A).getD (A.size + i) 0 = oneB (fun j => if j < A.size + i then (befL l A).getD j 0 else 0) o
  | [], A, i, o, h => by simp at h
  | o' :: l, A, 0, o, h => by
    simp at h; subst h
    show (befL l (A.push _)).getD A.size 0 = _
    rw [befL_lt l _ A.size (by simp), getD_push, if_pos rfl]
    congr 1
    funext j
    show _ = if j < A.size then (befL l (A.push _)).getD j 0 else 0
    by_cases hj : j < A.size
    · rw [if_pos hj, befL_lt l _ j (by simp; omega), getD_push, if_neg (by omega)]
    · rw [if_neg hj]
      simp [Array.getD, hj]
  | o' :: l, A, i + 1, o, h => by
    rw [List.getElem?_cons_succ] at h
    have := befL_at l (A.push (oneB (fun i => A.getD i 0) o')) i o h
    rw [Array.size_push, show A.size + 1 + i = A.size + (i + 1) by omega] at this
    exact this
theorem before_bit {i : Nat} {o : Oper} (h : ops[i]? = some o) (j : Nat) : ((Region.before ops).getD i 0).testBit j = true ↔ ∃ e ∈ o.after, Region.binds .any e = true ∧ (j = e.on ∨ (e.on < i ∧ ((Region.before ops).getD e.on 0).testBit j = true)) := by
  have := befL_at ops.toList #[] i o (by simpa using h)
  rw [before_eq]
  simp only [Array.size_empty, Nat.zero_add] at this
  rw [this, oneB_bit]
  constructor
  · rintro ⟨e, he, hb, h | h⟩
    · exact ⟨e, he, hb, Or.inl h⟩
    · by_cases hl : e.on < i
      · rw [if_pos hl] at h; exact ⟨e, he, hb, Or.inr ⟨hl, h⟩⟩
      · rw [if_neg hl] at h; simp at h
  · rintro ⟨e, he, hb, h | ⟨hl, h⟩⟩
    · exact ⟨e, he, hb, Or.inl h⟩
    · exact ⟨e, he, hb, Or.inr (by rw [if_pos hl]; exact h)⟩
/-- the operation has run -/
def Lst (L : Array Bool) (k : Nat) : Prop := L.getD k false = true
theorem lst_lt {k : Nat} (h : Lst L k) : k < L.size := by
  unfold Lst at h
  rcases Nat.lt_or_ge k L.size with hk | hk
  · exact hk
  · simp [Array.getD, Nat.not_lt.2 hk] at h
theorem lst_set {i : Nat} (hi : i < L.size) (k : Nat) : Lst (L.setIfInBounds i true) k ↔ k = i ∨ Lst L k := by
  unfold Lst
  rw [Array.getD_eq_getD_getElem?, Array.getD_eq_getD_getElem?, Array.getElem?_setIfInBounds]
  by_cases h : i = k
  · subst h; simp [hi]
  · rw [if_neg h]
    exact ⟨Or.inr, fun h' => h'.elim (fun e => (h e.symm).elim) id⟩
theorem getD_true {k : Nat} (h : k < L.size) : L.getD k true = false ↔ ¬ Lst L k := by
  unfold Lst
  simp [Array.getD, h]
theorem ready_ok {i : Nat} (hs : L.size = ops.size) (h : i ∈ Region.ready .any ops L) : i < ops.size ∧ ¬ Lst L i ∧ ∀ o, ops[i]? = some o → ∀ e ∈ o.after, Region.binds .any e = true → Lst L e.on := by
  obtain ⟨h1, o, h2, h3⟩ := mem_ready.1 h
  have hi : i < ops.size := (Array.getElem?_eq_some_iff.1 h2).1
  refine ⟨hi, (getD_true (by omega)).1 h1, fun o' ho e he hb => ?_⟩
  rw [h2] at ho
  injection ho with ho; subst ho
  exact h3 e he hb
theorem ready_of {i : Nat} {o : Oper} (hs : L.size = ops.size) (ho : ops[i]? = some o) (hn : ¬ Lst L i) (h : ∀ e ∈ o.after, Region.binds .any e = true → Lst L e.on) : i ∈ Region.ready .any ops L :=
  mem_ready.2 ⟨(getD_true (by rw [hs]; exact (Array.getElem?_eq_some_iff.1 ho).1)).2 hn, o, ho, h⟩
/-- what has run holds all that comes ahead of its members -/
structure Cl (ops : Array Oper) (L : Array Bool) : Prop where
  sz : L.size = ops.size
  cl : ∀ k, Lst L k → ∀ j, ((Region.before ops).getD k 0).testBit j = true → Lst L j
theorem Cl.ahead (h : Cl ops L) {i : Nat} (hi : i ∈ Region.ready .any ops L) (j : Nat) (hj : ((Region.before ops).getD i 0).testBit j = true) : Lst L j := by
  obtain ⟨h1, h2, h3⟩ := ready_ok h.sz hi
  obtain ⟨o, ho⟩ : ∃ o, ops[i]? = some o := ⟨_, Array.getElem?_eq_getElem h1⟩
  obtain ⟨e, he, hb, hx⟩ := (before_bit ho j).1 hj
  have hl := h3 o ho e he hb
  rcases hx with rfl | ⟨_, hx⟩
  · exact hl
  · exact h.cl _ hl j hx
theorem Cl.set (h : Cl ops L) {i : Nat} (hi : i ∈ Region.ready .any ops L) : Cl ops (L.setIfInBounds i true) := by
  have h1 := (ready_ok h.sz hi).1
  have hlt : i < L.size := by rw [h.sz]; exact h1
  refine ⟨by rw [Array.size_setIfInBounds]; exact h.sz, fun k hk j hj => (lst_set hlt j).2 (Or.inr ?_)⟩
  rcases (lst_set hlt k).1 hk with rfl | hk
  · exact h.ahead hi j hj
  · exact h.cl k hk j hj
theorem lst_none (n k : Nat) : ¬ Lst (Array.replicate n false) k := by
  unfold Lst
  rw [Array.getD_eq_getD_getElem?, Array.getElem?_replicate]
  split <;> simp
theorem cl_start (ops : Array Oper) : Cl ops (Array.replicate ops.size false) := ⟨by simp, fun k hk => (lst_none _ _ hk).elim⟩
theorem backs_iff : ∀ (l : List Oper) (i : Nat), backs l i = true → ∀ k o, l[k]? = some o → ∀ e ∈ o.after, Region.binds .any e = true → e.on < i + k
  | [], i, h, k, o, hk => by simp at hk
  | o' :: l, i, h, k, o, hk => by
    have h : (allR (fun e => !Region.binds .any e || Nat.blt e.on i) o'.after.toList && backs l (i + 1)) = true := h
    rw [Bool.and_eq_true] at h
    intro e he hb
    cases k with
    | zero =>
      simp at hk; subst hk
      have h1 := h.1
      rw [allR_eq, List.all_eq_true] at h1
      have := h1 e (by simpa using he)
      rw [hb] at this
      exact blt_true (by simpa using this)
    | succ k =>
      rw [List.getElem?_cons_succ] at hk
      have := backs_iff l (i + 1) h.2 k o hk e he hb
      omega
theorem ready_nil (hs : L.size = ops.size) (hb : backs ops.toList 0 = true) (hr : Region.ready .any ops L = []) : ∀ k, k < ops.size → Lst L k := by
  intro k
  induction k using Nat.strongRecOn with
  | _ k ih =>
  intro hk
  apply Classical.byContradiction
  intro hn
  obtain ⟨o, ho⟩ : ∃ o, ops[k]? = some o := ⟨_, Array.getElem?_eq_getElem hk⟩
  have : k ∈ Region.ready .any ops L := ready_of hs ho hn (fun e he h => by
    have hlt := backs_iff ops.toList 0 hb k o (by simpa using ho) e he h
    exact ih e.on (by omega) (by omega))
  rw [hr] at this
  cases this
/-- how many have not run -/
def cntU (L : Array Bool) : Nat → Nat
  | 0 => 0
  | n + 1 => cntU L n + (bif L.getD n false then 0 else 1)
theorem cnt_le (L : Array Bool) : ∀ n, cntU L n ≤ n
  | 0 => Nat.le_refl _
  | n + 1 => by
    have := cnt_le L n
    unfold cntU
    cases L.getD n false <;> simp <;> omega
theorem cnt_zero : ∀ n, cntU L n = 0 → ∀ k, k < n → Lst L k
  | 0, _, k, hk => by omega
  | n + 1, h, k, hk => by
    unfold cntU at h
    cases hl : L.getD n false with
    | false => rw [hl] at h; simp at h
    | true =>
      rw [hl] at h
      by_cases e : k = n
      · subst e; exact hl
      · exact cnt_zero n (by simpa using h) k (by omega)
theorem cnt_set {i : Nat} (hi : i < L.size) (hn : ¬ Lst L i) : ∀ n, cntU (L.setIfInBounds i true) n + (if i < n then 1 else 0) ≤ cntU L n
  | 0 => by simp [cntU]
  | n + 1 => by
    have ih := cnt_set hi hn n
    unfold cntU
    by_cases e : i = n
    · subst e
      have h1 : (L.setIfInBounds i true).getD i false = true := (lst_set hi i).2 (Or.inl rfl)
      have h2 : L.getD i false = false := by unfold Lst at hn; simpa using hn
      rw [h1, h2]
      simp at ih ⊢
      omega
    · have h1 : (L.setIfInBounds i true).getD n false = L.getD n false := by
        rw [Array.getD_eq_getD_getElem?, Array.getD_eq_getD_getElem?, Array.getElem?_setIfInBounds, if_neg e]
      rw [h1]
      have e2 : (i < n + 1) ↔ i < n := by omega
      simp only [e2]
      omega
end Go.Ev
/- What has run of a drawn region. -/
namespace Go.Ev
variable {E : Env} {P : Program} {call : FuncId → List SV → M SV} {yld : Nat → List SV → M SV}
def CD (sts : List Stp) (D : Nat → Prop) (b : Nat) : Prop := ∃ k t, D k ∧ sts[k]? = some t ∧ t.s.c ≤ b ∧ b < t.s1.c
def WD (sts : List Stp) (D : Nat → Prop) (b : Nat) : Prop := ∃ k t, D k ∧ sts[k]? = some t ∧ t.p1.W b
def VD (V : Nat → Prop) (sts : List Stp) (D : Nat → Prop) (b : Nat) : Prop := V b ∨ CD sts D b
structure Inv (E : Env) (P : Program) (sts : List Stp) (s : HS) (a : A) (ν : Nu) (V : Nat → Prop) (w : World) (D : Nat → Prop) (H : T AObj) (a1 : A) (ν1 : Nu) (act1 : Act) (w1 : World) : Prop where
  hp : ∀ b, ∃ k, k ≤ sts.length ∧ H.get b = (begS sts s k).h.get b ∧ ∀ m t, sts[m]? = some t → t.W b → (D m ↔ m < k)
  tp : ∀ b, ∃ k, k ≤ sts.length ∧ tmGet a1.tm b = tmGet (begA sts a k).tm b ∧ ∀ m t, sts[m]? = some t → t.o.dst = some b → (D m ↔ m < k)
  n : a1.n = a.n
  df : a1.df = a.df
  rel : Rel P E.nG ⟨H, 0⟩ ν1 (VD V sts D) w1
  out : ∀ x, ¬ CD sts D x → ν1.ρ x = ν.ρ x ∧ ν1.κ x = ν.κ x
  fr : Fr ν V (WD sts D) w w1
  new : ∀ b, CD sts D b → w.heap.size ≤ ν1.ρ b ∨ ∃ b0, WD sts D b0 ∧ V b0 ∧ ν.ρ b0 = ν1.ρ b
  va : ValA (VD V sts D) a1
  act : ActR ν1 a1 act1
theorem W_T {t : Stp} {b : Nat} (h : t.W b) : t.T b := h.elim (fun h => Or.inr (Or.inl h)) (fun h => Or.inr (Or.inr h))
/-- of a step that may be overtaken by an entry -/
theorem exc_none {ops : Array Oper} {t : Stp} {i : Nat} (h1 : (t.me E ops i).k = 1) (h2 : (t.me E ops i).wr = []) (h3 : (t.me E ops i).c0 = (t.me E ops i).c1) :
    t.wt = true ∧ t.s.c = t.s1.c ∧ (∀ b, ¬ t.W b) ∧ ∀ b, t.T b → b ∈ FP.rds t.s.c t.s1.c t.p1 [] := by
  cases hw : t.wt with
  | false =>
    unfold Stp.me at h1
    rw [hw] at h1
    cases h1
  | true =>
    rw [me_wanted hw] at h2 h3
    have h2 : FP.wrs t.s.c t.s1.c t.p1 [] = [] := h2
    have h3 : t.s.c = t.s1.c := h3
    have hW : ∀ b, ¬ t.W b := by
      rintro b (h | h)
      · have : b ∈ FP.wrs t.s.c t.s1.c t.p1 [] := (wrs_iff _ _ b _ _).2 (Or.inr ⟨h, by omega⟩)
        rw [h2] at this; cases this
      · omega
    refine ⟨rfl, h3, hW, ?_⟩
    rintro b (h | h | h)
    · exact (rds_iff _ _ b _ _).2 (Or.inr ⟨h, by omega⟩)
    · exact (hW b (Or.inl h)).elim
    · exact (hW b (Or.inr h)).elim
section
variable {ops : Array Oper} {sts : List Stp} {a a' : A} {s s' : HS} {D : Nat → Prop}
/-- two steps of which neither comes ahead of the other -/
theorem unord (hC : CallOK E P call) (hY : YldOK E P yld) (h : Chain E call yld ops (Region.before ops) sts 0 [] a s a' s') {j k : Nat} {u t : Stp} (hjk : j < k) (hj : sts[j]? = some u) (hk : sts[k]? = some t) :
    ((Region.before ops).getD k 0).testBit j = true ∨ ((∀ x, u.o.dst = some x → x ∉ namesR ops t.o) ∧ (∀ x, t.o.dst = some x → x ∉ namesR ops u.o) ∧
      ((∀ b, (u.W b → ¬ t.T b) ∧ (t.W b → ¬ u.T b)) ∨ ((∀ b, ¬ u.W b) ∧ u.wt = true ∧ u.s.c = u.s1.c ∧ (∀ b, u.T b → b ∈ FP.rds u.s.c u.s1.c u.p1 []) ∧ againX E u.a u.o (FP.rds u.s.c u.s1.c u.p1 []) u.x t.s1 = true))) := by
  rcases chain_ord h j k u t hjk hj hk with hb | hb
  · exact Or.inl (by simpa using hb)
  · right
    simp only [Nat.zero_add] at hb
    have hu := chain_ok h u (List.mem_of_getElem? hj)
    have ht := chain_ok h t (List.mem_of_getElem? hk)
    have hle : u.s1.c ≤ t.s.c := by
      have h1 := (chain_beg h).1 k t hk
      have h2 := beg_succ hj a s
      have hlt := (List.getElem?_eq_some_iff.1 hk).1
      rw [h1.2, ← h2.2]
      exact beg_le hC hY h (j + 1) k (by omega) (by omega)
    obtain ⟨n1, n2⟩ := apart_T hb
    have d : ∀ (v : Stp) (i : Nat), (v.me E ops i).ds = v.o.dst ∧ (v.me E ops i).ns = namesR ops v.o := fun v i => by
      unfold Stp.me; cases v.wt <;> exact ⟨rfl, rfl⟩
    rw [(d u j).1, (d t k).2] at n1
    rw [(d t k).1, (d u j).2] at n2
    refine ⟨n1, n2, ?_⟩
    rcases apart_cases hb with hn | ⟨_, k1, k2, hw, hc, ha⟩
    · exact Or.inl (near_mem hu ht hle hn)
    · obtain ⟨e1, e2, e3, e4⟩ := exc_none k1 hw hc
      rw [me_wanted e1] at ha
      exact Or.inr ⟨e3, e1, e2, e4, ha⟩
/-- numbers -/
theorem ivl (hC : CallOK E P call) (hY : YldOK E P yld) (h : Chain E call yld ops (Region.before ops) sts 0 [] a s a' s') {k : Nat} {t : Stp} (hk : sts[k]? = some t) : s.c ≤ t.s.c ∧ t.s.c ≤ t.s1.c ∧ t.s1.c ≤ s'.c := by
  have hlt := (List.getElem?_eq_some_iff.1 hk).1
  have h1 := (chain_beg h).1 k t hk
  have h2 := beg_succ hk a s
  refine ⟨?_, (stp_loc hC hY (chain_ok h t (List.mem_of_getElem? hk))).1, ?_⟩
  · have := beg_le hC hY h 0 k (by omega) (by omega)
    rw [h1.2]; exact this
  · have := beg_le hC hY h (k + 1) sts.length (by omega) (Nat.le_refl _)
    rw [← (chain_beg h).2.2, h2.2] at this
    exact this
theorem ivl_lt (hC : CallOK E P call) (hY : YldOK E P yld) (h : Chain E call yld ops (Region.before ops) sts 0 [] a s a' s') {j k : Nat} {u t : Stp} (hjk : j < k) (hj : sts[j]? = some u) (hk : sts[k]? = some t) : u.s1.c ≤ t.s.c := by
  have h1 := (chain_beg h).1 k t hk
  have h2 := beg_succ hj a s
  have hlt := (List.getElem?_eq_some_iff.1 hk).1
  rw [h1.2, ← h2.2]
  exact beg_le hC hY h (j + 1) k (by omega) (by omega)
theorem ivl_one (hC : CallOK E P call) (hY : YldOK E P yld) (h : Chain E call yld ops (Region.before ops) sts 0 [] a s a' s') {j k : Nat} {u t : Stp} (hj : sts[j]? = some u) (hk : sts[k]? = some t) {b : Nat} (h1 : u.s.c ≤ b ∧ b < u.s1.c) (h2 : t.s.c ≤ b ∧ b < t.s1.c) : j = k := by
  rcases Nat.lt_trichotomy j k with hl | hl | hl
  · have := ivl_lt hC hY h hl hj hk; omega
  · exact hl
  · have := ivl_lt hC hY h hl hk hj; omega
theorem ivl_all (h : Chain E call yld ops (Region.before ops) sts 0 [] a s a' s') {b : Nat} (hb : s.c ≤ b) : ∀ k, k ≤ sts.length → b < (begS sts s k).c → ∃ (m : Nat) (t : Stp), sts[m]? = some t ∧ t.s.c ≤ b ∧ b < t.s1.c
  | 0, _, hk => by
    have hk : b < s.c := hk
    omega
  | k + 1, hl, hk => by
    obtain ⟨t, ht⟩ : ∃ t, sts[k]? = some t := ⟨_, List.getElem?_eq_getElem (by omega)⟩
    rw [(beg_succ ht a s).2] at hk
    by_cases hc : t.s.c ≤ b
    · exact ⟨k, t, ht, hc, hk⟩
    · rw [((chain_beg h).1 k t ht).2] at hc
      exact ivl_all h hb k (by omega) (by omega)
theorem last_W (sts : List Stp) (b i : Nat) : ∀ k, k ≤ sts.length → (∃ m t, i ≤ m ∧ m < k ∧ sts[m]? = some t ∧ t.W b) → ∃ m u, i ≤ m ∧ m < k ∧ sts[m]? = some u ∧ u.W b ∧ ∀ m' t', m < m' → m' < k → sts[m']? = some t' → ¬ t'.W b
  | 0, _, ⟨m, t, _, h, _⟩ => by omega
  | k + 1, hl, ⟨m, t, h1, h2, h3, h4⟩ => by
    obtain ⟨v, hv⟩ : ∃ v, sts[k]? = some v := ⟨_, List.getElem?_eq_getElem (by omega)⟩
    by_cases hw : v.W b
    · exact ⟨k, v, by omega, Nat.lt_succ_self _, hv, hw, fun m' t' h5 h6 => by omega⟩
    · have hm : m < k := by
        rcases Nat.lt_or_ge m k with h | h
        · exact h
        · have e : m = k := by omega
          subst e
          rw [hv] at h3; injection h3 with h3; subst h3
          exact (hw h4).elim
      obtain ⟨m', u, g1, g2, g3, g4, g5⟩ := last_W sts b i k (by omega) ⟨m, t, h1, hm, h3, h4⟩
      refine ⟨m', u, g1, by omega, g3, g4, fun m2 t2 h5 h6 h7 => ?_⟩
      by_cases e : m2 = k
      · subst e
        rw [hv] at h7; injection h7 with h7; subst h7
        exact hw
      · exact g5 m2 t2 h5 (by omega) h7
/-- where the next one begins, what it touches stands as in the text's order, or a later one has written there -/
theorem pos_b (hC : CallOK E P call) (hY : YldOK E P yld) (h : Chain E call yld ops (Region.before ops) sts 0 [] a s a' s') {i : Nat} {t : Stp} (hi : sts[i]? = some t) (hn : ¬ D i)
    (ha : ∀ j, ((Region.before ops).getD i 0).testBit j = true → D j) {H : T AObj} {b : Nat} (hb : t.T b)
    (hp : ∃ k, k ≤ sts.length ∧ H.get b = (begS sts s k).h.get b ∧ ∀ m t, sts[m]? = some t → t.W b → (D m ↔ m < k)) :
    H.get b = t.s.h.get b ∨ ∃ m u, i < m ∧ D m ∧ sts[m]? = some u ∧ u.W b ∧ H.get b = u.s1.h.get b := by
  obtain ⟨k, hk, he, hW⟩ := hp
  have hlt := (List.getElem?_eq_some_iff.1 hi).1
  have hlow : ∀ m u, m < i → sts[m]? = some u → u.W b → D m := fun m u hm hu hw => by
    rcases unord hC hY h hm hu hi with hbit | ⟨_, _, hx | hx⟩
    · exact ha m hbit
    · exact ((hx b).1 hw hb).elim
    · exact (hx.1 b hw).elim
  by_cases hex : ∃ m u, i ≤ m ∧ m < k ∧ sts[m]? = some u ∧ u.W b
  · right
    obtain ⟨m, u, g1, g2, g3, g4, g5⟩ := last_W sts b i k hk hex
    have hD : D m := (hW m u g3 g4).2 g2
    have hne : i ≠ m := fun e => hn (e ▸ hD)
    refine ⟨m, u, by omega, hD, g3, g4, ?_⟩
    rw [he, beg_gap hC hY h b (m + 1) k (by omega) hk (fun m' t' h1 h2 h3 => g5 m' t' (by omega) h2 h3), (beg_succ g3 a s).2]
  · left
    have hex : ∀ m u, i ≤ m → m < k → sts[m]? = some u → ¬ u.W b := fun m u h1 h2 h3 h4 => hex ⟨m, u, h1, h2, h3, h4⟩
    rw [he, ((chain_beg h).1 i t hi).2]
    rcases Nat.le_total k i with hki | hki
    · refine (beg_gap hC hY h b k i hki (by omega) (fun m u h1 h2 h3 h4 => ?_)).symm
      have := (hW m u h3 h4).1 (hlow m u h2 h3 h4)
      omega
    · exact beg_gap hC hY h b i k hki hk (fun m u h1 h2 h3 => hex m u h1 h2 h3)
/-- its operands, its guard likewise -/
theorem pos_t (hC : CallOK E P call) (hY : YldOK E P yld) (h : Chain E call yld ops (Region.before ops) sts 0 [] a s a' s') (hat : a.n ≤ top) {i : Nat} {t : Stp} (hi : sts[i]? = some t) (hn : ¬ D i)
    (ha : ∀ j, ((Region.before ops).getD i 0).testBit j = true → D j) (hcl : ∀ k, D k → ∀ j, ((Region.before ops).getD k 0).testBit j = true → D j) {a1 : A} {b : Nat} (hb : b ∈ namesR ops t.o)
    (hp : ∃ k, k ≤ sts.length ∧ tmGet a1.tm b = tmGet (begA sts a k).tm b ∧ ∀ m t, sts[m]? = some t → t.o.dst = some b → (D m ↔ m < k)) :
    tmGet a1.tm b = tmGet t.a.tm b := by
  obtain ⟨k, hk, he, hW⟩ := hp
  have hlt := (List.getElem?_eq_some_iff.1 hi).1
  rw [he, ((chain_beg h).1 i t hi).1]
  rcases Nat.le_total k i with hki | hki
  · refine (beg_gapT h hat b k i hki (by omega) (fun m u h1 h2 h3 h4 => ?_)).symm
    rcases unord hC hY h h2 h3 hi with hbit | ⟨hx, _, _⟩
    · have := (hW m u h3 h4).1 (ha m hbit)
      omega
    · exact hx b h4 hb
  · refine beg_gapT h hat b i k hki hk (fun m u h1 h2 h3 h4 => ?_)
    have hD := (hW m u h3 h4).2 h2
    have hne : i ≠ m := fun e => hn (e ▸ hD)
    rcases unord hC hY h (show i < m by omega) hi h3 with hbit | ⟨_, hx, _⟩
    · exact hn (hcl m hD i hbit)
    · exact hx b h4 hb
end
end Go.Ev
