/- The abstract machine, text 3 of 7: calls are evaluated once, and hold in every world. -/
import Derived.Test.YtongfkckenahnaaGreatDoorEvb
import Derived.Deep.Upon
import Derived.Laws.Externs
import Derived.Lib.MakeNoZero
/- Maps. -/
namespace Go.Ev
variable {E : Env} {P : Program} {G : Nat} {s s' : HS} {p : FP} {ν : Nu} {V : Nat → Prop} {w : World}
variable {ρ : Operand → SV} {o : Oper} {x : Nx}
theorem purely_bind {α β : Type} {P : Program} (S : Sem α) (f : α → Sem β) : purely P (S >>= f) = (purely P S).bind fun a => purely P (f a) := by
  show purely P (S.bind f) = _
  induction S with
  | pure a => rfl
  | program k ih => exact ih P
  | mark m k ih => exact ih
  | _ => rfl
theorem bytes_beq (a b : List UInt8) : ((⟨a.toArray⟩ : ByteArray) == ⟨b.toArray⟩) = (a == b) := by
  show (a.toArray == b.toArray) = (a == b)
  simp
theorem findE_ok {kd : TypeDesc} {k : SV} (hk : (∃ j a n, kd = .int j ∧ k = .v (.int a n)) ∨ (kd = .string ∧ ∃ l, k = .str l)) : ∀ {es : List (SV × SV × Nat)} {i : Nat} {r : Option (Nat × SV × Nat)}, findE k es i = some r →
    Instr.findNow kd (den ν k) (es.map (denE ν)) i = some (r.map fun q => (q.1, den ν q.2.1)) ∧ ∀ j x born, r = some (j, x, born) → i ≤ j ∧ ∃ k', es[j - i]? = some (k', x, born) ∧ den ν k' = den ν k
  | [], i, r, h => by
    simp only [findE, Option.some.injEq] at h
    subst h
    exact ⟨rfl, fun j x born h => by cases h⟩
  | (k', x, born) :: es, i, r, h => by
    have next : findE k es (i + 1) = some r → Instr.sameNow kd (den ν k) (den ν k') = some false → Instr.findNow kd (den ν k) (((k', x, born) :: es).map (denE ν)) i = some (r.map fun q => (q.1, den ν q.2.1)) ∧ ∀ j x' born', r = some (j, x', born') → i ≤ j ∧ ∃ k'', ((k', x, born) :: es)[j - i]? = some (k'', x', born') ∧ den ν k'' = den ν k := fun hn hf => by
      obtain ⟨h1, h2⟩ := findE_ok hk hn
      refine ⟨?_, fun j x' born' hr => ?_⟩
      · rw [List.map_cons, Instr.findNow]
        simp only [denE, hf, h1]
      · obtain ⟨h3, k'', h4, h5⟩ := h2 j x' born' hr
        refine ⟨by omega, k'', ?_, h5⟩
        rw [show j - i = (j - (i + 1)) + 1 by omega, List.getElem?_cons_succ]
        exact h4
    have hit : Instr.sameNow kd (den ν k) (den ν k') = some true → den ν k' = den ν k → r = some (i, x, born) → Instr.findNow kd (den ν k) (((k', x, born) :: es).map (denE ν)) i = some (r.map fun q => (q.1, den ν q.2.1)) ∧ ∀ j x' born', r = some (j, x', born') → i ≤ j ∧ ∃ k'', ((k', x, born) :: es)[j - i]? = some (k'', x', born') ∧ den ν k'' = den ν k := fun hf he hr => by
      subst hr
      refine ⟨?_, fun j x' born' hr => ?_⟩
      · rw [List.map_cons, Instr.findNow]
        simp only [denE, hf]
        rfl
      · injection hr with hr
        simp only [Prod.mk.injEq] at hr
        obtain ⟨rfl, rfl, rfl⟩ := hr
        exact ⟨Nat.le_refl _, k', by simp, he⟩
    rcases hk with ⟨jk, a, n, rfl, rfl⟩ | ⟨rfl, l, rfl⟩
    · cases k' with
      | v y =>
        cases y with
        | int a' m =>
          simp only [findE] at h
          by_cases ha : a = a'
          · subst ha
            simp only [decide_true, cond_true] at h
            cases hb : eqI n m with
            | true =>
              rw [hb] at h
              rw [eqI_eq] at hb
              have hb : n = m := by simpa using hb
              subst hb
              injection h with h
              exact hit (by simp [den, Instr.sameNow]) rfl h.symm
            | false =>
              rw [hb] at h
              rw [eqI_eq] at hb
              have hb : ¬ n = m := by simpa using hb
              exact next h (by simp [den, Instr.sameNow, hb])
          · simp [ha] at h
        | _ => simp [findE] at h
      | _ => simp [findE] at h
    · cases k' with
      | str b =>
        simp only [findE] at h
        cases hb : l == b with
        | true =>
          rw [hb] at h
          have hb : l = b := by simpa using hb
          subst hb
          injection h with h
          exact hit (by simp only [den, Instr.sameNow, bytes_beq]; simp) rfl h.symm
        | false =>
          rw [hb] at h
          exact next h (by simp only [den, Instr.sameNow, bytes_beq, hb])
      | v y => cases y <;> simp [findE] at h
      | _ => simp [findE] at h
/-- the entries' keys, as values -/
theorem keyV_ok (ν : Nu) : ∀ {es : List (SV × SV × Nat)} {l : List MapEntry}, keyV es = some l → l.length = es.length ∧ ∀ (i : Nat) k x born, es[i]? = some (k, x, born) → ∃ m : MapEntry, l[i]? = some m ∧ m.key = den ν k
  | [], l, h => by simp [keyV] at h; subst h; exact ⟨rfl, fun i k x born h => by simp at h⟩
  | (k, x, born) :: es, l, h => by
    simp only [keyV] at h
    cases hk : toV k with
    | none => simp [hk] at h
    | some v =>
      cases hs : keyV es with
      | none => simp [hk, hs] at h
      | some l' =>
        simp [hk, hs] at h
        subst h
        obtain ⟨h1, h2⟩ := keyV_ok ν hs
        refine ⟨by simp [h1], fun i k' x' born' h => ?_⟩
        cases i with
        | zero =>
          simp at h
          obtain ⟨rfl, rfl, rfl⟩ := h
          exact ⟨_, rfl, (toV_den ν k hk).symm⟩
        | succ i => exact h2 i k' x' born' (by simpa using h)
theorem findAsking_ok (kt : TypeId) (kv : Value) : ∀ (es : List (SV × SV × Nat)) (l : List MapEntry) (i : Nat) (r : Option (Nat × Value)), l.length = es.length → (∀ (j : Nat) k x born, es[j]? = some (k, x, born) → ∃ m : MapEntry, l[j]? = some m ∧ m.key = den ν k) →
    purely P (Instr.findAsking kt kv l i) = some r → ∃ r' : Option (Nat × Value), (∀ w, (Instr.findAsking kt kv (es.map (denE ν)) i).run P w = .ok r' w) ∧ (r = none → r' = none) ∧ ∀ j v, r = some (j, v) → i ≤ j ∧ ∃ k x born, es[j - i]? = some (k, x, born) ∧ r' = some (j, den ν x)
  | [], l, i, r, hl, _, h => by
    have : l = [] := List.eq_nil_of_length_eq_zero hl
    subst this
    have h : some none = some r := h
    injection h with h; subst h
    exact ⟨none, fun _ => rfl, fun _ => rfl, fun j v h => by cases h⟩
  | (k, x, born) :: es, [], i, r, hl, _, h => by simp at hl
  | (k, x, born) :: es, m :: l, i, r, hl, hk, h => by
    obtain ⟨m', hm, hkey⟩ := hk 0 k x born rfl
    simp at hm; subst hm
    rw [Instr.findAsking, purely_bind] at h
    rw [hkey] at h
    cases hb : purely P (Op.equal kt kv (den ν k)) with
    | none => rw [hb] at h; cases h
    | some b =>
      rw [hb] at h
      simp only [Option.bind_some] at h
      have hrun : ∀ w, (Op.equal kt kv (den ν k)).run P w = .ok b w := fun w => purely_run _ hb w
      cases b with
      | true =>
        have h : some (some (i, m.val)) = some r := h
        injection h with h; subst h
        refine ⟨some (i, den ν x), fun w => ?_, fun h => (by cases h), fun j v h => ?_⟩
        · rw [List.map_cons, Instr.findAsking]
          simp [denE, hrun]
        · injection h with h
          simp only [Prod.mk.injEq] at h
          obtain ⟨rfl, rfl⟩ := h
          exact ⟨Nat.le_refl _, k, x, born, by simp, rfl⟩
      | false =>
        have h : purely P (Instr.findAsking kt kv l (i + 1)) = some r := h
        obtain ⟨r', h1, h2, h3⟩ := findAsking_ok kt kv es l (i + 1) r (by simpa using hl) (fun j k' x' born' hj => by
          have := hk (j + 1) k' x' born' (by simpa using hj)
          simpa using this) h
        refine ⟨r', fun w => ?_, h2, fun j v hr => ?_⟩
        · rw [List.map_cons, Instr.findAsking]
          simp [denE, hrun, h1]
        · obtain ⟨g1, k', x', born', g2, g3⟩ := h3 j v hr
          refine ⟨by omega, k', x', born', ?_, g3⟩
          rw [show j - i = (j - (i + 1)) + 1 by omega, List.getElem?_cons_succ]
          exact g2
theorem findNow_ok (kd : TypeDesc) (kv : Value) : ∀ (es : List (SV × SV × Nat)) (l : List MapEntry) (i : Nat), l.length = es.length → (∀ (j : Nat) k x born, es[j]? = some (k, x, born) → ∃ m : MapEntry, l[j]? = some m ∧ m.key = den ν k) →
    (Instr.findNow kd kv l i = none → Instr.findNow kd kv (es.map (denE ν)) i = none) ∧ ∀ r, Instr.findNow kd kv l i = some r → ∃ r' : Option (Nat × Value), Instr.findNow kd kv (es.map (denE ν)) i = some r' ∧ (r = none → r' = none) ∧ ∀ j v, r = some (j, v) → i ≤ j ∧ ∃ k x born, es[j - i]? = some (k, x, born) ∧ r' = some (j, den ν x)
  | [], l, i, hl, _ => by
    have : l = [] := List.eq_nil_of_length_eq_zero hl
    subst this
    exact ⟨fun h => (by cases h), fun r h => by
      have h : some none = some r := h
      injection h with h; subst h
      exact ⟨none, rfl, fun _ => rfl, fun j v h => (by cases h)⟩⟩
  | (k, x, born) :: es, [], i, hl, _ => by simp at hl
  | (k, x, born) :: es, m :: l, i, hl, hk => by
    obtain ⟨m', hm, hkey⟩ := hk 0 k x born rfl
    simp at hm; subst hm
    obtain ⟨g1, g2⟩ := findNow_ok kd kv es l (i + 1) (by simpa using hl) (fun j k' x' born' hj => by
      have := hk (j + 1) k' x' born' (by simpa using hj)
      simpa using this)
    rw [List.map_cons, Instr.findNow, Instr.findNow, hkey]
    simp only [denE]
    cases hb : Instr.sameNow kd kv (den ν k) with
    | none => exact ⟨fun _ => rfl, fun r h => (by cases h)⟩
    | some b =>
      cases b with
      | true =>
        refine ⟨fun h => (by cases h), fun r h => ?_⟩
        simp only [Option.some.injEq] at h
        subst h
        refine ⟨_, rfl, fun h => (by cases h), fun j v h => ?_⟩
        injection h with h
        simp only [Prod.mk.injEq] at h
        obtain ⟨rfl, rfl⟩ := h
        exact ⟨Nat.le_refl _, k, x, born, by simp, rfl⟩
      | false =>
        refine ⟨g1, fun r h => ?_⟩
        obtain ⟨r', h1, h2, h3⟩ := g2 r h
        refine ⟨r', h1, h2, fun j v hr => ?_⟩
        obtain ⟨g1, k', x', born', g2, g3⟩ := h3 j v hr
        refine ⟨by omega, k', x', born', ?_, g3⟩
        rw [show j - i = (j - (i + 1)) + 1 by omega, List.getElem?_cons_succ]
        exact g2
theorem findKey_ok {kt : TypeId} {d : TypeDesc} (hu : P.underlying kt = some d) (kv : Value) {es : List (SV × SV × Nat)} {l : List MapEntry} {r : Option (Nat × Value)} (hl : l.length = es.length) (hk : ∀ (j : Nat) k x born, es[j]? = some (k, x, born) → ∃ m : MapEntry, l[j]? = some m ∧ m.key = den ν k)
    (h : purely P (Instr.findKey kt kv l) = some r) : ∃ r' : Option (Nat × Value), (∀ w, (Instr.findKey kt kv (es.map (denE ν))).run P w = .ok r' w) ∧ (r = none → r' = none) ∧ ∀ j v, r = some (j, v) → ∃ k x born, es[j]? = some (k, x, born) ∧ r' = some (j, den ν x) := by
  unfold Instr.findKey at h ⊢
  rw [purely_bind] at h
  have hpu : purely P (underlying kt) = some d := by
    unfold underlying
    rw [purely_bind]
    show purely P (match P.underlying kt with | some d => pure d | none => stuck "no such type") = _
    rw [hu]; rfl
  rw [hpu] at h
  simp only [Option.bind_some] at h
  obtain ⟨g1, g2⟩ := findNow_ok (ν := ν) d kv es l 0 hl hk
  cases hn : Instr.findNow d kv l 0 with
  | none =>
    rw [hn] at h
    obtain ⟨r', h1, h2, h3⟩ := findAsking_ok (ν := ν) kt kv es l 0 r hl hk h
    refine ⟨r', fun w => ?_, h2, fun j v hr => ?_⟩
    · rw [Sem.run_bind, run_underlying hu, Result.andThen_ok, g1 hn]
      exact h1 w
    · obtain ⟨_, k, x, born, h4, h5⟩ := h3 j v hr
      exact ⟨k, x, born, by simpa using h4, h5⟩
  | some r0 =>
    rw [hn] at h
    have h : some r0 = some r := h
    injection h with h; subst h
    obtain ⟨r', h1, h2, h3⟩ := g2 r0 hn
    refine ⟨r', fun w => ?_, h2, fun j v hr => ?_⟩
    · rw [Sem.run_bind, run_underlying hu, Result.andThen_ok, h1]
      rfl
    · obtain ⟨_, k, x, born, h4, h5⟩ := h3 j v hr
      exact ⟨k, x, born, by simpa using h4, h5⟩
/-- what a look-up of a key tells -/
structure Found (P : Program) (ν : Nu) (w : World) (kt : TypeId) (k : SV) (es : List (SV × SV × Nat)) (f : Option (Nat × SV × Nat)) : Prop where
  check : ∀ e : Bool, (Instr.checkKey e 10000 kt (den ν k)).run P w = .ok () w
  find : (Instr.findKey kt (den ν k) (es.map (denE ν))).run P w = .ok (f.map fun q => (q.1, den ν q.2.1)) w
  hit : ∀ i x born, f = some (i, x, born) → ∃ k', es[i]? = some (k', x, born) ∧ (Instr.keyThatStays (den ν k') (den ν k)).run P w = .ok (den ν k) w
theorem run_find (hE : EnvOK E P) {kt : TypeId} {k : SV} {es : List (SV × SV × Nat)} {f : Option (Nat × SV × Nat)} (h : Ok (findM E kt k es) s f s' p) : s' = s ∧ (∀ b, ¬ p.W b) ∧ Found P ν w kt k es f := by
  unfold findM at h
  obtain ⟨d, s1, p2, p3, h2, h3, rfl⟩ := ok_bind.1 h
  obtain ⟨hdd, rfl, rfl⟩ := ok_und.1 h2
  have hu := und_ok hE hdd
  have simple : (∃ j a n, d = .int j ∧ k = .v (.int a n)) ∨ (d = .string ∧ ∃ l, k = .str l) → Ok (match findE k es 0 with | some r => (pure r : M (Option (Nat × SV × Nat))) | none => fail "key") s f s' p3 → s' = s ∧ (∀ b, ¬ (FP.nil.app p3).W b) ∧ Found P ν w kt k es f := fun hk h => by
    cases hf : findE k es 0 with
    | none => rw [hf] at h; exact (ok_fail h).elim
    | some r =>
      rw [hf] at h
      obtain ⟨rfl, rfl, rfl⟩ := ok_pure.1 h
      obtain ⟨g1, g2⟩ := findE_ok (ν := ν) hk hf
      refine ⟨rfl, by simp [FP.W], ⟨fun e => ?_, ?_, fun i x born hr => ?_⟩⟩
      · rw [Instr.checkKey, Sem.run_bind, run_underlying hu, Result.andThen_ok]
        rcases hk with ⟨j, a, n, rfl, rfl⟩ | ⟨rfl, l, rfl⟩ <;> rfl
      · rw [Instr.findKey, Sem.run_bind, run_underlying hu, Result.andThen_ok, g1]
        rfl
      · obtain ⟨_, k', g3, g4⟩ := g2 i x born hr
        refine ⟨k', by simpa using g3, ?_⟩
        rw [g4]
        unfold Instr.keyThatStays
        have : Instr.sameBits 10000 (den ν k) (den ν k) = true := by
          rcases hk with ⟨j, a, n, rfl, rfl⟩ | ⟨rfl, l, rfl⟩ <;> simp [den, Instr.sameBits, bytes_beq]
        simp [this]
  split at h3
  · exact simple (.inl ⟨_, _, _, rfl, rfl⟩) h3
  · exact simple (.inr ⟨rfl, _, rfl⟩) h3
  · exact (ok_fail h3).elim
  · exact (ok_fail h3).elim
  · obtain ⟨kv, s2, p4, p5, h4, h5, rfl⟩ := ok_bind.1 h3
    obtain ⟨hkv, rfl, rfl⟩ := ok_toM.1 h4
    have hden := toV_den ν k hkv
    cases hl : keyV es with
    | none => rw [hl] at h5; exact (ok_fail h5).elim
    | some l =>
      rw [hl] at h5
      obtain ⟨r, s3, p6, p7, h6, h7, rfl⟩ := ok_bind.1 h5
      obtain ⟨hr, rfl, rfl⟩ := ok_plainM.1 h6
      rw [hE.prog] at hr
      obtain ⟨l1, l2⟩ := keyV_ok ν hl
      simp only [purely_bind] at hr
      cases c1 : purely P (Instr.checkKey true 10000 kt kv) with
      | none => rw [c1] at hr; cases hr
      | some u1 =>
        rw [c1] at hr
        simp only [Option.bind_some] at hr
        cases c2 : purely P (Instr.checkKey false 10000 kt kv) with
        | none => rw [c2] at hr; cases hr
        | some u2 =>
          rw [c2] at hr
          simp only [Option.bind_some] at hr
          obtain ⟨r', f1, f2, f3⟩ := findKey_ok (ν := ν) hu kv l1 l2 hr
          have hck : ∀ e : Bool, (Instr.checkKey e 10000 kt (den ν k)).run P w = .ok () w := fun e => by
            rw [hden]
            cases e
            · exact purely_run _ c2 w
            · exact purely_run _ c1 w
          cases r with
          | none =>
            obtain ⟨rfl, rfl, rfl⟩ := ok_pure.1 h7
            refine ⟨rfl, by simp [FP.W], hck, ?_, fun i x born h => (by cases h)⟩
            rw [hden, f1 w, f2 rfl]; rfl
          | some q =>
            obtain ⟨i, v⟩ := q
            obtain ⟨k', x', born', e1, e2⟩ := f3 i v rfl
            obtain ⟨m, m1, m2⟩ := l2 i k' x' born' e1
            simp only [e1, m1] at h7
            rcases ok_bif.1 h7 with ⟨hb, h8⟩ | ⟨_, h8⟩
            case inr => exact (ok_fail h8).elim
            obtain ⟨rfl, rfl, rfl⟩ := ok_pure.1 h8
            refine ⟨rfl, by simp [FP.W], hck, ?_, fun j x born h => ?_⟩
            · rw [hden, f1 w, e2]; rfl
            · injection h with h
              simp only [Prod.mk.injEq] at h
              obtain ⟨rfl, rfl, rfl⟩ := h
              refine ⟨k', e1, ?_⟩
              rw [hden, ← m2]
              unfold Instr.keyThatStays
              simp [hb]
end Go.Ev
/- Operations on maps. -/
namespace Go.Ev
variable {E : Env} {P : Program} {G : Nat} {s s' : HS} {p : FP} {ν : Nu} {V : Nat → Prop} {w : World}
variable {ρ : Operand → SV} {o : Oper} {x : Nx}
theorem mapAt (hR : Rel P G s ν V w) {b : Nat} {es : List (SV × SV × Nat)} {c : Nat} (hb : s.h.get b = some (.map es c)) : w.heap[ν.ρ b]? = some (.map (es.map (denE ν)).toArray c) ∧ (∀ e ∈ es, Val V e.1 ∧ Val V e.2.1) ∧ V b := by
  obtain ⟨r, hr, ho⟩ := hR.blk b _ hb
  have ho : r = _ := ho
  subst ho
  exact ⟨hr, (hR.cl b _ hb).2, (hR.cl b _ hb).1⟩
theorem run_getObj {w : World} {b : Nat} {es : Array MapEntry} {c : Nat} (h : w.heap[b]? = some (.map es c)) : (getObj b).run P w = .ok (.map es c) w := by
  simp [getObj, Sem.run, h]
theorem run_setMap {w : World} {b : Nat} {es : Array MapEntry} {c : Nat} (h : w.heap[b]? = some (.map es c)) (o : Obj) : (setObj b o).run P w = .ok () { w with heap := w.heap.setIfInBounds b o } := by
  simp [setObj, Sem.run, h]
/-- a map turned -/
theorem post_map (hR : Rel P G s ν V w) {b : Nat} {es es' : List (SV × SV × Nat)} {c c' : Nat} (hb : s.h.get b = some (.map es c)) (ht : b < top) (hv : ∀ e ∈ es', Val V e.1 ∧ Val V e.2.1) {q : FP} (hq : q.W b) {ea : Array MapEntry} (he : ea = (es'.map (denE ν)).toArray) :
    Post P G s ν V w ⟨s.h.upd 20 b (some (.map es' c')), s.c⟩ q ν { w with heap := w.heap.setIfInBounds (ν.ρ b) (.map ea c') } := by
  obtain ⟨h1, _, _⟩ := mapAt hR hb
  have hlt := (Array.getElem?_eq_some_iff.1 h1).1
  refine post_put hR hb ht (ao := .map es' c') (r := .map ea c') hv (by rw [he]; rfl) hq (by simp) ?_ (fun k hk => ?_) rfl rfl rfl
  · simp [hlt]
  · show (w.heap.setIfInBounds (ν.ρ b) _)[k]? = _
    rw [Array.getElem?_setIfInBounds, if_neg (Ne.symm hk)]
theorem es_lookup (hE : EnvOK E P) (hR : Rel P G s ν V w) (_hρ : ∀ y, Val V (ρ y)) {t : TypeId} {m k : Operand} {ok : Bool} (ho : o.op = .lookup t m k ok) (h : Ok (ex_lookup E ρ t m k ok) s x s' p) : Goal P G s ν V w s' p (execOp (fun y => den ν (ρ y)) o) x := by
  simp only [execOp, ho]
  refine goal_val h (fun y p1 h1 => ?_)
  obtain ⟨d, s1, p2, p3, h2, h3, rfl⟩ := ok_bind.1 h1
  obtain ⟨hdd, rfl, rfl⟩ := ok_und.1 h2
  have hu := und_ok hE hdd
  have fin : ∀ (z : SV) (b : Bool), den ν (bif ok then .tup [z, .v (.bool b)] else z) = (if ok then .tuple #[den ν z, .bool b] else den ν z) ∧ (Val V z → Val V (bif ok then .tup [z, .v (.bool b)] else z)) := fun z b => by
    cases ok
    · exact ⟨rfl, fun h => h⟩
    · refine ⟨by simp [den, denL], fun h => ?_⟩
      exact ⟨h, trivial, trivial⟩
  split at h3
  · rename_i kt e
    split at h3
    · rename_i he
      obtain ⟨kd, s2, p4, p5, h4, h5, rfl⟩ := ok_bind.1 h3
      obtain ⟨hkd, rfl, rfl⟩ := ok_und.1 h4
      have hku := und_ok hE hkd
      have go : (∀ kv, (Instr.checkKey true 10000 kt kv).run P w = .ok () w) → (∀ kv, (Instr.findKey kt kv []).run P w = .ok none w) → Ok (E.zero e >>= fun z => pure (bif ok then SV.tup [z, .v (.bool false)] else z)) s y s' p5 → s.c ≤ s'.c ∧ ∃ ν' w', (Instr.lookup t (den ν (ρ m)) (den ν (ρ k)) ok).run P w = .ok (den ν' y) w' ∧ Val (VN V s s') y ∧ Post P G s ν V w s' (FP.nil.app (FP.nil.app p5)) ν' w' := fun c1 c2 h => by
        obtain ⟨z, s3, p6, p7, h6, h7, rfl⟩ := ok_bind.1 h
        obtain ⟨rfl, rfl, hv, i, v, hi, hz, hd, hty⟩ := zero_get hE h6
        obtain ⟨rfl, rfl, rfl⟩ := ok_pure.1 h7
        refine ⟨Nat.le_refl _, ν, w, ?_, by rw [VN_self]; exact (fin z false).2 (hv V), post_refl hR _⟩
        rw [(fin z false).1, hd ν, he]
        simp only [Instr.lookup, Sem.run_bind, run_underlying hu, Result.andThen_ok, den, Sem.run_pure, Array.isEmpty_empty, c1, c2, run_zero hE hty hz]
      split at h5
      · exact go (fun kv => by rw [Instr.checkKey, Sem.run_bind, run_underlying hku, Result.andThen_ok]; cases kv <;> rfl) (fun kv => by rw [Instr.findKey, Sem.run_bind, run_underlying hku]; rfl) h5
      · exact go (fun kv => by rw [Instr.checkKey, Sem.run_bind, run_underlying hku, Result.andThen_ok]; cases kv <;> rfl) (fun kv => by rw [Instr.findKey, Sem.run_bind, run_underlying hku]; rfl) h5
      · exact (ok_fail h5).elim
    · rename_i b he
      obtain ⟨r, s2, p4, p5, h4, h5, rfl⟩ := ok_bind.1 h3
      obtain ⟨hb, rfl, rfl⟩ := ok_map.1 h4
      obtain ⟨f, s3, p6, p7, h6, h7, rfl⟩ := ok_bind.1 h5
      obtain ⟨rfl, hw, hF⟩ := run_find (ν := ν) (w := w) hE h6
      obtain ⟨es, c⟩ := r
      obtain ⟨g1, g2, g3⟩ := mapAt hR hb
      cases f with
      | none =>
        obtain ⟨z, s4, p8, p9, h8, h9, rfl⟩ := ok_bind.1 h7
        obtain ⟨rfl, rfl, hv, i, v, hi, hz, hd, hty⟩ := zero_get hE h8
        obtain ⟨rfl, rfl, rfl⟩ := ok_pure.1 h9
        refine ⟨Nat.le_refl _, ν, w, ?_, by rw [VN_self]; exact (fin z false).2 (hv V), post_refl hR _⟩
        rw [(fin z false).1, hd ν, he]
        simp only [Instr.lookup, Sem.run_bind, run_underlying hu, Result.andThen_ok, den, Sem.run_pure, run_getObj g1, hF.check, hF.find, Option.map_none, run_zero hE hty hz]
      | some q =>
        obtain ⟨i, x', born⟩ := q
        obtain ⟨rfl, rfl, rfl⟩ := ok_pure.1 h7
        obtain ⟨k', e1, e2⟩ := hF.hit i x' born rfl
        have hvx := (g2 _ (List.mem_of_getElem? e1)).2
        refine ⟨Nat.le_refl _, ν, w, ?_, by rw [VN_self]; exact (fin x' true).2 hvx, post_refl hR _⟩
        rw [(fin x' true).1, he]
        simp only [Instr.lookup, Sem.run_bind, run_underlying hu, Result.andThen_ok, den, Sem.run_pure, run_getObj g1, hF.check, hF.find, Option.map_some]
    · exact (ok_fail h3).elim
  · exact (ok_fail h3).elim
theorem modify_den (ν : Nu) (es : List (SV × SV × Nat)) (i : Nat) (f : SV × SV × Nat → SV × SV × Nat) (g : MapEntry → MapEntry) (h : ∀ e, denE ν (f e) = g (denE ν e)) : ((es.map (denE ν)).toArray.modify i g) = ((es.modify i f).map (denE ν)).toArray := by
  apply Array.ext'
  rw [Array.toList_modify]
  apply List.ext_getElem?
  intro j
  simp only [List.getElem?_modify, List.getElem?_map]
  split
  · cases es[j]? <;> simp [h]
  · cases es[j]? <;> simp
theorem modify_val {V : Nat → Prop} {es : List (SV × SV × Nat)} {i : Nat} {f : SV × SV × Nat → SV × SV × Nat} (h : ∀ e ∈ es, Val V e.1 ∧ Val V e.2.1) (hf : ∀ e, Val V e.1 ∧ Val V e.2.1 → Val V (f e).1 ∧ Val V (f e).2.1) : ∀ e ∈ es.modify i f, Val V e.1 ∧ Val V e.2.1 := by
  intro e he
  obtain ⟨j, hj⟩ := List.mem_iff_getElem?.1 he
  rw [List.getElem?_modify] at hj
  cases hq : es[j]? with
  | none => rw [hq] at hj; simp at hj
  | some q =>
    rw [hq] at hj
    have hm := h q (List.mem_of_getElem? hq)
    split at hj
    · simp at hj; subst hj; exact hf q hm
    · simp at hj; subst hj; exact hm
theorem es_mapUpdate (hE : EnvOK E P) (hR : Rel P G s ν V w) (hρ : ∀ y, Val V (ρ y)) {t : TypeId} {m k y : Operand} (ho : o.op = .mapUpdate t m k y ∨ o.op = .insert t m k y) (h : Ok (ex_mapUpdate E ρ t m k y) s x s' p) : Goal P G s ν V w s' p (execOp (fun y => den ν (ρ y)) o) x := by
  have hx : execOp (fun y => den ν (ρ y)) o = (do Instr.mapUpdate t (den ν (ρ m)) (den ν (ρ k)) (den ν (ρ y)); pure Next.skip) := by
    rcases ho with ho | ho <;> simp [execOp, ho]
  rw [hx]
  unfold ex_mapUpdate at h
  obtain ⟨d, s1, p2, p3, h2, h3, rfl⟩ := ok_bind.1 h
  obtain ⟨hdd, rfl, rfl⟩ := ok_und.1 h2
  have hu := und_ok hE hdd
  split at h3
  · rename_i kt e b he
    obtain ⟨r, s2, p4, p5, h4, h5, rfl⟩ := ok_bind.1 h3
    obtain ⟨hb, rfl, rfl⟩ := ok_map.1 h4
    obtain ⟨f, s3, p6, p7, h6, h7, rfl⟩ := ok_bind.1 h5
    obtain ⟨rfl, hw, hF⟩ := run_find (ν := ν) (w := w) hE h6
    obtain ⟨es, c⟩ := r
    obtain ⟨g1, g2, g3⟩ := mapAt hR hb
    cases f with
    | none =>
      obtain ⟨u, s4, p8, p9, h8, h9, rfl⟩ := ok_bind.1 h7
      obtain ⟨rfl, rfl, rfl⟩ := ok_pure.1 h9
      obtain ⟨_, ht, rfl, rfl⟩ := ok_put.1 h8
      refine ⟨Nat.le_refl _, ν, _, _, run_u ?_, .skip, trivial, post_map hR hb ht (es' := appR es [(ρ k, ρ y, c)]) ?_ ?_ (ea := ((es.map (denE ν)).toArray.push { key := den ν (ρ k), val := den ν (ρ y), born := c })) ?_⟩
      · rw [he]
        simp only [Instr.mapUpdate, Sem.run_bind, run_underlying hu, Result.andThen_ok, den, run_getObj g1, hF.check, hF.find, Option.map_none]
        exact run_setMap g1 _
      · rw [appR_eq]
        intro e he
        rcases List.mem_append.1 he with he | he
        · exact g2 e he
        · simp at he; subst he; exact ⟨hρ k, hρ y⟩
      · simp [FP.W]
      · rw [appR_eq]
        apply Array.ext'
        simp [denE]
    | some q =>
      obtain ⟨i, x', born⟩ := q
      obtain ⟨k', e1, e2⟩ := hF.hit i x' born rfl
      obtain ⟨u, s4, p8, p9, h8, h9, rfl⟩ := ok_bind.1 h7
      obtain ⟨rfl, rfl, rfl⟩ := ok_pure.1 h9
      obtain ⟨_, ht, rfl, rfl⟩ := ok_put.1 h8
      refine ⟨Nat.le_refl _, ν, _, _, run_u ?_, .skip, trivial, post_map hR hb ht (es' := setKE es i (ρ k) (ρ y)) (modify_val g2 (fun e he => ⟨hρ k, hρ y⟩)) ?_ (ea := ((es.map (denE ν)).toArray.modify i fun e => { e with key := den ν (ρ k), val := den ν (ρ y) })) (modify_den ν es i _ _ (fun e => rfl))⟩
      · rw [he]
        have hk : (((es.map (denE ν)).toArray[i]?).map (·.key)).getD (den ν (ρ k)) = den ν k' := by
          simp [e1, denE]
        simp only [Instr.mapUpdate, Sem.run_bind, run_underlying hu, Result.andThen_ok, den, run_getObj g1, hF.check, hF.find, Option.map_some, hk, e2]
        exact run_setMap g1 _
      · simp [FP.W]
  · exact (ok_fail h3).elim
theorem es_mapEntry (hE : EnvOK E P) (hR : Rel P G s ν V w) (hρ : ∀ y, Val V (ρ y)) {t : TypeId} {m k : Operand} (ho : o.op = .mapEntry t m k) (h : Ok (ex_mapEntry E ρ t m k) s x s' p) : Goal P G s ν V w s' p (execOp (fun y => den ν (ρ y)) o) x := by
  simp only [execOp, ho]
  refine goal_val h (fun y p1 h1 => ?_)
  obtain ⟨d, s1, p2, p3, h2, h3, rfl⟩ := ok_bind.1 h1
  obtain ⟨hdd, rfl, rfl⟩ := ok_und.1 h2
  have hu := und_ok hE hdd
  split at h3
  · rename_i kt e b he
    obtain ⟨r, s2, p4, p5, h4, h5, rfl⟩ := ok_bind.1 h3
    obtain ⟨hb, rfl, rfl⟩ := ok_map.1 h4
    obtain ⟨f, s3, p6, p7, h6, h7, rfl⟩ := ok_bind.1 h5
    obtain ⟨rfl, hw, hF⟩ := run_find (ν := ν) (w := w) hE h6
    obtain ⟨es, c⟩ := r
    obtain ⟨g1, g2, g3⟩ := mapAt hR hb
    cases f with
    | none =>
      obtain ⟨z, s5, q1, q2, k1, k2, rfl⟩ := ok_bind.1 h7
      obtain ⟨rfl, rfl, hv, i, v, hi, hz, hd, hty⟩ := zero_get hE k1
      obtain ⟨u, s4, p8, p9, h8, h9, rfl⟩ := ok_bind.1 k2
      obtain ⟨rfl, rfl, rfl⟩ := ok_pure.1 h9
      obtain ⟨_, ht, rfl, rfl⟩ := ok_put.1 h8
      refine ⟨Nat.le_refl _, ν, _, ?_, ?_, post_map hR hb ht (es' := appR es [(ρ k, z, c)]) ?_ ?_ (ea := ((es.map (denE ν)).toArray.push { key := den ν (ρ k), val := v, born := c })) ?_⟩
      · rw [he]
        simp only [Instr.mapEntry, Sem.run_bind, run_underlying hu, Result.andThen_ok, den, run_getObj g1, hF.check, hF.find, Option.map_none, run_zero hE hty hz, run_setMap g1]
        simp [denL, hd, den, goInt]
      · exact ⟨hv _, trivial, trivial⟩
      · rw [appR_eq]
        intro e he
        rcases List.mem_append.1 he with he | he
        · exact g2 e he
        · simp at he; subst he; exact ⟨hρ k, hv V⟩
      · simp [FP.W]
      · rw [appR_eq]
        apply Array.ext'
        simp [denE, hd]
    | some q =>
      obtain ⟨i, x', born⟩ := q
      obtain ⟨k', e1, e2⟩ := hF.hit i x' born rfl
      obtain ⟨u, s4, p8, p9, h8, h9, rfl⟩ := ok_bind.1 h7
      obtain ⟨rfl, rfl, rfl⟩ := ok_pure.1 h9
      obtain ⟨_, ht, rfl, rfl⟩ := ok_put.1 h8
      have hvx := (g2 _ (List.mem_of_getElem? e1)).2
      refine ⟨Nat.le_refl _, ν, _, ?_, ⟨val_mono (fun b hb => Or.inl hb) _ hvx, trivial, trivial⟩, post_map hR hb ht (es' := setK es i (ρ k)) (modify_val g2 (fun e he => ⟨hρ k, he.2⟩)) ?_ (ea := ((es.map (denE ν)).toArray.modify i fun e => { e with key := den ν (ρ k) })) (modify_den ν es i _ _ (fun e => rfl))⟩
      · rw [he]
        have hk : (((es.map (denE ν)).toArray[i]?).map (·.key)).getD (den ν (ρ k)) = den ν k' := by
          simp [e1, denE]
        simp only [Instr.mapEntry, Sem.run_bind, run_underlying hu, Result.andThen_ok, den, run_getObj g1, hF.check, hF.find, Option.map_some, hk, e2, run_setMap g1]
        simp [denL, den, goInt, e1, denE]
      · simp [FP.W]
  · exact (ok_fail h3).elim
theorem es_entryStore (hR : Rel P G s ν V w) (hρ : ∀ y, Val V (ρ y)) {t : TypeId} {m k y : Operand} (ho : o.op = .entryStore t m k y) (h : Ok (ex_entryStore E ρ m k y) s x s' p) : Goal P G s ν V w s' p (execOp (fun y => den ν (ρ y)) o) x := by
  simp only [execOp, ho]
  unfold ex_entryStore at h
  split at h
  · rename_i b kk n he hn
    obtain ⟨r, s2, p4, p5, h4, h5, rfl⟩ := ok_bind.1 h
    obtain ⟨hb, rfl, rfl⟩ := ok_map.1 h4
    obtain ⟨es, c⟩ := r
    obtain ⟨g1, g2, g3⟩ := mapAt hR hb
    cases hi : es.findIdx? (fun e => (e.2.2 : Int) == n) with
    | none => simp only [hi] at h5; exact (ok_fail h5).elim
    | some i =>
      simp only [hi] at h5
      obtain ⟨u, s4, p8, p9, h8, h9, rfl⟩ := ok_bind.1 h5
      obtain ⟨rfl, rfl, rfl⟩ := ok_pure.1 h9
      obtain ⟨_, ht, rfl, rfl⟩ := ok_put.1 h8
      refine ⟨Nat.le_refl _, ν, _, _, run_u ?_, .skip, trivial, post_map hR hb ht (es' := setE es i (ρ y)) (modify_val g2 (fun e he => ⟨he.1, hρ y⟩)) ?_ (ea := ((es.map (denE ν)).toArray.modify i fun e => { e with val := den ν (ρ y) })) (modify_den ν es i _ _ (fun e => rfl))⟩
      · rw [he, hn]
        have hidx : (es.map (denE ν)).toArray.findIdx? (fun e => (e.born : Int) == n) = some i := by
          rw [← hi]
          simp [List.findIdx?_map, denE, Function.comp_def]
        simp only [Instr.entryStore, Sem.run_bind, den, run_getObj g1, Result.andThen_ok, Go.asInt, asIntOf, Sem.run_pure, hidx]
        exact run_setMap g1 _
      · simp [FP.W]
  · exact (ok_fail h).elim
end Go.Ev
/- Iterators, assertions of types, deferred calls. -/
namespace Go.Ev
variable {E : Env} {P : Program} {G : Nat} {s s' : HS} {p : FP} {ν : Nu} {V : Nat → Prop} {w : World}
variable {ρ : Operand → SV} {o : Oper} {x : Nx}
/-- a new block that is no row, and a pointer to it -/
theorem goal_new (hR : Rel P G s ν V w) (hf : Fresh s s' V) {ao : AObj} {ob : Obj} (hv : ValO V ao) (ho : ∀ ν', Agree V ν ν' → ∀ b, ObjR P ν' b ao ob) {y : SV} {q : FP} (h : Ok (new ao >>= fun b => pure (SV.ptr b 1 0 0)) s y s' q) :
    s.c ≤ s'.c ∧ ∃ ν' w', ((do pure (Value.pointer (some ⟨← newObj ob, 0, none⟩)) : Sem Value)).run P w = .ok (den ν' y) w' ∧ Val (VN V s s') y ∧ Post P G s ν V w s' q ν' w' := by
  obtain ⟨b, s2, p3, p4, h3, h4, rfl⟩ := ok_bind.1 h
  obtain ⟨hn, ht, rfl, rfl, rfl⟩ := ok_new.1 h3
  obtain ⟨rfl, rfl, rfl⟩ := ok_pure.1 h4
  have hv' : ¬ V s.c := hf s.c (Nat.le_refl _) (Nat.lt_succ_self _)
  refine ⟨Nat.le_succ _, setNu ν s.c w.heap.size 0, w.alloc ob, ?_, Or.inr ⟨Nat.le_refl _, Nat.lt_succ_self _⟩, post_new hR ht hn hv' 0 (ao := ao) (o := ob) hv (ho _ (setNu_agree hv') _) _ rfl rfl rfl rfl⟩
  simp [den, setNu]
theorem es_range (hE : EnvOK E P) (hR : Rel P G s ν V w) (hf : Fresh s s' V) {t : TypeId} {a : Operand} (ho : o.op = .range t a) (h : Ok (ex_range E ρ t a) s x s' p) : Goal P G s ν V w s' p (execOp (fun y => den ν (ρ y)) o) x := by
  simp only [execOp, ho]
  refine goal_val h (fun y p1 h1 => ?_)
  obtain ⟨d, s1, p2, p3, h2, h3, rfl⟩ := ok_bind.1 h1
  obtain ⟨hdd, rfl, rfl⟩ := ok_und.1 h2
  have hu := und_ok hE hdd
  split at h3
  · rename_i l he
    obtain ⟨g1, ν', w', g2, g3, g4⟩ := goal_new (ao := .siter l 0) (ob := .stringIter ⟨l.toArray⟩ 0) hR hf (by trivial) (fun _ _ _ => rfl) h3
    refine ⟨g1, ν', w', ?_, g3, g4.mono (fun b hb => Or.inr hb)⟩
    rw [he]
    simpa [Instr.range, run_underlying hu, den] using g2
  · rename_i k e he
    obtain ⟨g1, ν', w', g2, g3, g4⟩ := goal_new (ao := .miter none 0 [] 0) (ob := .mapIter none 0 #[] 0) hR hf (by intro b hb; cases hb) (fun _ _ _ => rfl) h3
    refine ⟨g1, ν', w', ?_, g3, g4.mono (fun b hb => Or.inr hb)⟩
    rw [he]
    simpa [Instr.range, run_underlying hu, den] using g2
  · rename_i k e m he
    obtain ⟨r, s2, p4, p5, h4, h5, rfl⟩ := ok_bind.1 h3
    obtain ⟨hb, rfl, rfl⟩ := ok_map.1 h4
    obtain ⟨es, c⟩ := r
    obtain ⟨k1, k2, k3⟩ := mapAt hR hb
    obtain ⟨g1, ν', w', g2, g3, g4⟩ := goal_new (ao := .miter (some m) c [] c) (ob := .mapIter (some (ν.ρ m)) c #[] c) hR hf (by intro b hb; injection hb with hb; subst hb; exact k3) (fun ν' ha b => by show _ = _; simp [(ha m k3).1]) h5
    refine ⟨g1, ν', w', ?_, g3, g4.mono (fun b hb => Or.inr (Or.inr hb))⟩
    rw [he]
    simpa [Instr.range, run_underlying hu, den, run_getObj k1] using g2
  · exact (ok_fail h3).elim
theorem run_getO {w : World} {b : Nat} {ob : Obj} (h : w.heap[b]? = some ob) (hc : ∀ c e f, ob ≠ .cells c e f) : (getObj b).run P w = .ok ob w := by
  simp only [getObj, Sem.run, h]
theorem run_setO {w : World} {b : Nat} {ob : Obj} (h : w.heap[b]? = some ob) (hc : ∀ c e f, ob ≠ .cells c e f) (o' : Obj) : (setObj b o').run P w = .ok () { w with heap := w.heap.setIfInBounds b o' } := by
  simp only [setObj, Sem.run, h]
/-- a block that is no row turned -/
theorem post_obj (hR : Rel P G s ν V w) {b : Nat} {ao ao' : AObj} {ob : Obj} (hb : s.h.get b = some ao) (ht : b < top) (hv : ValO V ao') (ho : ObjR P ν b ao' ob) {q : FP} (hq : q.W b) :
    Post P G s ν V w ⟨s.h.upd 20 b (some ao'), s.c⟩ q ν { w with heap := w.heap.setIfInBounds (ν.ρ b) ob } := by
  obtain ⟨r, h1, _⟩ := hR.blk b _ hb
  have hlt := (Array.getElem?_eq_some_iff.1 h1).1
  refine post_put hR hb ht (ao := ao') (r := ob) hv ho hq (by simp) ?_ (fun k hk => ?_) rfl rfl rfl
  · simp [hlt]
  · show (w.heap.setIfInBounds (ν.ρ b) _)[k]? = _
    rw [Array.getElem?_setIfInBounds, if_neg (Ne.symm hk)]
theorem es_next (hR : Rel P G s ν V w) {a : Operand} {isS : Bool} (ho : o.op = .next a isS) (h : Ok (ex_next E ρ a isS) s x s' p) : Goal P G s ν V w s' p (execOp (fun y => den ν (ρ y)) o) x := by
  simp only [execOp, ho]
  refine goal_val h (fun y p1 h1 => ?_)
  split at h1
  · rename_i b z he
    have hd : den ν (ρ a) = .pointer (some ⟨ν.ρ b, 0, none⟩) := by rw [he]; simp [den]
    obtain ⟨ao, s1, p2, p3, h2, h3, rfl⟩ := ok_bind.1 h1
    obtain ⟨hb, rfl, rfl⟩ := ok_get.1 h2
    obtain ⟨r, hr, hor⟩ := hR.blk b _ hb
    have hvo := hR.cl b _ hb
    split at h3
    · rename_i l pos
      have hor : r = .stringIter ⟨l.toArray⟩ pos := hor
      subst hor
      have hg := run_getO (P := P) hr (by simp)
      have hsz : (⟨l.toArray⟩ : ByteArray).size = l.length := by simp [ByteArray.size]
      rcases ok_bif.1 h3 with ⟨hc, h4⟩ | ⟨hc, h4⟩
      · rw [lenR_eq] at hc
        have hc := blt_true hc
        obtain ⟨u, s4, p8, p9, h8, h9, rfl⟩ := ok_bind.1 h4
        obtain ⟨rfl, rfl, rfl⟩ := ok_pure.1 h9
        obtain ⟨_, ht, rfl, rfl⟩ := ok_put.1 h8
        refine ⟨Nat.le_refl _, ν, _, ?_, ⟨trivial, trivial, trivial, trivial⟩, post_obj hR hb ht (ao' := .siter l (pos + (Utf8.decode ⟨l.toArray⟩ pos).2)) (ob := .stringIter ⟨l.toArray⟩ (pos + (Utf8.decode ⟨l.toArray⟩ pos).2)) (by trivial) rfl (by simp [FP.W])⟩
        rw [hd]
        simp only [Instr.next, Sem.run_bind, hg, Result.andThen_ok, hsz, hc, if_true]
        rw [run_setO hr (by simp)]
        simp [den, denL, goInt]
      · obtain ⟨rfl, rfl, rfl⟩ := ok_pure.1 h4
        rw [lenR_eq] at hc
        have hc : ¬ pos < l.length := fun h => by
          have : Nat.blt pos l.length = true := by
            show Nat.ble (pos + 1) l.length = true
            simp; omega
          rw [this] at hc; cases hc
        refine ⟨Nat.le_refl _, ν, w, ?_, by rw [VN_self]; exact ⟨trivial, trivial⟩, post_refl hR _⟩
        rw [hd]
        simp only [Instr.next, Sem.run_bind, hg, Result.andThen_ok, hsz, hc, if_false]
        simp [den, denL]
    · rename_i since seen last
      have hor : r = .mapIter none since seen.toArray last := hor
      subst hor
      have hg := run_getO (P := P) hr (by simp)
      obtain ⟨rfl, rfl, rfl⟩ := ok_pure.1 h3
      refine ⟨Nat.le_refl _, ν, w, ?_, by rw [VN_self]; exact ⟨trivial, trivial⟩, post_refl hR _⟩
      rw [hd]
      simp only [Instr.next, Sem.run_bind, hg, Result.andThen_ok]
      simp [den, denL]
    · rename_i m since seen last
      have hor : r = .mapIter (some (ν.ρ m)) since seen.toArray last := hor
      subst hor
      have hg := run_getO (P := P) hr (by simp)
      obtain ⟨rr, s2, p4, p5, h4, h5, rfl⟩ := ok_bind.1 h3
      obtain ⟨hm, rfl, rfl⟩ := ok_map.1 h4
      obtain ⟨es, c⟩ := rr
      obtain ⟨k1, k2, k3⟩ := mapAt hR hm
      have hfl : (es.map (denE ν)).toArray.filter (fun e => !seen.toArray.contains e.born) = ((es.filter fun e => !seen.contains e.2.2).map (denE ν)).toArray := by
        apply Array.ext'
        simp [List.filter_map, denE, Function.comp_def]
        try rfl
      have hall : (es.map (denE ν)).toArray.all (fun e => decide (e.born ≥ last)) = es.all fun e => Nat.ble last e.2.2 := by
        rw [Bool.eq_iff_iff]
        simp [denE]
        constructor
        · exact fun h a b c hm => of_decide_eq_true (h a b c hm)
        · exact fun h a b c hm => decide_eq_true (h a b c hm)
      have hcond : (seen.isEmpty = true ∨ es.isEmpty = true ∨ (es.all fun e => Nat.ble last e.2.2) = false) → (!seen.toArray.isEmpty && !(es.map (denE ν)).toArray.isEmpty && (es.map (denE ν)).toArray.all fun e => decide (e.born ≥ last)) = false := fun h => by
        rw [hall]
        rcases h with h | h | h
        · simp at h; simp [h]
        · simp at h; simp [h]
        · rw [h]; simp
      cases hflt : es.filter fun e => !seen.contains e.2.2 with
      | nil =>
        simp only [hflt] at h5
        rcases ok_bif.1 h5 with ⟨hc, h6⟩ | ⟨_, h6⟩
        case inr => exact (ok_fail h6).elim
        obtain ⟨rfl, rfl, rfl⟩ := ok_pure.1 h6
        refine ⟨Nat.le_refl _, ν, w, ?_, by rw [VN_self]; exact ⟨trivial, trivial⟩, post_refl hR _⟩
        rw [hd]
        have hcc := hcond (by simpa [or_assoc] using hc)
        rw [hflt] at hfl
        simp only [Instr.next, Sem.run_bind, hg, Result.andThen_ok, run_getObj k1, hcc, Bool.false_eq_true, if_false, hfl]
        simp [Question.forced, den, denL]
      | cons e rest =>
        cases rest with
        | cons e2 rest => simp only [hflt] at h5; exact (ok_fail h5).elim
        | nil =>
          simp only [hflt] at h5
          rcases ok_bif.1 h5 with ⟨hc, h6⟩ | ⟨_, h6⟩
          case inr => exact (ok_fail h6).elim
          obtain ⟨u, s4, p8, p9, h8, h9, rfl⟩ := ok_bind.1 h6
          obtain ⟨rfl, rfl, rfl⟩ := ok_pure.1 h9
          obtain ⟨_, ht, rfl, rfl⟩ := ok_put.1 h8
          rw [Bool.and_eq_true] at hc
          obtain ⟨hc1, hc2⟩ := hc
          have hc1 := blt_true hc1
          have hmem : e ∈ es := by
            have : e ∈ es.filter fun e => !seen.contains e.2.2 := by rw [hflt]; simp
            exact (List.mem_filter.1 this).1
          have hve := k2 e hmem
          refine ⟨Nat.le_refl _, ν, _, ?_, ⟨trivial, val_mono (fun b hb => Or.inl hb) _ hve.1, val_mono (fun b hb => Or.inl hb) _ hve.2, trivial⟩, post_obj hR hb ht (ao' := .miter (some m) since (seen ++ [e.2.2]) c) (ob := .mapIter (some (ν.ρ m)) since (seen.toArray.push e.2.2) c) hvo.2 (by show _ = _; simp) (by simp [FP.W])⟩
          rw [hd]
          have hcc := hcond (by
            rw [Bool.or_eq_true] at hc2
            rcases hc2 with hc2 | hc2
            · exact .inl hc2
            · exact .inr (.inr (by simpa using hc2)))
          rw [hflt] at hfl
          have hne : ¬ e.2.2 ≥ since := by omega
          simp only [Instr.next, Sem.run_bind, hg, Result.andThen_ok, run_getObj k1, hcc, Bool.false_eq_true, if_false, hfl]
          have hs := run_setO (P := P) hr (by simp) (.mapIter (some (ν.ρ m)) since (seen ++ [e.2.2]).toArray c)
          simp [Question.forced, den, denL, denE, hc1, hne]
          rw [hs]
          rfl
    · exact (ok_fail h3).elim
  · exact (ok_fail h1).elim
theorem es_typeAssert (hE : EnvOK E P) (hR : Rel P G s ν V w) (hρ : ∀ y, Val V (ρ y)) {a : Operand} {xt t : TypeId} {ok : Bool} (ho : o.op = .typeAssert a xt t ok) (h : Ok (ex_typeAssert E ρ a t ok) s x s' p) : Goal P G s ν V w s' p (execOp (fun y => den ν (ρ y)) o) x := by
  simp only [execOp, ho]
  refine goal_val h (fun y p1 h1 => ?_)
  have hv := hρ a
  obtain ⟨d, s1, p2, p3, h2, h3, rfl⟩ := ok_bind.1 h1
  obtain ⟨hdd, rfl, rfl⟩ := ok_und.1 h2
  have hu := und_ok hE hdd
  have miss : ∀ {q : FP}, (∀ z, (zeroValue t).run P w = .ok z w → ok = true → (Instr.typeAssert (den ν (ρ a)) xt t ok).run P w = .ok (.tuple #[z, .bool false]) w) → Ok (bif ok then E.zero t >>= fun z => pure (SV.tup [z, .v (.bool false)]) else fail "typeAssert") s y s' q → s.c ≤ s'.c ∧ ∃ ν' w', (Instr.typeAssert (den ν (ρ a)) xt t ok).run P w = .ok (den ν' y) w' ∧ Val (VN V s s') y ∧ Post P G s ν V w s' (FP.nil.app q) ν' w' := fun {q} hm h => by
    rcases ok_bif.1 h with ⟨hc, h4⟩ | ⟨_, h4⟩
    case inr => exact (ok_fail h4).elim
    obtain ⟨z, s3, p6, p7, h6, h7, rfl⟩ := ok_bind.1 h4
    obtain ⟨rfl, rfl, hvz, i, v, hi, hz, hd, hty⟩ := zero_get hE h6
    obtain ⟨rfl, rfl, rfl⟩ := ok_pure.1 h7
    refine ⟨Nat.le_refl _, ν, w, ?_, by rw [VN_self]; exact ⟨hvz V, trivial, trivial⟩, post_refl hR _⟩
    rw [hm v (run_zero hE hty hz w) hc]
    simp [den, denL, hd]
  split at h3
  · exact (ok_fail h3).elim
  · rename_i hni
    split at h3
    · rename_i u y' he
      rw [he] at hv
      rcases ok_bif.1 h3 with ⟨hc, h4⟩ | ⟨hc, h4⟩
      · have hc := beq_true hc
        subst hc
        obtain ⟨rfl, rfl, rfl⟩ := ok_pure.1 h4
        refine ⟨Nat.le_refl _, ν, w, ?_, ?_, post_refl hR _⟩
        · rw [he]
          simp only [Instr.typeAssert, Sem.run_bind, run_underlying hu, Result.andThen_ok, den]
          cases d <;> first | exact (hni _ rfl).elim | (cases ok <;> simp [den, denL])
        · rw [VN_self]
          cases ok
          · exact hv
          · exact ⟨hv, trivial, trivial⟩
      · have hne : ¬ u = t := fun e => by rw [e] at hc; simp at hc
        refine miss (fun z hz hok => ?_) h4
        rw [he, hok]
        simp only [Instr.typeAssert, Sem.run_bind, run_underlying hu, Result.andThen_ok, den]
        cases d <;> first | exact (hni _ rfl).elim | simp [hne, hz]
    · rename_i he
      refine miss (fun z hz hok => ?_) h3
      rw [he, hok]
      simp only [Instr.typeAssert, Sem.run_bind, run_underlying hu, Result.andThen_ok, den]
      cases d <;> first | exact (hni _ rfl).elim | simp [hz]
    · exact (ok_fail h3).elim
end Go.Ev
/- len, append, copy. -/
namespace Go.Ev
variable {E : Env} {P : Program} {G : Nat} {s s' : HS} {p : FP} {ν : Nu} {V : Nat → Prop} {w : World}
/-- a step that yields a value: what is wanted of its end -/
def Yield (P : Program) (G : Nat) (s : HS) (ν : Nu) (V : Nat → Prop) (w : World) (s' : HS) (p : FP) (S : Sem Value) (y : SV) : Prop :=
  s.c ≤ s'.c ∧ ∃ ν' w', S.run P w = .ok (den ν' y) w' ∧ Val (VN V s s') y ∧ Post P G s ν V w s' p ν' w'
theorem yield_same (hR : Rel P G s ν V w) {S : Sem Value} {y : SV} (h1 : S.run P w = .ok (den ν y) w) (h2 : Val V y) (p : FP) : Yield P G s ν V w s p S y :=
  ⟨Nat.le_refl _, ν, w, h1, by rw [VN_self]; exact h2, post_refl hR p⟩
theorem Yield.mono {S : Sem Value} {y : SV} {q : FP} (h : Yield P G s ν V w s' p S y) (hw : ∀ b, p.W b → q.W b) : Yield P G s ν V w s' q S y :=
  let ⟨a, ν', w', b, c, d⟩ := h
  ⟨a, ν', w', b, c, d.mono hw⟩
theorem yield_int (hR : Rel P G s ν V w) {S : Sem Value} (n : Nat) (h1 : S.run P w = .ok (goInt (n : Int)) w) (p : FP) : Yield P G s ν V w s p S (intOf n) :=
  yield_same hR (y := intOf n) (by simpa [intOf, den, goInt] using h1) (by simp [intOf, Val]) p
theorem bytes_size (l : List UInt8) : (⟨l.toArray⟩ : ByteArray).size = l.length := by simp [ByteArray.size]
theorem run_lenA (hE : EnvOK E P) (hR : Rel P G s ν V w) {t ty : TypeId} {x y : SV} (h : Ok (lenS E x t) s y s' p) : Yield P G s ν V w s' p (Builtin.len_ #[t] ty #[den ν x]) y := by
  unfold lenS at h
  obtain ⟨d, s1, p2, p3, h2, h3, rfl⟩ := ok_bind.1 h
  obtain ⟨hdd, rfl, rfl⟩ := ok_und.1 h2
  have hu := und_ok hE hdd
  split at h3
  · rename_i l
    obtain ⟨rfl, rfl, rfl⟩ := ok_pure.1 h3
    exact yield_int hR _ (by simp [Builtin.len_, run_underlying hu, den, bytes_size, lenR_eq]) _
  · obtain ⟨rfl, rfl, rfl⟩ := ok_pure.1 h3
    exact yield_int hR _ (by simp [Builtin.len_, run_underlying hu, den]) _
  · obtain ⟨rfl, rfl, rfl⟩ := ok_pure.1 h3
    exact yield_int hR _ (by simp [Builtin.len_, run_underlying hu, den]) _
  · obtain ⟨rfl, rfl, rfl⟩ := ok_pure.1 h3
    exact yield_int hR _ (by simp [Builtin.len_, run_underlying hu, den]) _
  · rename_i b
    obtain ⟨r, s2, p4, p5, h4, h5, rfl⟩ := ok_bind.1 h3
    obtain ⟨hb, rfl, rfl⟩ := ok_map.1 h4
    obtain ⟨rfl, rfl, rfl⟩ := ok_pure.1 h5
    obtain ⟨es, c⟩ := r
    obtain ⟨k1, k2, k3⟩ := mapAt hR hb
    exact yield_int hR _ (by simp [Builtin.len_, run_underlying hu, den, run_getObj k1, lenR_eq]) _
  · obtain ⟨rfl, rfl, rfl⟩ := ok_pure.1 h3
    exact yield_int hR _ (by simp [Builtin.len_, run_underlying hu]) _
  · rename_i a _ _
    obtain ⟨d', s2, p4, p5, h4, h5, rfl⟩ := ok_bind.1 h3
    obtain ⟨hdd', rfl, rfl⟩ := ok_und.1 h4
    have hu' := und_ok hE hdd'
    split at h5
    · obtain ⟨rfl, rfl, rfl⟩ := ok_pure.1 h5
      exact yield_int hR _ (by simp [Builtin.len_, run_underlying hu, run_underlying hu']) _
    · exact (ok_fail h5).elim
  · exact (ok_fail h3).elim
theorem run_capA (hE : EnvOK E P) (hR : Rel P G s ν V w) {t ty : TypeId} {x y : SV} (hx : Val V x) (h : Ok (capA E x t) s y s' p) : Yield P G s ν V w s' p (Builtin.cap_ #[t] ty #[den ν x]) y := by
  unfold capA at h
  obtain ⟨d, s1, p2, p3, h2, h3, rfl⟩ := ok_bind.1 h
  obtain ⟨hdd, rfl, rfl⟩ := ok_und.1 h2
  have hu := und_ok hE hdd
  split at h3
  · obtain ⟨rfl, rfl, rfl⟩ := ok_pure.1 h3
    exact ⟨Nat.le_refl _, ν, w, by simp [Builtin.cap_, run_underlying hu, den, goInt], Or.inl hx, post_refl hR _⟩
  · obtain ⟨rfl, rfl, rfl⟩ := ok_pure.1 h3
    exact ⟨Nat.le_refl _, ν, w, by simp [Builtin.cap_, run_underlying hu, den, goInt], by simp [Val], post_refl hR _⟩
  · obtain ⟨rfl, rfl, rfl⟩ := ok_pure.1 h3
    exact ⟨Nat.le_refl _, ν, w, by simp [Builtin.cap_, run_underlying hu, den, goInt], by simp [Val], post_refl hR _⟩
  · obtain ⟨rfl, rfl, rfl⟩ := ok_pure.1 h3
    exact ⟨Nat.le_refl _, ν, w, by simp [Builtin.cap_, run_underlying hu, den, goInt], by simp [Val], post_refl hR _⟩
  · exact (ok_fail h3).elim
/-- what the second argument of an append yields -/
theorem src_of (_hE : EnvOK E P) (hR : Rel P G s ν V w) {size n : Nat} {xt : TypeId} {dx : TypeDesc} (hu : P.underlying xt = some dx) (hd : srcTy dx = true) {x : SV} {cs : List SV} {p : FP} {s' : HS} (h : Ok (srcCells size x) s (n, cs) s' p) (hl : cs.length = n * size) (_hsz : 0 < size) :
    Src P size xt (den ν x) n (denL ν cs) w := by
  have hk : (∃ e', P.underlying xt = some (.slice e')) ∨ P.underlying xt = some .string := by
    rw [hu]
    cases dx <;> simp_all [srcTy]
  obtain ⟨rfl, hw, hv, hcase⟩ := run_src hR h
  rcases hcase with ⟨n', c, rfl, rfl, rfl, rfl⟩ | ⟨l, rfl, rfl, rfl⟩ | ⟨b, i, c, rfl, hlen, hrg, hone⟩
  · refine ⟨hk, fun _ => rfl, rfl, rfl, by simp [denL], fun u hu => by simp [denL] at hu⟩
  · have hs1 : l = [] ∨ size = 1 := by
      rw [List.length_map] at hl
      rcases Nat.eq_zero_or_pos l.length with h | h
      · exact .inl (List.eq_nil_of_length_eq_zero h)
      · right
        have : l.length * 1 = l.length * size := by omega
        exact (Nat.eq_of_mul_eq_mul_left h this).symm
    have hden : denL ν (l.map fun b : UInt8 => SV.v (.int .u8 (b.toNat : Int))) = l.map fun b : UInt8 => Value.int .u8 (b.toNat : Int) := by
      rw [denL_eq, List.map_map]; rfl
    have hfc : ∀ w' : World, (Builtin.firstCells size l.length (.string ⟨l.toArray⟩)).run P w' = .ok (denL ν (l.map fun b : UInt8 => SV.v (.int .u8 (b.toNat : Int)))).toArray w' := fun w' => by
      rw [hden]
      simp only [Builtin.firstCells, Sem.run_pure]
      congr 1
      apply Array.ext'
      rw [extract_bytes]
      simp
    refine ⟨hk, fun _ => by simp only [den, Builtin.lenOf, bytes_size]; rfl, by simp only [den]; exact hfc w, by simp only [den]; exact hfc w.drew, by rw [denL_length]; exact hl, fun u hu => ?_⟩
    rw [hden] at hu
    obtain ⟨b, _, rfl⟩ := List.mem_map.1 hu
    rfl
  · have hnews : ∀ (w' : World), (∀ a, w'.cell? a = w.cell? a) → (Builtin.firstCells size n (.slice (some ⟨ν.ρ b, i * size, none⟩) n (c.getD (ν.κ b - i)))).run P w' = .ok (denL ν cs).toArray w' := fun w' hw' =>
      run_firstCells_some w' size n _ n _ (denL ν cs) (by rw [denL_length]; exact hlen) (fun j u hj => by rw [Addr.add_mid, hw']; exact hrg j u hj)
    exact ⟨hk, fun _ => rfl, by simp only [den]; exact hnews w (fun _ => rfl), by simp only [den]; exact hnews w.drew (fun _ => rfl), by rw [denL_length]; exact hlen, hone⟩
theorem first_of {size n : Nat} {x : SV} {cs : List SV} (hl : cs.length = n * size) (hsz : 0 < size) (hcase : (∃ n' c, x = .v (.slice none n' c) ∧ n' = 0 ∧ n = 0 ∧ cs = []) ∨ (∃ l, x = .str l ∧ n = l.length ∧ cs = l.map (fun b => SV.v (.int .u8 b.toNat))) ∨
      (∃ b i c, x = .slc b size i n c ∧ cs.length = n * size ∧ w.rangeAt (ν.ρ b) (i * size) (denL ν cs) ∧ (∀ v ∈ denL ν cs, one v))) :
    (Builtin.lenOf (den ν x)).run P w = .ok n w ∧ ∀ m, m ≤ n → (Builtin.firstCells size m (den ν x)).run P w = .ok (denL ν (cs.take (m * size))).toArray w := by
  rcases hcase with ⟨n', c, rfl, rfl, rfl, rfl⟩ | ⟨l, rfl, rfl, rfl⟩ | ⟨b, i, c, rfl, hlen, hrg, hone⟩
  · exact ⟨rfl, fun m hm => by simp [den, Builtin.firstCells, denL]⟩
  · have hs1 : l = [] ∨ size = 1 := by
      rw [List.length_map] at hl
      rcases Nat.eq_zero_or_pos l.length with h | h
      · exact .inl (List.eq_nil_of_length_eq_zero h)
      · right
        have : l.length * 1 = l.length * size := by omega
        exact (Nat.eq_of_mul_eq_mul_left h this).symm
    refine ⟨by simp only [den, Builtin.lenOf, bytes_size]; rfl, fun m hm => ?_⟩
    have htk : (l.map (fun b : UInt8 => SV.v (.int .u8 (b.toNat : Int)))).take (m * size) = (l.take m).map (fun b : UInt8 => SV.v (.int .u8 (b.toNat : Int))) := by
      rw [List.map_take]
      rcases hs1 with rfl | rfl
      · simp
      · rw [Nat.mul_one]
    rw [htk]
    have hden : denL ν ((l.take m).map fun b : UInt8 => SV.v (.int .u8 (b.toNat : Int))) = (l.take m).map fun b : UInt8 => Value.int .u8 (b.toNat : Int) := by
      rw [denL_eq, List.map_map]; rfl
    rw [hden]
    simp only [den, Builtin.firstCells, Sem.run_pure]
    congr 1
    apply Array.ext'
    rw [extract_bytes]
    simp
  · refine ⟨rfl, fun m hm => ?_⟩
    simp only [den]
    refine run_firstCells_some w size m _ n _ _ (by rw [denL_length, List.length_take, hlen]; exact Nat.min_eq_left (Nat.mul_le_mul_right _ hm)) (fun j u hj => ?_)
    rw [Addr.add_mid]
    refine hrg j u ?_
    rw [denL_get] at hj ⊢
    rw [List.getElem?_take] at hj
    split at hj
    · exact hj
    · cases hj
theorem run_copyA (hE : EnvOK E P) (hR : Rel P G s ν V w) {t ty : TypeId} {ts : List TypeId} {d x y : SV} (hx : Val V x) (h : Ok (copyA E t d x) s y s' p) : Yield P G s ν V w s' p (Builtin.copy_ (t :: ts).toArray ty #[den ν d, den ν x]) y := by
  unfold copyA at h
  obtain ⟨td, s1, p2, p3, h2, h3, rfl⟩ := ok_bind.1 h
  obtain ⟨hdd, rfl, rfl⟩ := ok_und.1 h2
  have hu := und_ok hE hdd
  split at h3
  · rename_i e
    obtain ⟨ti, s4, p8, p9, h8, h9, rfl⟩ := ok_bind.1 h3
    obtain ⟨hti, rfl, rfl⟩ := ok_info.1 h8
    obtain ⟨r, s5, q1, q2, k1, k2, rfl⟩ := ok_bind.1 h9
    obtain ⟨n, cs⟩ := r
    obtain ⟨u, s6, q3, q4, k3, k4, rfl⟩ := ok_bind.1 k2
    obtain ⟨ha, rfl, rfl⟩ := ok_asrt.1 k3
    simp only [Bool.and_eq_true, lenR_eq] at ha
    have ha1 := beq_true ha.1
    have ha2 := blt_true ha.2
    obtain ⟨rfl, hw, hv, hcase⟩ := run_src hR k1
    obtain ⟨hlen, hfirst⟩ := first_of (P := P) (ν := ν) (w := w) ha1 ha2 hcase
    split at k4
    · rename_i c
      obtain ⟨rfl, rfl, rfl⟩ := ok_pure.1 k4
      refine yield_int hR 0 ?_ _
      have h0 := hfirst 0 (Nat.zero_le _)
      simp only [Builtin.copy_]
      simp [run_underlying hu, hlen, den, run_size hE hti, h0]
    · rename_i b z i len c
      rcases ok_bif.1 k4 with ⟨hz, k5⟩ | ⟨_, k5⟩
      case inr => exact (ok_fail k5).elim
      have hz := beq_true hz
      obtain ⟨u, s7, q5, q6, k6, k7, rfl⟩ := ok_bind.1 k5
      obtain ⟨rfl, rfl, rfl⟩ := ok_pure.1 k7
      rw [takeR_eq] at k6
      have hvt : ValL V (cs.take (min n len * z)) := val_sub (hv hx) (fun y hy => List.mem_of_mem_take hy)
      obtain ⟨g1, g2, g3, g4⟩ := post_store hR k6 hvt
      refine ⟨by omega, ν, _, ?_, trivial, g4.mono (fun b hb => by simp [FP.W, hb])⟩
      have hfm := hfirst (min n len) (Nat.min_le_left _ _)
      have hst := run_storeCells_cells (P := P) (ν.ρ b) (i * z) (denL ν (cs.take (min n len * z))) 0 w (fun j hj => by simpa using (g2 j (by simpa [denL_length] using hj)).1) (fun j hj => by simpa using (g2 j (by simpa [denL_length] using hj)).2)
        (fun v hv => (Array.all_eq_true_iff_forall_mem.1 g3) v (by simpa using hv))
      have hfm : (Builtin.firstCells ti.size (min n len) (den ν x)).run P w = .ok (denL ν (cs.take (min n len * z))).toArray w := by rw [hz]; exact hfm
      have hm : Nat.min n len = min n len := rfl
      simp only [Builtin.copy_]
      simp only [Nat.add_zero] at hst
      simp [run_underlying hu, hlen, den, run_size hE hti, hm, hfm, hst, goInt, intOf]
    · exact (ok_fail k4).elim
  · exact (ok_fail h3).elim
theorem run_clearA (hE : EnvOK E P) (hR : Rel P G s ν V w) {t ty : TypeId} {ts : List TypeId} {b z i len : Nat} {c : Option Nat} {x : Nx} (hlen : len ≠ 0) (h : Ok (clearA E t b z i len) s x s' p) :
    Goal P G s ν V w s' p (do pure (Next.value (← Builtin.clear_ (t :: ts).toArray ty #[den ν (.slc b z i len c)]))) x := by
  unfold clearA at h
  obtain ⟨td, s1, p2, p3, h2, h3, rfl⟩ := ok_bind.1 h
  obtain ⟨hdd, rfl, rfl⟩ := ok_und.1 h2
  have hu := und_ok hE hdd
  split at h3
  · rename_i e
    obtain ⟨ti, s4, p8, p9, h8, h9, rfl⟩ := ok_bind.1 h3
    obtain ⟨hti, rfl, rfl⟩ := ok_info.1 h8
    obtain ⟨zr, s5, q1, q2, k1, k2, rfl⟩ := ok_bind.1 h9
    obtain ⟨rfl, rfl, hv, iz, v, hi, hz, hd, hty⟩ := zero_get hE k1
    obtain ⟨u, s6, q3, q4, k3, k4, rfl⟩ := ok_bind.1 k2
    obtain ⟨ha, rfl, rfl⟩ := ok_asrt.1 k3
    simp only [Bool.and_eq_true, lenR_eq] at ha
    obtain ⟨⟨⟨⟨a0, a1⟩, a2⟩, a3⟩, a4⟩ := ha
    have a0 := blt_true a0
    have a1 := beq_true a1
    have a2 := beq_true a2
    obtain ⟨u, s7, q5, q6, k6, k7, rfl⟩ := ok_bind.1 k4
    obtain ⟨rfl, rfl, rfl⟩ := ok_pure.1 k7
    have hvm : ValL V (many len zr.cells) := by
      rw [valL_iff]; intro x hx
      have := cells_val (hv V); rw [valL_iff] at this
      exact this x (many_mem hx)
    obtain ⟨g1, g2, g3, g4⟩ := post_store hR k6 hvm
    refine ⟨by omega, ν, _, _, run_v ?_, .val _, trivial, g4.mono (fun b hb => by simp [FP.W, hb])⟩
    have hst := run_storeCells_cells (P := P) (ν.ρ b) (i * z) (denL ν (many len zr.cells)) 0 w (fun j hj => by simpa using (g2 j (by simpa [denL_length] using hj)).1) (fun j hj => by simpa using (g2 j (by simpa [denL_length] using hj)).2)
      (fun v hv => (Array.all_eq_true_iff_forall_mem.1 g3) v (by simpa using hv))
    simp only [Nat.add_zero] at hst
    have hm := made_many ν v zr (hd ν) len z a2 a0
    have hzc : (Builtin.zeroCells v.cells len).toList = denL ν (many len zr.cells) := by
      have hs : v.cells.toList = denL ν zr.cells := by rw [← hd ν]; exact cells_den' ν zr
      have hl : v.cells.size = z := by rw [← Array.length_toList, hs, denL_length, a2]
      rw [← hm]
      unfold Builtin.zeroCells madeCells
      rw [hl]
    have hzv : (zeroValue e).run P w = .ok v w := run_zero hE hti (by rw [hty] at hti; injection hti with hti; rw [← hti]; exact hz) w
    cases len with
    | zero => exact (hlen rfl).elim
    | succ n => simp [Builtin.clear_, run_underlying hu, den, hzv, hzc, hst]
  · exact (ok_fail h3).elim
end Go.Ev
/- append. -/
namespace Go.Ev
variable {E : Env} {P : Program} {G : Nat} {s s' : HS} {p : FP} {ν : Nu} {V : Nat → Prop} {w : World}
theorem growBy_le (n : Nat) : ∀ r c, Builtin.growBy n r c ≤ max c (n + (n + 768) / 4)
  | 0, c => by simp [Builtin.growBy]; omega
  | r + 1, c => by
    unfold Builtin.growBy
    split
    · omega
    · have := growBy_le n r (c + (c + 768) / 4)
      omega
theorem next_le {n old : Nat} (h : old < n) : Builtin.nextslicecap n old ≤ 2 * n + 768 := by
  unfold Builtin.nextslicecap
  split
  · omega
  · split
    · omega
    · have := growBy_le n 4 old
      omega
theorem next_fit {n old bytes : Nat} (h : old < n) (hn : n ≤ 1000000) (hb : bytes ≤ 10000) : Builtin.nextslicecap n old * bytes ≤ 281474976710656 := by
  have h1 := next_le h
  have : Builtin.nextslicecap n old * bytes ≤ (2 * 1000000 + 768) * 10000 := Nat.mul_le_mul (by omega) hb
  omega
theorem zeroCells_len (z : Array Value) (n : Nat) : (Builtin.zeroCells z n).toList.length = n * z.size := by simp [Builtin.zeroCells]
theorem zeroCells_one {z : Array Value} (hz : 0 < z.size) (h : ∀ v ∈ z.toList, one v) (n : Nat) : ∀ v ∈ (Builtin.zeroCells z n).toList, one v := by
  intro v hv
  simp only [Builtin.zeroCells, Array.toList_map, List.mem_map] at hv
  obtain ⟨i, _, rfl⟩ := hv
  have hi : i % z.size < z.size := Nat.mod_lt _ hz
  have : z[i % z.size]! = z[i % z.size] := by simp [hi]
  rw [this]
  exact h _ (by simp)
/-- a block forgotten -/
theorem post_del (hR : Rel P G s ν V w) {b : Nat} {u : Unit} (h : Ok (del b) s u s' p) : s'.c = s.c ∧ Post P G s ν V w s' p ν w := by
  obtain ⟨_, ht, rfl, rfl⟩ := ok_del.1 h
  have hget : ∀ x o, (s.h.upd 20 b none).get x = some o → s.h.get x = some o := fun x o hx => by
    rw [upd20 ht] at hx
    split at hx
    · cases hx
    · exact hx
  refine ⟨rfl, ⟨?_, fun _ _ => ⟨rfl, rfl⟩, Fr.refl _ _ _ _, fun b h1 h2 => by have : b < s.c := h2; omega⟩⟩
  have hVN : VN V s ⟨s.h.upd 20 b none, s.c⟩ = V := VN_self V s
  rw [hVN]
  exact ⟨fun x o hx => hR.blk x o (hget x o hx), fun x o hx => hR.cl x o (hget x o hx), fun x y o1 o2 hx hy he => hR.inj x y o1 o2 (hget x o1 hx) (hget y o2 hy) he, hR.glob⟩
/-- a row that grows where it lies: its old number is forgotten -/
theorem post_inplace (hR : Rel P G s ν V w) {b b' : Nat} {e e2 : TypeId} {l cs : List SV} {rest rest' : List Value} {f1 f2 : Nat} {u : Unit} (hb : s.h.get b = some (.cells e2 l true)) (hA : CellsAt P ν w b e2 l true rest f1 f2) {s1 : HS} {p1 p2 : FP}
    (h1 : Ok (newRow e (l ++ cs) true) s b' s1 p1) (h2 : Ok (del b) s1 u s' p2) (hf : Fresh s s' V) (hv : ValL V cs) (he : e = e2) (hlen : cs.length + rest'.length = rest.length) (hr' : ∀ v ∈ rest', v ∈ rest) {w' : World}
    (g1 : w'.heap[ν.ρ b]? = some (.cells (denL ν l ++ (denL ν cs ++ rest')).toArray e2 (f1, f2))) (g2 : ∀ k, k ≠ ν.ρ b → w'.heap[k]? = w.heap[k]?) (g3 : w'.heap.size = w.heap.size) (g4 : w'.os = w.os) (g5 : w'.tape = w.tape) (g6 : w'.output = w.output) :
    b' = s.c ∧ s'.c = s.c + 1 ∧ (setNu ν s.c (ν.ρ b) (ν.κ b)).ρ b' = ν.ρ b ∧ (setNu ν s.c (ν.ρ b) (ν.κ b)).κ b' = ν.κ b ∧ Post P G s ν V w s' (p1.app p2) (setNu ν s.c (ν.ρ b) (ν.κ b)) w' := by
  subst he
  unfold newRow at h1
  rcases ok_bif.1 h1 with ⟨hc, h3⟩ | ⟨_, h3⟩
  case inr => exact (ok_fail h3).elim
  obtain ⟨hn, ht, rfl, rfl, rfl⟩ := ok_new.1 h3
  obtain ⟨_, htb, rfl, rfl⟩ := ok_del.1 h2
  rw [allR_eq, List.all_eq_true] at hc
  have hv' : ¬ V s.c := hf s.c (Nat.le_refl _) (Nat.lt_succ_self _)
  obtain ⟨hVb, hVl⟩ := hR.cl b _ hb
  have hbne : b ≠ s.c := fun e => hv' (e ▸ hVb)
  have hag := setNu_agree (ν := ν) (r := ν.ρ b) (k := ν.κ b) hv'
  have hget : ∀ x o, ((s.h.upd 20 s.c (some (.cells e (l ++ cs) true))).upd 20 b none).get x = some o → x ≠ b ∧ ((x = s.c ∧ o = .cells e (l ++ cs) true) ∨ (x ≠ s.c ∧ s.h.get x = some o)) := fun x o hx => by
    rw [upd20 htb] at hx
    split at hx
    · cases hx
    · rename_i hxb
      rw [upd20 ht] at hx
      split at hx
      · rename_i hxc
        injection hx with hx
        exact ⟨hxb, .inl ⟨hxc, hx.symm⟩⟩
      · rename_i hxc
        exact ⟨hxb, .inr ⟨hxc, hx⟩⟩
  have hvl2 : ValL V (l ++ cs) := by
    rw [valL_iff]; intro y hy
    have h1 : ValL V l := hVl
    rw [valL_iff] at h1 hv
    rcases List.mem_append.1 hy with hy | hy
    · exact h1 y hy
    · exact hv y hy
  have hmono : ∀ x, V x → VN V s ⟨(s.h.upd 20 s.c (some (.cells e (l ++ cs) true))).upd 20 b none, s.c + 1⟩ x := fun x hx => Or.inl hx
  refine ⟨rfl, rfl, by simp [setNu], by simp [setNu], ⟨⟨fun x o hx => ?_, fun x o hx => ?_, fun x y o1 o2 hx hy he => ?_, fun g hg => ?_⟩, fun x hx => ?_, ⟨g4, g5, g6, by rw [g3]; exact Nat.le_refl _, fun k _ hk => g2 k (fun e => hk b (Or.inr rfl) hVb e.symm)⟩, fun x h1 h2 => ?_⟩⟩
  · obtain ⟨hxb, ⟨rfl, rfl⟩ | ⟨hxc, hx⟩⟩ := hget x o hx
    · refine ⟨.cells (denL ν l ++ (denL ν cs ++ rest')).toArray e (f1, f2), ?_, rest', f1, f2, ?_, ?_, ?_, by simp, fun _ => ?_⟩
      · have : (setNu ν s.c (ν.ρ b) (ν.κ b)).ρ s.c = ν.ρ b := by simp [setNu]
        rw [this]; exact g1
      · rw [denL_agree hag _ hvl2, denL_append, List.append_assoc]
      · rw [denL_agree hag _ hvl2]
        intro v hv
        rcases List.mem_append.1 hv with hv | hv
        · rw [denL_eq] at hv
          obtain ⟨y, hy, rfl⟩ := List.mem_map.1 hv
          exact one1_den ν (hc y hy)
        · exact hA.one v (List.mem_append.2 (.inr (hr' v hv)))
      · rw [denL_agree hag _ hvl2]
        have hfr := hA.mark
        rw [List.length_append, denL_length] at hfr ⊢
        refine hfr.imp id (fun hfr => ⟨?_, hfr.2⟩)
        have hfr := hfr.1
        rw [List.length_append]
        omega
      · obtain ⟨i, hi, hn⟩ := hA.loose rfl
        refine ⟨i, hi, ?_⟩
        have : (setNu ν s.c (ν.ρ b) (ν.κ b)).κ s.c = ν.κ b := by simp [setNu]
        rw [this, List.length_append]
        omega
    · obtain ⟨r, hr, hor⟩ := hR.blk x o hx
      obtain ⟨hvx, hvo⟩ := hR.cl x o hx
      refine ⟨r, ?_, objR_agree hag hvx hvo hor⟩
      rw [(hag x hvx).1, g2 _ (fun e => hxb (hR.inj x b o _ hx hb e))]
      exact hr
  · obtain ⟨hxb, ⟨rfl, rfl⟩ | ⟨hxc, hx⟩⟩ := hget x o hx
    · exact ⟨Or.inr ⟨Nat.le_refl _, Nat.lt_succ_self _⟩, valO_mono hmono (.cells e (l ++ cs) true) hvl2⟩
    · obtain ⟨hvx, hvo⟩ := hR.cl x o hx
      exact ⟨hmono _ hvx, valO_mono hmono _ hvo⟩
  · have key : ∀ x o, x ≠ b → x ≠ s.c → s.h.get x = some o → (setNu ν s.c (ν.ρ b) (ν.κ b)).ρ x = ν.ρ x ∧ ν.ρ x ≠ ν.ρ b := fun x o hxb hxc hx => ⟨by simp [setNu, hxc], fun e => hxb (hR.inj x b o _ hx hb e)⟩
    obtain ⟨hxb, ⟨rfl, rfl⟩ | ⟨hxc, hx⟩⟩ := hget x o1 hx
    · obtain ⟨hyb, ⟨rfl, rfl⟩ | ⟨hyc, hy⟩⟩ := hget y o2 hy
      · rfl
      · obtain ⟨k1, k2⟩ := key y o2 hyb hyc hy
        rw [k1] at he
        simp [setNu] at he
        exact (k2 he.symm).elim
    · obtain ⟨k1, k2⟩ := key x o1 hxb hxc hx
      obtain ⟨hyb, ⟨rfl, rfl⟩ | ⟨hyc, hy⟩⟩ := hget y o2 hy
      · rw [k1] at he
        simp [setNu] at he
        exact (k2 he).elim
      · obtain ⟨k3, k4⟩ := key y o2 hyb hyc hy
        rw [k1, k3] at he
        exact hR.inj x y o1 o2 hx hy he
  · obtain ⟨h1, h2⟩ := hR.glob g hg
    exact ⟨by rw [(hag g h2).1]; exact h1, hmono _ h2⟩
  · have : x ≠ s.c := fun e => hx (by subst e; exact ⟨Nat.le_refl _, Nat.lt_succ_self _⟩)
    simp [setNu, this]
  · right
    have h2 : x < s.c + 1 := h2
    have : x = s.c := by omega
    subst this
    exact ⟨b, Or.inr rfl, hVb, by simp [setNu]⟩
end Go.Ev
/- append, in all its cases. -/
namespace Go.Ev
variable {E : Env} {P : Program} {G : Nat} {s s' : HS} {p : FP} {ν : Nu} {V : Nat → Prop} {w : World}
/-- the row that an append lays anew -/
theorem post_grown (hR : Rel P G s ν V w) (hf : Fresh s s' V) {e : TypeId} {ti : TypeInfo} (hi : P.info? e = some ti) {z : Value} (hzs : z.cells.size = ti.size) (h0 : 0 < ti.size) (hz1 : ∀ v ∈ z.cells.toList, one v) {xs : List SV} {b' : Nat} (h : Ok (newRow e xs true) s b' s' p) (hv : ValL V xs) {need old : Nat} (hn : xs.length = need * ti.size) :
    b' = s.c ∧ s'.c = s.c + 1 ∧ ∃ ν', ν'.ρ b' = w.heap.size ∧ ν'.κ b' = grownCap w need old e ∧ Post P G s ν V w s' p ν' (w.drew.alloc (.cells ((denL ν xs).toArray ++ Builtin.zeroCells z.cells (grownCap w need old e - need)) e)) := by
  have hge := grownCap_ge w need old e
  obtain ⟨cap, hcap⟩ : ∃ cap, grownCap w need old e = cap := ⟨_, rfl⟩
  rw [hcap] at hge ⊢
  have hzl := zeroCells_len z.cells (cap - need)
  rw [hzs] at hzl
  have hmul : need * ti.size + (cap - need) * ti.size = cap * ti.size := by
    rw [← Nat.add_mul]; congr 1; omega
  obtain ⟨g1, g2, g3, g4, g5, g6, g7⟩ := post_row (w' := w.drew.alloc (.cells ((denL ν xs).toArray ++ Builtin.zeroCells z.cells (cap - need)) e)) (fz := (0, 0)) hR h hf hv (Builtin.zeroCells z.cells (cap - need)).toList cap
    (zeroCells_one (by omega) hz1 _) (by simp) (fun _ => ⟨ti, hi, by rw [hn, hzl]; exact hmul⟩) (Or.inl rfl) (by
      have : ((denL ν xs).toArray ++ Builtin.zeroCells z.cells (cap - need)) = (denL ν xs ++ (Builtin.zeroCells z.cells (cap - need)).toList).toArray := by
        apply Array.ext'; simp
      rw [this]; rfl) rfl rfl rfl
  exact ⟨g1, g2, _, g4, g5, g7⟩
theorem run_appendA (hE : EnvOK E P) (hR : Rel P G s ν V w) (hf : Fresh s s' V) {st xt ty : TypeId} {a x y : SV} (ha : Val V a) (hx : Val V x) (h : Ok (appendA E st xt a x) s y s' p) : Yield P G s ν V w s' p (Builtin.append_ #[st, xt] ty #[den ν a, den ν x]) y := by
  unfold appendA at h
  obtain ⟨d, s1, p2, p3, h2, h3, rfl⟩ := ok_bind.1 h
  obtain ⟨hdd, rfl, rfl⟩ := ok_und.1 h2
  have hu := und_ok hE hdd
  obtain ⟨dx, s2, p4, p5, h4, h5, rfl⟩ := ok_bind.1 h3
  obtain ⟨hdx, rfl, rfl⟩ := ok_und.1 h4
  have hux := und_ok hE hdx
  split at h5
  · rename_i e
    obtain ⟨ti, s4, p8, p9, h8, h9, rfl⟩ := ok_bind.1 h5
    obtain ⟨hti, rfl, rfl⟩ := ok_info.1 h8
    obtain ⟨z, s5, q1, q2, k1, k2, rfl⟩ := ok_bind.1 h9
    obtain ⟨rfl, rfl, hvz, i, v, hi, hz, hd, hty⟩ := zero_get hE k1
    rw [hti] at hty; injection hty with hty; subst hty
    obtain ⟨u, s6, q3, q4, k3, k4, rfl⟩ := ok_bind.1 k2
    obtain ⟨hA1, rfl, rfl⟩ := ok_asrt.1 k3
    obtain ⟨r, s7, q5, q6, k5, k6, rfl⟩ := ok_bind.1 k4
    obtain ⟨n, cs⟩ := r
    obtain ⟨rfl, hw5, hvs, _⟩ := run_src hR k5
    obtain ⟨u2, s8, q7, q8, k7, k8, rfl⟩ := ok_bind.1 k6
    obtain ⟨hA2, rfl, rfl⟩ := ok_asrt.1 k7
    simp only [Bool.and_eq_true, lenR_eq] at hA1 hA2
    obtain ⟨⟨⟨⟨b1, b2⟩, b3⟩, b4⟩, b5⟩ := hA1
    obtain ⟨c1, c2⟩ := hA2
    have b2 := blt_true b2
    have b3 := ble_true b3
    have b4 := beq_true b4
    have c1 := beq_true c1
    have c2 := ble_true c2
    simp only at c1 c2 k8
    have hS := src_of (ν := ν) hE hR hux b1 k5 c1 b2
    have hcsV : ValL V cs := hvs hx
    have hzc : v.cells.toList = denL ν z.cells := by rw [← hd ν]; exact cells_den' ν z
    have hzs : v.cells.size = ti.size := by rw [← Array.length_toList, hzc, denL_length, b4]
    have hz1 : ∀ u ∈ v.cells.toList, one u := by
      rw [allR_eq, List.all_eq_true] at b5
      rw [hzc, denL_eq]
      intro u hu
      obtain ⟨y, hy, rfl⟩ := List.mem_map.1 hu
      exact one1_den ν (b5 y hy)
    split at k8
    · rcases ok_bif.1 k8 with ⟨hn, h6⟩ | ⟨hn, h6⟩
      · have hn := beq_true hn
        obtain ⟨rfl, rfl, rfl⟩ := ok_pure.1 h6
        subst hn
        have hcs : cs = [] := List.eq_nil_of_length_eq_zero (by omega)
        subst hcs
        exact yield_same hR (y := .v (.slice none 0 0)) (run_append_nothing w st xt ty e ti hu hi none 0 0 (Nat.le_refl _) _ hS) trivial _
      · obtain ⟨b', s9, r1, r2, m1, m2, rfl⟩ := ok_bind.1 h6
        obtain ⟨rfl, rfl, rfl⟩ := ok_pure.1 m2
        have hn : 0 < n := by
          rcases Nat.eq_zero_or_pos n with h | h
          · subst h; simp at hn
          · exact h
        have hrun := run_append_grow_src w st xt ty e ti v hu hi hz none 0 0 [] rfl (den ν x) n (denL ν cs) hS (by omega) (by omega) (next_fit (by omega) (by omega) b3)
        simp only [List.nil_append, Nat.zero_add] at hrun
        obtain ⟨g1, g2, ν', g3, g4, g5⟩ := post_grown (old := 0) hR hf hi hzs b2 hz1 m1 hcsV c1
        refine ⟨by omega, ν', _, ?_, Or.inr ⟨by omega, by omega⟩, g5.mono (fun b hb => by simp [FP.W, hb])⟩
        simp only [den]
        rw [hrun, g3, g4]
        simp
    · rename_i b zz i len c
      obtain ⟨q, s9, r1, r2, m1, m2, rfl⟩ := ok_bind.1 k8
      obtain ⟨hq, rfl, rfl⟩ := ok_cells.1 m1
      rcases ok_bif.1 m2 with ⟨hc, m3⟩ | ⟨_, m3⟩
      case inr => exact (ok_fail m3).elim
      rw [Bool.and_eq_true] at hc
      have hzz := beq_true hc.1
      have hlim := ble_true hc.2
      subst hzz
      rcases ok_bif.1 m3 with ⟨hroom, m4⟩ | ⟨hroom, m4⟩
      · have hroom := ble_true hroom
        rcases ok_bif.1 m4 with ⟨hn, h6⟩ | ⟨hn, h6⟩
        · have hn := beq_true hn
          obtain ⟨rfl, rfl, rfl⟩ := ok_pure.1 h6
          subst hn
          have hcs : cs = [] := List.eq_nil_of_length_eq_zero (by omega)
          subst hcs
          exact yield_same hR (run_append_nothing w st xt ty e ti hu hi _ len c (by omega) _ hS) ha _
        · obtain ⟨u3, s10, r3, r4, m5, m6, rfl⟩ := ok_bind.1 h6
          obtain ⟨rfl, rfl, rfl⟩ := ok_pure.1 m6
          obtain ⟨g1, g2, g3, g4⟩ := post_store hR m5 hcsV
          have hoff : (i + len) * ti.size = i * ti.size + len * ti.size := Nat.add_mul _ _ _
          rw [hoff] at g2 g4
          have hrun := run_append_room_src w st xt ty e ti hu hi (ν.ρ b) (i * ti.size) len c (den ν x) n (denL ν cs) hS hroom (fun j hj => (g2 j (by simpa [denL_length] using hj)).1) (fun j hj => (g2 j (by simpa [denL_length] using hj)).2)
          refine ⟨by omega, ν, _, ?_, val_mono (fun b hb => Or.inl hb) _ ha, g4.mono (fun b hb => by simp [FP.W, hb])⟩
          simp only [den, Option.getD_some]
          exact hrun
      · cases hcut : cut q.2.1 (i * ti.size) (len * ti.size) with
        | none => rw [hcut] at m4; exact (ok_fail m4).elim
        | some old =>
          rw [hcut] at m4
          obtain ⟨b', s10, r3, r4, m5, m6, rfl⟩ := ok_bind.1 m4
          obtain ⟨rfl, rfl, rfl⟩ := ok_pure.1 m6
          rw [appR_eq] at m5
          obtain ⟨e2, l, lo⟩ := q
          simp only at hcut hq
          obtain ⟨rest, f1, f2, hA⟩ := cellsAt hR hq
          obtain ⟨hold, hol⟩ := cut_some hcut
          have hrg := hA.range hcut
          have holdV : ValL V old := by
            have hl : ValL V l := (hR.cl b _ hq).2
            exact val_sub hl (fun y hy => by rw [hold] at hy; exact List.mem_of_mem_drop (List.mem_of_mem_take hy))
          have hnr : c < len + n := by
            rcases Nat.lt_or_ge c (len + n) with h | h
            · exact h
            · have : Nat.ble (len + n) c = true := by simpa using h
              rw [this] at hroom; cases hroom
          have hrun := run_append_grow_src w st xt ty e ti v hu hi hz (some ⟨ν.ρ b, i * ti.size, none⟩) len c (denL ν old)
            (run_firstCells_some w.drew ti.size len _ len c (denL ν old) (by rw [denL_length]; exact hol) (fun j u hj => by rw [Addr.add_mid]; exact hrg j u hj))
            (den ν x) n (denL ν cs) hS hnr (by omega) (next_fit hnr hlim b3)
          obtain ⟨g1, g2, ν', g3, g4, g5⟩ := post_grown (need := len + n) (old := c) hR hf hi hzs b2 hz1 m5 (by
            rw [valL_iff] at *
            intro y hy
            rcases List.mem_append.1 hy with hy | hy
            · exact holdV y hy
            · exact hcsV y hy) (by rw [List.length_append, hol, c1, Nat.add_mul])
          refine ⟨by omega, ν', _, ?_, Or.inr ⟨by omega, by omega⟩, g5.mono (fun b hb => by simp [FP.W, hb])⟩
          simp only [den, Option.getD_some]
          rw [hrun, g3, g4, denL_append]
          simp
    · rename_i b zz i len
      obtain ⟨q, s9, r1, r2, m1, m2, rfl⟩ := ok_bind.1 k8
      obtain ⟨hq, rfl, rfl⟩ := ok_cells.1 m1
      rcases ok_bif.1 m2 with ⟨hc, m3⟩ | ⟨_, m3⟩
      case inr => exact (ok_fail m3).elim
      simp only [Bool.and_eq_true, lenR_eq] at hc
      obtain ⟨⟨⟨⟨⟨d1, d2⟩, d3⟩, d4⟩, d5⟩, d6⟩ := hc
      have d6 := beq_true d6
      have d1 := beq_true d1
      have d2 := beq_true d2
      have d4 := beq_true d4
      have d5 := ble_true d5
      obtain ⟨e2, l, lo⟩ := q
      subst d1; subst d2; subst d3; subst d6
      obtain ⟨rest, f1, f2, hA⟩ := cellsAt hR hq
      obtain ⟨i', hi', htot⟩ := hA.loose rfl
      rw [hi] at hi'
      injection hi' with hi'
      subst hi'
      replace d4 : l.length = len * ti.size := d4
      replace hA : CellsAt P ν w b e2 l true rest f1 f2 := hA
      replace hq : s7.h.get b = some (.cells e2 l true) := hq
      replace htot : l.length + rest.length = ν.κ b * ti.size := htot
      have hlk : len ≤ ν.κ b := by
        have : len * ti.size ≤ ν.κ b * ti.size := by omega
        exact Nat.le_of_mul_le_mul_right this b2
      have hlV : ValL V l := (hR.cl b _ hq).2
      rcases ok_bif.1 m3 with ⟨hn, h6⟩ | ⟨hn, h6⟩
      · have hn := beq_true hn
        obtain ⟨rfl, rfl, rfl⟩ := ok_pure.1 h6
        subst hn
        have hcs : cs = [] := List.eq_nil_of_length_eq_zero (by omega)
        subst hcs
        exact yield_same hR (run_append_nothing w st xt ty e2 ti hu hi _ len _ (by simpa using hlk) _ hS) ha _
      · obtain ⟨b', s10, r3, r4, m5, m6, rfl⟩ := ok_bind.1 h6
        obtain ⟨u3, s11, r5, r6, m7, m8, rfl⟩ := ok_bind.1 m6
        obtain ⟨rfl, rfl, rfl⟩ := ok_pure.1 m8
        rw [appR_eq] at m5
        by_cases hroom : len + n ≤ ν.κ b
        · have hfit : (len + n) * ti.size ≤ ν.κ b * ti.size := Nat.mul_le_mul_right _ hroom
          rw [Nat.add_mul] at hfit
          have hth := hA.there (k := len * ti.size) (n := n * ti.size) (by omega)
          have hrun := run_append_room_src w st xt ty e2 ti hu hi (ν.ρ b) 0 len (ν.κ b) (den ν x) n (denL ν cs) hS hroom (fun j hj => by rw [Nat.zero_add]; exact (hth j (by rw [denL_length, c1] at hj; exact hj)).1) (fun j hj => by rw [Nat.zero_add]; exact (hth j (by rw [denL_length, c1] at hj; exact hj)).2)
          rw [Nat.zero_add] at hrun
          obtain ⟨g1, g2, g3, g4, g5, g6⟩ := setCells_heap (ν.ρ b) (denL ν cs) (len * ti.size) w (denL ν l ++ rest) e2 (f1, f2) hA.heap (by rw [List.length_append, denL_length, denL_length]; omega)
          have hput : putA (denL ν l ++ rest) (len * ti.size) (denL ν cs) = denL ν l ++ (denL ν cs ++ rest.drop (n * ti.size)) := by
            unfold putA
            have hll : (denL ν l).length = len * ti.size := by rw [denL_length]; exact d4
            rw [List.take_append_of_le_length (by omega), List.take_of_length_le (by omega), denL_length, c1, ← hll, ← List.drop_drop, List.drop_left]
          rw [hput] at g1
          obtain ⟨k1, k2, k3, k4, k5⟩ := post_inplace (rest' := rest.drop (n * ti.size)) hR hq hA m5 m7 hf hcsV rfl (by rw [List.length_drop]; omega) (fun v hv => List.mem_of_mem_drop hv) g1 g2 g3 g4 g5 g6
          refine ⟨by omega, _, _, ?_, Or.inr ⟨by omega, by omega⟩, k5.mono (fun b hb => by simp [FP.W] at hb ⊢; rcases hb with hb | hb <;> simp [hb])⟩
          simp only [den, Option.getD_none, Nat.zero_mul, Nat.sub_zero]
          rw [hrun, k3, k4]
        · have hcut : cut l 0 (len * ti.size) = some l := by
            unfold cut
            rw [takeR_eq, dropR_eq, lenR_eq]
            simp [← d4]
          have hrg := hA.range hcut
          have hnr : ν.κ b < len + n := by omega
          have hrun := run_append_grow_src w st xt ty e2 ti v hu hi hz (some ⟨ν.ρ b, 0, none⟩) len (ν.κ b) (denL ν l)
            (run_firstCells_some w.drew ti.size len _ len (ν.κ b) (denL ν l) (by rw [denL_length]; exact d4) (fun j u hj => by rw [Addr.add_mid]; exact hrg j u hj))
            (den ν x) n (denL ν cs) hS hnr (by omega) (next_fit hnr d5 b3)
          have hs11 : s11.c = s10.c := (ok_del.1 m7).2.2.1 ▸ rfl
          have hf10 : Fresh _ s10 V := hf.left (by omega)
          obtain ⟨g1, g2, ν', g3, g4, g5⟩ := post_grown (need := len + n) (old := ν.κ b) hR hf10 hi hzs b2 hz1 m5 (by
            rw [valL_iff] at *
            intro y hy
            rcases List.mem_append.1 hy with hy | hy
            · exact hlV y hy
            · exact hcsV y hy) (by rw [List.length_append, d4, c1, Nat.add_mul])
          obtain ⟨_, g6⟩ := post_del g5.rel m7
          have g7 := g5.trans g6 (by omega) (by omega) (by exact hf)
          refine ⟨by omega, ν', _, ?_, Or.inr ⟨by omega, by omega⟩, g7.mono (fun b hb => by simp [FP.W] at hb ⊢; rcases hb with hb | hb <;> simp [hb])⟩
          simp only [den, Option.getD_none, Nat.zero_mul, Nat.sub_zero]
          rw [hrun, g3, g4, denL_append]
    · exact (ok_fail k8).elim
  · exact (ok_fail h5).elim
end Go.Ev
/- Calls. -/
namespace Go.Ev
variable {E : Env} {P : Program} {G : Nat} {s s' : HS} {p : FP} {ν : Nu} {V : Nat → Prop} {w : World}
variable {ρ : Operand → SV} {o : Oper} {x : Nx}
theorem NxR.plain (w : World) (ν : Nu) (v : Value) : NxR w ν (.val (ofV v)) (.value v) := by
  have h := NxR.val (w := w) (ν := ν) (ofV v)
  rwa [ofV_den] at h
theorem digits_aux : ∀ (n t : Nat) (acc : Array Value), (∀ x ∈ acc.toList, one x) → ∀ x ∈ (Extern.BytealgMakeNoZero.digits n t acc).toList, one x
  | 0, _, _, h => h
  | n + 1, t, acc, h => digits_aux n (t / 256) _ (fun x hx => by
    rw [Array.toList_push, List.mem_append] at hx
    rcases hx with hx | hx
    · exact h x hx
    · rw [List.mem_singleton] at hx
      rw [hx]; rfl)
theorem digits_one (n t : Nat) : ∀ x ∈ (Extern.BytealgMakeNoZero.digits n t #[]).toList, one x := digits_aux n t #[] (by simp)
theorem run_makeNoZ {P : Program} (w : World) (ps rs : Array TypeId) (t e : TypeId) (hr : rs[0]? = some t) (ht : P.underlying t = some (.slice e)) (n : Nat) (hn : n ≤ 281474976710656) :
    ∃ cap bs : Nat, n ≤ cap ∧ (Extern.BytealgMakeNoZero.makeNoZero ps rs #[.int .i64 n]).run P w = .ok (.slice (some ⟨w.heap.size, 0, none⟩) n cap) (w.drew.drew.alloc (.cells (Extern.BytealgMakeNoZero.digits cap bs #[]) e)) := by
  have hdef : Extern.BytealgMakeNoZero.makeNoZero ps rs #[.int .i64 n] =
      (do
        let some t := rs[0]? | stuck "bytealg.MakeNoZero: no result type"
        let .slice elem ← underlying t | stuck "bytealg.MakeNoZero: slice type expected"
        if (n : Int) < 0 || (n : Int) > 2 ^ 48 then runtimePanic (.error "makeslice: len out of range")
        let cap ← choose (.appendCap (n : Int).toNat 0 elem)
        askRoom cap
        let bytes ← choose (.extern "internal/bytealg.MakeNoZero.bytes" 0)
        let a ← Go.newRow elem (Extern.BytealgMakeNoZero.digits cap bytes #[])
        pure (.slice (some a) (n : Int).toNat cap)) := rfl
  refine ⟨grownCap w n 0 e, (Question.extern "internal/bytealg.MakeNoZero.bytes" 0).cut (w.tape (w.drawn + 1) (.extern "internal/bytealg.MakeNoZero.bytes" 0)), grownCap_ge w n 0 e, ?_⟩
  rw [hdef]
  have h1 : ¬ (n : Int) < 0 := by omega
  have h2 : ¬ (281474976710656 : Int) < (n : Int) := by omega
  simp [hr, run_underlying ht, h1, h2, Question.forced, Go.newRow, grownCap]
theorem run_enterM (hE : EnvOK E P) (hR : Rel P G s ν V w) (hf0 : Fresh s s' V) {f : FuncId} {as : List SV} (ha : ValL V as) (h : Ok (enterM E f as) s x s' p) : Goal P G s ν V w s' p (callFunc f (denL ν as).toArray) x := by
  unfold enterM at h
  cases hf : E.fn f with
  | none => rw [hf] at h; exact (ok_fail h).elim
  | some fn =>
    have h1 := hE.fn f fn hf
    have h2 := hE.named f fn hf
    cases hb0 : fn.body with
    | some c =>
      simp only [hf, hb0] at h
      obtain ⟨rfl, rfl, rfl⟩ := ok_pure.1 h
      refine ⟨Nat.le_refl _, ν, _, w, ?_, .enter f as, by rw [VN_self]; exact ha, post_refl hR _⟩
      have hp : (program).run P w = .ok P w := rfl
      simp only [callFunc, Sem.run_bind, hp, Result.andThen_ok, h1, h2, hb0]
      rfl
    | none =>
      simp only [hf, hb0] at h
      rcases ok_bif.1 h with ⟨hna, h⟩ | ⟨_, h⟩
      · split at h
        · rename_i y
          obtain ⟨rfl, rfl, rfl⟩ := ok_pure.1 h
          rw [Bool.and_eq_true] at hna
          have hna1 : fn.name = "internal/abi.NoEscape" := by simpa using hna.1
          have hna2 : fn.origin = "" := by simpa using hna.2
          have hfn : Extern.find fn = some Extern.AbiNoEscape.same := by
            have g1 : Extern.allGenericRows.lookup "internal/abi.NoEscape" = none := by kernel_rfl
            have g2 : Extern.allTypedRows.lookup "internal/abi.NoEscape" = none := by kernel_rfl
            have g3 : Extern.allRows.lookup "internal/abi.NoEscape" = some Extern.AbiNoEscape.same := by kernel_rfl
            simp only [Extern.find, hna1, g1, g2, g3]
            rfl
          have hnx : Extern.findNext fn = none := by
            have g1 : Extern.allNextRows.lookup "internal/abi.NoEscape" = none := by kernel_rfl
            have g2 : Extern.allNextRows.lookup "" = none := by kernel_rfl
            simp only [Extern.findNext, hna1, hna2, g1, g2]
            rfl
          refine goal_same hR ?_ ha.1 _
          rw [run_callFunc_extern h1 h2 (by rw [hb0]; rfl) hnx hfn]
          rfl
        · exact (ok_fail h).elim
      rcases ok_bif.1 h with ⟨hna, h⟩ | ⟨_, h⟩
      · split at h
        · rename_i n t ts hts _ _
          rw [Bool.and_eq_true] at hna
          have hna1 : fn.name = "internal/bytealg.MakeNoZero" := by simpa using hna.1
          have hna2 : fn.origin = "" := by simpa using hna.2
          obtain ⟨d, s1, p2, p3, k1, k2, rfl⟩ := ok_bind.1 h
          obtain ⟨hdd, rfl, rfl⟩ := ok_und.1 k1
          have hu := und_ok hE hdd
          split at k2
          · rename_i e
            obtain ⟨ti, s4, p8, p9, h8, h9, rfl⟩ := ok_bind.1 k2
            obtain ⟨hti, rfl, rfl⟩ := ok_info.1 h8
            obtain ⟨u, s5, q1, q2, k3, k4, rfl⟩ := ok_bind.1 h9
            obtain ⟨hz, rfl, rfl⟩ := ok_asrt.1 k3
            rw [Bool.and_eq_true] at hz
            obtain ⟨m1, m2, m3⟩ := inB_eq hz.1
            have hz2 := beq_true hz.2
            obtain ⟨b, s6, q3, q4, k5, k6, rfl⟩ := ok_bind.1 k4
            obtain ⟨rfl, rfl, rfl⟩ := ok_pure.1 k6
            have hrt : fn.resultTypes[0]? = some t := by rw [← Array.getElem?_toList, hts]; rfl
            obtain ⟨cap, bs, hcap, hrun⟩ := run_makeNoZ (P := P) w fn.params fn.resultTypes t e hrt hu n.toNat (by omega)
            have hfn : Extern.find fn = some (Extern.BytealgMakeNoZero.makeNoZero fn.params fn.resultTypes) := by
              have g1 : Extern.allGenericRows.lookup "internal/bytealg.MakeNoZero" = none := by kernel_rfl
              have g2 : Extern.allTypedRows.lookup "internal/bytealg.MakeNoZero" = some Extern.BytealgMakeNoZero.makeNoZero := by kernel_rfl
              simp only [Extern.find, hna1, g1, g2]
              rfl
            have hnx : Extern.findNext fn = none := by
              have g1 : Extern.allNextRows.lookup "internal/bytealg.MakeNoZero" = none := by kernel_rfl
              have g2 : Extern.allNextRows.lookup "" = none := by kernel_rfl
              simp only [Extern.findNext, hna1, hna2, g1, g2]
              rfl
            obtain ⟨c1, c2, c3, c4, c5, c6, c7⟩ := post_row (w' := w.drew.drew.alloc (.cells (Extern.BytealgMakeNoZero.digits cap bs #[]) e)) (fz := (0, 0)) hR k5 hf0 (by trivial) (Extern.BytealgMakeNoZero.digits cap bs #[]).toList cap
              (digits_one cap bs) (by simp) (fun _ => ⟨ti, hE.ty _ _ hti, by simp [hz2, Lib.size_digits]⟩) (Or.inl rfl) (by rw [show (denL ν [] ++ (Extern.BytealgMakeNoZero.digits cap bs #[]).toList).toArray = Extern.BytealgMakeNoZero.digits cap bs #[] by simp [denL]]; rfl) rfl rfl rfl
            refine ⟨by omega, _, _, _, ?_, .val _, Or.inr ⟨by omega, by omega⟩, c7.mono (fun b hb => by simp [FP.W, hb])⟩
            rw [run_callFunc_extern h1 h2 (by rw [hb0]; rfl) hnx hfn]
            have hargs : (denL ν [SV.v (.int .i64 n)]).toArray = #[.int .i64 (n.toNat : Int)] := by
              rw [← m3]; simp [denL, den]
            rw [hargs, hrun]
            simp only [Result.andThen_ok, den, c4, c5, Option.getD_none, Nat.zero_mul, Nat.sub_zero]
          · exact (ok_fail k2).elim
        · exact (ok_fail h).elim
      obtain ⟨vs, s1, p1, p2, g1, g2, rfl⟩ := ok_bind.1 h
      obtain ⟨hv, rfl, rfl⟩ := ok_toMs.1 g1
      obtain ⟨r, s2, p3, p4, g3, g4, rfl⟩ := ok_bind.1 g2
      obtain ⟨hr, rfl, rfl⟩ := ok_plainM.1 g3
      rw [hE.prog] at hr
      have hrun := purely_run _ hr w
      rw [← toVs_den ν as hv] at hrun
      cases r with
      | value v =>
        obtain ⟨rfl, rfl, rfl⟩ := ok_pure.1 g4
        exact ⟨Nat.le_refl _, ν, _, w, hrun, NxR.plain w ν v, by rw [VN_self]; exact ofV_val V v, post_refl hR _⟩
      | _ => exact (ok_fail g4).elim
theorem run_methA (hE : EnvOK E P) {t : TypeId} {name : String} {f : FuncId} {v : Value} (n : Nat) (h : methA E t name = some f) : (Go.method (n + 1) t v name).run P w = .ok (f, v) w := by
  unfold methA at h
  cases ht : E.ty t with
  | none => simp [ht] at h
  | some ti =>
    simp only [ht] at h
    have hi := hE.ty t ti ht
    cases hm : ti.methods.find? (·.name == name) with
    | none => simp [hm] at h
    | some m =>
      simp only [hm] at h
      cases hp : m.path.isEmpty with
      | false => simp [hp] at h
      | true =>
        have hpe : m.path = #[] := by simpa using hp
        simp only [hp, cond_true] at h
        have hty : (typeInfo t).run P w = .ok ti w := by simp [typeInfo, hi]
        have step : ∀ d, P.underlying t = some d → (∃ b, m.func = some (f, b) ∧ ((b = true ∧ ∃ e, d = .pointer e) ∨ (b = false ∧ ∀ e, d ≠ .pointer e))) → (Go.method (n + 1) t v name).run P w = .ok (f, v) w := by
          rintro d hu ⟨b, hb, hc⟩
          simp only [Go.method, Sem.run_bind, hty, Result.andThen_ok, hm, hpe, follow, hb]
          simp only [receiverAt, run_underlying hu, Sem.run_bind, Result.andThen_ok, Sem.run_pure]
          rcases hc with ⟨rfl, e, rfl⟩ | ⟨rfl, hd⟩
          · simp [Place.get]
          · cases d with
            | pointer e => exact (hd e rfl).elim
            | _ => simp [Place.get]
        split at h
        · rename_i f' e h1 h2
          injection h with h; subst h
          exact step _ (und_ok hE h2) ⟨true, h1, .inl ⟨rfl, _, rfl⟩⟩
        · cases h
        · rename_i f' d h1 h2 h3
          injection h with h; subst h
          exact step _ (und_ok hE h3) ⟨false, h2, .inr ⟨rfl, fun e he => h1 e he⟩⟩
        · cases h
theorem run_callMethod (hE : EnvOK E P) (hR : Rel P G s ν V w) (hf0 : Fresh s s' V) {t : TypeId} {y : SV} {name : String} {f : FuncId} {as : List SV} (hy : Val V y) (ha : ValL V as) (hm : methA E t name = some f) (h : Ok (enterM E f (y :: as)) s x s' p) :
    Goal P G s ν V w s' p (callMethod (.iface t (den ν y)) name (denL ν as).toArray) x := by
  obtain ⟨g1, ν', n, w', g2, g3, g4, g5⟩ := run_enterM hE hR hf0 (as := y :: as) ⟨hy, ha⟩ h
  refine ⟨g1, ν', n, w', ?_, g3, g4, g5⟩
  have hp : (program).run P w = .ok P w := rfl
  have hme : (Go.method (P.types.size + Made.depth) t (den ν y) name).run P w = .ok (f, den ν y) w := by
    have hd : P.types.size + Made.depth = (P.types.size + 99) + 1 := by unfold Made.depth; omega
    rw [hd]
    exact run_methA hE (P.types.size + 99) hm
  simp only [callMethod, Sem.run_bind, hp, Result.andThen_ok, hme]
  rw [← g2]
  congr 1
  congr 1
  simp [denL]
theorem deq_args (ν : Nu) (ρ : Operand → SV) (l : Array Operand) : l.map (fun y => den ν (ρ y)) = (denL ν (mapR ρ l.toList)).toArray := by
  rw [mapR_eq, denL_eq, List.map_map]
  apply Array.ext'
  simp
theorem val_args {ρ : Operand → SV} (hρ : ∀ y, Val V (ρ y)) (l : List Operand) : ValL V (mapR ρ l) := by
  rw [mapR_eq, valL_iff]
  intro z hz
  obtain ⟨q, _, rfl⟩ := List.mem_map.1 hz
  exact hρ q
theorem valL_append {a b : List SV} (ha : ValL V a) (hb : ValL V b) : ValL V (a ++ b) := by
  rw [valL_iff] at *
  intro y hy
  rcases List.mem_append.1 hy with hy | hy
  · exact ha y hy
  · exact hb y hy
theorem toArray_one {α : Type} {a : Array α} {x : α} (h : a.toList = [x]) : a = #[x] := Array.ext' (by simpa using h)
theorem toArray_two {α : Type} {a : Array α} {x y : α} (h : a.toList = [x, y]) : a = #[x, y] := Array.ext' (by simpa using h)
end Go.Ev
/- A call, a deferred call. -/
namespace Go.Ev
variable {E : Env} {P : Program} {G : Nat} {s s' : HS} {p : FP} {ν : Nu} {V : Nat → Prop} {w : World}
variable {ρ : Operand → SV} {o : Oper} {x : Nx}
theorem Goal.mono {S : Sem Next} {q : FP} (h : Goal P G s ν V w s' p S x) (hw : ∀ b, p.W b → q.W b) : Goal P G s ν V w s' q S x :=
  let ⟨a, ν', n, w', b, c, d, e⟩ := h
  ⟨a, ν', n, w', b, c, d, e.mono hw⟩
theorem map_erase {α β : Type} (f : α → β) : ∀ (l : List α) (i : Nat), (l.map f).eraseIdx i = (l.eraseIdx i).map f
  | [], _ => rfl
  | _ :: _, 0 => rfl
  | a :: l, i + 1 => by simp [map_erase f l i]
/-- what a call comes to: what is called, with what -/
theorem exec_call {c : Call} (ho : o.op = .call c) (σ : Operand → Value) : execOp σ o = (do let d ← resolve σ c o.type; invoke d.target d.args) := by simp only [execOp, ho]
theorem es_delete (hE : EnvOK E P) (hR : Rel P G s ν V w) {t ty : TypeId} {ts : List TypeId} {b : Nat} {k : SV}
    (h : Ok (E.und t >>= fun d => (match d with
      | .map kt _ => mapOf b >>= fun r => findM E kt k r.1 >>= fun f => (match f with
        | some (i, _) => put b (.map (r.1.eraseIdx i) r.2) >>= fun _ => pure (.val (.v (.tuple #[])))
        | none => pure (.val (.v (.tuple #[]))))
      | _ => fail "delete")) s x s' p) :
    Goal P G s ν V w s' p (do pure (Next.value (← Builtin.delete_ (t :: ts).toArray ty #[den ν (.mp b), den ν k]))) x := by
  obtain ⟨d, s1, p2, p3, h2, h3, rfl⟩ := ok_bind.1 h
  obtain ⟨hdd, rfl, rfl⟩ := ok_und.1 h2
  have hu := und_ok hE hdd
  split at h3
  · rename_i kt e
    obtain ⟨r, s2, p4, p5, h4, h5, rfl⟩ := ok_bind.1 h3
    obtain ⟨hb, rfl, rfl⟩ := ok_map.1 h4
    obtain ⟨f, s3, p6, p7, h6, h7, rfl⟩ := ok_bind.1 h5
    obtain ⟨rfl, hw, hF⟩ := run_find (ν := ν) (w := w) hE h6
    obtain ⟨es, c⟩ := r
    obtain ⟨g1, g2, g3⟩ := mapAt hR hb
    cases f with
    | none =>
      obtain ⟨rfl, rfl, rfl⟩ := ok_pure.1 h7
      refine goal_same (x := .v (.tuple #[])) hR (run_v ?_) trivial _
      have hset : (setObj (ν.ρ b) (.map (es.map (denE ν)).toArray c)).run P w = .ok () w := by
        rw [run_setMap g1]
        obtain ⟨hlt, hge⟩ := Array.getElem?_eq_some_iff.1 g1
        have : w.heap.setIfInBounds (ν.ρ b) (.map (es.map (denE ν)).toArray c) = w.heap := by
          apply Array.ext_getElem?
          intro i
          rw [Array.getElem?_setIfInBounds]
          split
          · rename_i hi; subst hi; simp [hlt, hge]
          · rfl
        rw [this]
      simp [Builtin.delete_, run_underlying hu, den, run_getObj g1, hF.check, hF.find, hset]
    | some q =>
      obtain ⟨i, x', born⟩ := q
      obtain ⟨u, s4, p8, p9, h8, h9, rfl⟩ := ok_bind.1 h7
      obtain ⟨rfl, rfl, rfl⟩ := ok_pure.1 h9
      obtain ⟨_, ht, rfl, rfl⟩ := ok_put.1 h8
      refine ⟨Nat.le_refl _, ν, _, _, run_v ?_, .val _, trivial, post_map hR hb ht (es' := es.eraseIdx i) (fun e he => g2 e (List.mem_of_mem_eraseIdx he)) ?_ (ea := (es.map (denE ν)).toArray.eraseIdxIfInBounds i) ?_⟩
      · simp [Builtin.delete_, run_underlying hu, den, run_getObj g1, hF.check, hF.find, run_setMap g1]
      · simp [FP.W]
      · apply Array.ext'
        simp
        exact map_erase (denE ν) es i
  · exact (ok_fail h3).elim
theorem es_clear (hE : EnvOK E P) (hR : Rel P G s ν V w) {t ty : TypeId} {ts : List TypeId} {b : Nat}
    (h : Ok (E.und t >>= fun _ => mapOf b >>= fun r => put b (.map [] r.2) >>= fun _ => pure (.val (.v (.tuple #[])))) s x s' p) :
    Goal P G s ν V w s' p (do pure (Next.value (← Builtin.clear_ (t :: ts).toArray ty #[den ν (.mp b)]))) x := by
  obtain ⟨d, s1, p2, p3, h2, h3, rfl⟩ := ok_bind.1 h
  obtain ⟨hdd, rfl, rfl⟩ := ok_und.1 h2
  have hu := und_ok hE hdd
  obtain ⟨r, s2, p4, p5, h4, h5, rfl⟩ := ok_bind.1 h3
  obtain ⟨hb, rfl, rfl⟩ := ok_map.1 h4
  obtain ⟨u, s4, p8, p9, h8, h9, rfl⟩ := ok_bind.1 h5
  obtain ⟨rfl, rfl, rfl⟩ := ok_pure.1 h9
  obtain ⟨_, ht, rfl, rfl⟩ := ok_put.1 h8
  obtain ⟨es, c⟩ := r
  obtain ⟨g1, g2, g3⟩ := mapAt hR hb
  refine ⟨Nat.le_refl _, ν, _, _, run_v ?_, .val _, trivial, post_map hR hb ht (es' := []) (by simp) ?_ (ea := #[]) rfl⟩
  · simp [Builtin.clear_, run_underlying hu, den, run_getObj g1, run_setMap g1]
  · simp [FP.W]
theorem run_dataA (hE : EnvOK E P) (hR : Rel P G s ν V w) {ts : Array TypeId} {ty : TypeId} {x y : SV} (hx : Val V x) (h : Ok (dataA E x) s y s' p) : Yield P G s ν V w s' p (Builtin.unsafeSliceData_ ts ty #[den ν x]) y := by
  unfold dataA at h
  split at h
  · obtain ⟨rfl, rfl, rfl⟩ := ok_pure.1 h
    exact ⟨Nat.le_refl _, ν, w, by simp only [den]; exact Lib.run_unsafeSliceData_nil _ _ _ _ _, by simp [Val], post_refl hR _⟩
  · rename_i b z i n cap
    obtain ⟨u, s1, p1, p2, h1, h2, rfl⟩ := ok_bind.1 h
    obtain ⟨hz, rfl, rfl⟩ := ok_asrt.1 h1
    obtain ⟨rfl, rfl, rfl⟩ := ok_pure.1 h2
    have hz := blt_true hz
    refine ⟨Nat.le_refl _, ν, w, ?_, Or.inl hx, post_refl hR _⟩
    simp only [den, Option.getD_some, Nat.add_zero]
    exact Lib.run_unsafeSliceData_row _ _ _ _ _ _ (by omega)
  · rename_i b z i n
    obtain ⟨o, s1, p1, p2, h1, h2, rfl⟩ := ok_bind.1 h
    obtain ⟨hb, rfl, rfl⟩ := ok_get.1 h1
    split at h2
    · rename_i e l
      obtain ⟨ti, s4, p8, p9, h8, h9, rfl⟩ := ok_bind.1 h2
      obtain ⟨hti, rfl, rfl⟩ := ok_info.1 h8
      obtain ⟨u, s5, q1, q2, k2, k3, rfl⟩ := ok_bind.1 h9
      obtain ⟨hz, rfl, rfl⟩ := ok_asrt.1 k2
      obtain ⟨rfl, rfl, rfl⟩ := ok_pure.1 k3
      have hz := blt_true hz
      rw [lenR_eq] at hz
      obtain ⟨rest, f1, f2, hA⟩ := cellsAt hR hb
      obtain ⟨i', hi', hl⟩ := hA.loose rfl
      have hii : i' = ti := by
        rw [hE.ty _ _ hti] at hi'
        injection hi' with hi'
        exact hi'.symm
      subst hii
      have hk : i < ν.κ b := Nat.lt_of_mul_lt_mul_right (a := i'.size) (by omega)
      refine ⟨Nat.le_refl _, ν, w, ?_, Or.inl hx, post_refl hR _⟩
      simp only [den, Option.getD_none, Nat.add_zero]
      exact Lib.run_unsafeSliceData_row _ _ _ _ _ _ (by omega)
    · exact (ok_fail h2).elim
  · exact (ok_fail h).elim
/-- a block that is not looked at any more -/
theorem post_dead (hR : Rel P G s ν V w) {b : Nat} {o : AObj} (hb : s.h.get b = some o) {u : Unit} (h : Ok (del b) s u s' p) {w' : World} (e0 : w'.heap.size = w.heap.size) (e2 : ∀ k, k ≠ ν.ρ b → w'.heap[k]? = w.heap[k]?)
    (e3 : w'.os = w.os) (e4 : w'.tape = w.tape) (e5 : w'.output = w.output) : s'.c = s.c ∧ Post P G s ν V w s' p ν w' := by
  obtain ⟨_, ht, rfl, rfl⟩ := ok_del.1 h
  have hget : ∀ x o, (s.h.upd 20 b none).get x = some o → x ≠ b ∧ s.h.get x = some o := fun x o hx => by
    rw [upd20 ht] at hx
    split at hx
    · cases hx
    · rename_i hn; exact ⟨hn, hx⟩
  have hvb := (hR.cl b o hb).1
  refine ⟨rfl, ⟨?_, fun _ _ => ⟨rfl, rfl⟩, ⟨e3, e4, e5, by rw [e0]; exact Nat.le_refl _, fun k _ hk => e2 k (fun e => hk b rfl hvb e.symm)⟩, fun b h1 h2 => by have : b < s.c := h2; omega⟩⟩
  have hVN : VN V s ⟨s.h.upd 20 b none, s.c⟩ = V := VN_self V s
  rw [hVN]
  refine ⟨fun x o' hx => ?_, fun x o hx => hR.cl x o (hget x o hx).2, fun x y o1 o2 hx hy he => hR.inj x y o1 o2 (hget x o1 hx).2 (hget y o2 hy).2 he, hR.glob⟩
  obtain ⟨hn, hx2⟩ := hget x o' hx
  obtain ⟨r', hr', ho'⟩ := hR.blk x o' hx2
  refine ⟨r', ?_, ho'⟩
  rw [e2 _ (fun e' => hn (hR.inj x b o' o hx2 hb e'))]; exact hr'
theorem run_ustrA (hE : EnvOK E P) (hR : Rel P G s ν V w) {pt it ty : TypeId} {x n y : SV} (h : Ok (ustrA E pt x n) s y s' p) : Yield P G s ν V w s' p (Builtin.unsafeString_ #[pt, it] ty #[den ν x, den ν n]) y := by
  unfold ustrA at h
  split at h
  · rename_i q n
    obtain ⟨u, s1, p1, p2, h1, h2, rfl⟩ := ok_bind.1 h
    obtain ⟨hz, rfl, rfl⟩ := ok_asrt.1 h1
    obtain ⟨rfl, rfl, rfl⟩ := ok_pure.1 h2
    have hn : n = 0 := by
      have := inB_eq hz
      omega
    subst hn
    exact ⟨Nat.le_refl _, ν, w, by simp only [den]; exact Lib.run_unsafeString_none _ _ _ _ _, by simp [Val], post_refl hR _⟩
  · rename_i b z i j n
    obtain ⟨d, s1, p1, p2, h1, h2, rfl⟩ := ok_bind.1 h
    obtain ⟨hdd, rfl, rfl⟩ := ok_und.1 h1
    have hu := und_ok hE hdd
    split at h2
    · rename_i e
      obtain ⟨ti, s4, p8, p9, h8, h9, rfl⟩ := ok_bind.1 h2
      obtain ⟨hti, rfl, rfl⟩ := ok_info.1 h8
      obtain ⟨o, s2, p3, p4, h3, h4, rfl⟩ := ok_bind.1 h9
      obtain ⟨hb, rfl, rfl⟩ := ok_get.1 h3
      split at h4
      · rename_i e' l lo
        obtain ⟨u, s5, q1, q2, k2, k3, rfl⟩ := ok_bind.1 h4
        obtain ⟨hz, rfl, rfl⟩ := ok_asrt.1 k2
        simp only [Bool.and_eq_true] at hz
        obtain ⟨⟨⟨⟨⟨z1, z2⟩, z3⟩, z4⟩, z5⟩, z6⟩ := hz
        have z1 := beq_true z1
        subst z1
        have z2 := beq_true z2
        have z3 := beq_true z3
        have z6 := ble_true z6
        rw [lenR_eq] at z4 z6
        obtain ⟨m1, m2, m3⟩ := inB_eq z4
        have hne : n.toNat ≠ 0 := fun hc => by
          have : n = 0 := by omega
          subst this
          rw [show inB 0 1 = true from rfl] at z5; cases z5
        split at k3
        · rename_i bs hbs
          obtain ⟨u2, s6, q3, q4, k4, k5, rfl⟩ := ok_bind.1 k3
          obtain ⟨rfl, rfl, rfl⟩ := ok_pure.1 k5
          rw [takeR_eq] at hbs
          have hden := bytesA_den (ν := ν) hbs
          have hlen : bs.length = n.toNat := by
            have := congrArg List.length hden
            rw [denL_length, List.length_take, List.length_map] at this
            omega
          obtain ⟨rest, f1, f2, hA⟩ := cellsAt hR hb
          have hsh : w.shape? (ν.ρ b) = some (e, l.length + rest.length) := by simp [World.shape?, hA.heap, denL_length]
          have hce : P.cellsOf e = 1 := by simp [Program.cellsOf, hE.ty _ _ hti, z2]
          have hrun := Lib.run_unsafeString_row w pt it ty e hu hce (ν.ρ b) _ hsh bs (fun hc => by rw [hc] at hlen; simp at hlen; omega) (by omega) (by omega) (fun k x hx => by
            have hg : (denL ν (l.take n.toNat))[k]? = some (.int .u8 (x.toNat : Int)) := by
              rw [hden, List.getElem?_map, hx]; rfl
            rw [denL_get] at hg
            cases hl : (l.take n.toNat)[k]? with
            | none => rw [hl] at hg; cases hg
            | some v =>
              rw [hl] at hg
              injection hg with hg
              have hlk : l[k]? = some v := by
                rw [List.getElem?_take] at hl
                split at hl
                · exact hl
                · cases hl
              have := hA.get hlk
              rw [hg] at this
              rw [show (⟨ν.ρ b, 0, none⟩ : Addr).add k = ⟨ν.ρ b, k, none⟩ by
                have := Addr.add_mid (ν.ρ b) 0 k
                simpa using this]
              exact this)
          have hm : (n : Int) = (bs.length : Int) := by rw [hlen]; exact m3
          have hbn : ¬ bs.length = 0 := by rw [hlen]; exact hne
          have hfr : (w.freeze ⟨ν.ρ b, 0, none⟩ bs.length).heap = w.heap.modify (ν.ρ b) fun
              | .cells c elem (lo, hi) => .cells c elem (if lo == hi then (0, 0 + bs.length) else (min lo 0, max hi (0 + bs.length)))
              | o => o := by
            unfold World.freeze
            rw [if_neg hbn]
            rfl
          have hos : (w.freeze ⟨ν.ρ b, 0, none⟩ bs.length).os = w.os ∧ (w.freeze ⟨ν.ρ b, 0, none⟩ bs.length).tape = w.tape ∧ (w.freeze ⟨ν.ρ b, 0, none⟩ bs.length).output = w.output := by
            unfold World.freeze
            rw [if_neg hbn]
            exact ⟨rfl, rfl, rfl⟩
          obtain ⟨hc, hP⟩ := post_dead hR hb k4 (w' := w.freeze ⟨ν.ρ b, 0, none⟩ bs.length) (by rw [hfr]; simp) (fun k hk => by rw [hfr, Array.getElem?_modify, if_neg (Ne.symm hk)]) hos.1 hos.2.1 hos.2.2
          refine ⟨by omega, ν, _, ?_, by simp [Val], hP.mono (fun b hb => by simp [FP.W]; exact hb)⟩
          simp only [den]
          rw [z3, hm]
          exact hrun
        · exact (ok_fail k3).elim
      · exact (ok_fail h4).elim
    · exact (ok_fail h2).elim
  · exact (ok_fail h).elim
end Go.Ev
