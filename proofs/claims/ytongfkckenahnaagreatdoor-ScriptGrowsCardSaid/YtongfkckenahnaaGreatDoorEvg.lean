/- The abstract machine, text 7 of 7: calls are evaluated once, and hold in every world. -/
import Derived.Test.YtongfkckenahnaaGreatDoorEvf
/- Variables that are there when a call begins; results that are known. -/
namespace Go.Ev
variable {P : Program}
/-- a package's variable: its block, its type, its cells -/
structure GVar where
  g : Nat
  e : TypeId
  vs : List Value
def one1V : Value → Bool
  | .agg _ | .tuple _ => false
  | _ => true
noncomputable def GVar.obj (q : GVar) : AObj := .cells q.e (mapR ofV q.vs) false
/-- the variables hold what they should -/
def GlobW (P : Program) (gs : List GVar) (w : World) : Prop := ∀ q ∈ gs, ∃ f1 f2, w.heap[q.g]? = some (.cells q.vs.toArray q.e (f1, f2)) ∧ (∀ x ∈ q.vs, one x) ∧ (f1 = f2 ∨ (q.vs.length ≤ f1 ∧ P.underlying q.e = some (.int .u8)))
noncomputable def globH (gs : List GVar) : T AObj := List.rec (motive := fun _ => T AObj) .leaf (fun q _ ih => ih.upd 20 q.g (some q.obj)) gs
def gsOK (nG : Nat) (gs : List GVar) : Bool := gs.all fun q => Nat.blt q.g nG && Nat.blt q.g top
theorem globH_get {gs : List GVar} {nG : Nat} (h : gsOK nG gs = true) {b : Nat} {o : AObj} (hb : (globH gs).get b = some o) : ∃ q ∈ gs, q.g = b ∧ o = q.obj := by
  induction gs with
  | nil => simp [globH, T.get_leaf] at hb
  | cons q gs ih =>
    unfold gsOK at h
    rw [List.all_cons, Bool.and_eq_true, Bool.and_eq_true] at h
    have ht := blt_true h.1.2
    have hb : ((globH gs).upd 20 q.g (some q.obj)).get b = some o := hb
    rw [upd20 ht] at hb
    by_cases e : b = q.g
    · rw [if_pos e] at hb
      injection hb with hb
      exact ⟨q, List.mem_cons_self, e.symm, hb.symm⟩
    · rw [if_neg e] at hb
      obtain ⟨q', hq, e1, e2⟩ := ih (by unfold gsOK; exact h.2) hb
      exact ⟨q', List.mem_cons_of_mem _ hq, e1, e2⟩
theorem denL_ofV (ν : Nu) (vs : List Value) : denL ν (mapR ofV vs) = vs := by
  rw [mapR_eq, denL_eq, List.map_map]
  induction vs with
  | nil => rfl
  | cons v vs ih => simp [ofV_den, ih]
/-- the start: the variables, and nothing else -/
theorem rel_glob {gs : List GVar} {nG : Nat} (h : gsOK nG gs = true) {w : World} (hg : GlobW P gs w) : Rel P nG ⟨globH gs, nG⟩ ⟨id, id⟩ (fun b => b < nG) w := by
  have hlt : ∀ q ∈ gs, q.g < nG := fun q hq => by
    unfold gsOK at h
    rw [List.all_eq_true] at h
    have := h q hq
    rw [Bool.and_eq_true] at this
    exact blt_true this.1
  refine ⟨fun b o hb => ?_, fun b o hb => ?_, fun b b' o o' _ _ e => e, fun g hg' => ⟨rfl, hg'⟩⟩
  · obtain ⟨q, hq, e1, e2⟩ := globH_get h hb
    obtain ⟨f1, f2, k1, k2, k3⟩ := hg q hq
    subst e1 e2
    refine ⟨_, k1, [], f1, f2, ?_, ?_, ?_, fun _ => rfl, fun h => by cases h⟩
    · rw [denL_ofV, List.append_nil]
    · rw [denL_ofV, List.append_nil]; exact k2
    · rw [denL_ofV, List.append_nil]; exact k3
  · obtain ⟨q, hq, e1, e2⟩ := globH_get h hb
    refine ⟨e1 ▸ hlt q hq, ?_⟩
    rw [e2]
    show ValL _ (mapR ofV q.vs)
    rw [valL_iff, mapR_eq]
    intro x hx
    obtain ⟨v, _, rfl⟩ := List.mem_map.1 hx
    exact ofV_val _ v
/-- a call of values: what it tells it tells in every world in which the variables hold what they should -/
theorem ev_val {E : Env} (hE : EnvOK E P) (hM : P.follows .mixedOrders = true) (hS : SpecOK E P) {gs : List GVar} (hgs : gsOK E.nG gs = true) {F d : Nat} {f : FuncId} {vs : List Value} {x : SV} {s' : HS} {p : FP}
    (h : ((ev E F d).c f (mapR ofV vs) ⟨globH gs, E.nG⟩).run = some (x, s', p)) (hW : FP.wrs E.nG s'.c p [] = []) {w : World} (hg : GlobW P gs w) :
    Calls P f vs.toArray w (fun e w' => ∃ ν', e = .returned (den ν' x) ∧ Kept w w') := by
  obtain ⟨hC, _, _⟩ := ev_ok hE hS (fun _ _ hC hY => draw_ok hE hM hC hY) F d
  have h : Ok ((ev E F d).c f (mapR ofV vs)) ⟨globH gs, E.nG⟩ x s' p := h
  have hR : Rel P E.nG ⟨globH gs, E.nG⟩ ⟨id, id⟩ (fun b => b < E.nG) w := rel_glob hgs hg
  have hf : Fresh ⟨globH gs, E.nG⟩ s' (fun b => b < E.nG) := fun b hb _ hv => by
    have : E.nG ≤ b := hb
    omega
  have hv : ValL (fun b => b < E.nG) (mapR ofV vs) := by
    rw [valL_iff, mapR_eq]
    intro x hx
    obtain ⟨v, _, rfl⟩ := List.mem_map.1 hx
    exact ofV_val _ v
  have := hC.run h 0 hR hf hv
  rw [denL_ofV] at this
  refine callsIn_wide.1 (CallsIn.mono (F := Fence.wide) this ?_)
  rintro e w' ⟨ν', rfl, hx, hp⟩
  refine ⟨ν', rfl, hp.fr.os, hp.fr.tape, hp.fr.output, hp.fr.le, fun r hr => hp.fr.keep r hr (fun b hb hv => ?_)⟩
  have hb2 : ¬ (b < E.nG ∨ s'.c ≤ b) := fun hc => by
    have := (wrs_iff E.nG s'.c b p []).2 (Or.inr ⟨hb, hc⟩)
    rw [hW] at this
    cases this
  have hv : b < E.nG := hv
  omega
/-! ### Results that are known -/
/-- two pointers to blocks' cells -/
def eqP1 (x y : Value) : Bool := match x, y with
  | .pointer (some ⟨b, o, none⟩), .pointer (some ⟨b', o', none⟩) => Nat.beq b b' && Nat.beq o o'
  | _, _ => false
theorem eqP1_true {x y : Value} (h : eqP1 x y = true) : x = y := by
  unfold eqP1 at h
  split at h
  · rw [Bool.and_eq_true] at h
    rw [beq_true h.1, beq_true h.2]
  · cases h
/-- two handles of types -/
def eqH (x y : Value) : Bool := match x, y with
  | .agg l, .agg m => (match l.toList, m.toList with
    | [a], [b] => eqP1 a b
    | _, _ => false)
  | _, _ => false
theorem eqH_true {x y : Value} (h : eqH x y = true) : x = y := by
  unfold eqH at h
  split at h
  · rename_i l m
    split at h
    · rename_i a b h1 h2
      have := eqP1_true h
      subst this
      have : l = m := by rw [← Array.toList_inj, h1, h2]
      rw [this]
    · cases h
  · cases h
/-- a value of the machine's is this one -/
noncomputable def eqV : Nat → SV → Value → Bool
  | 0, _, _ => false
  | n + 1, x, v => match x, v with
    | .v (.int k a), .int j b => k == j && eqI a b
    | .v (.bool a), .bool b => a == b
    | .v (.slice none 0 0), .slice none 0 0 => true
    | .v (.pointer none), .pointer none => true
    | .v .nilIface, .nilIface => true
    | .v (.iface t a), .iface t' a' => Nat.beq t t' && eqH a a'
    | .str l, .string s => l == s.data.toList
    | .agg l, .agg a => Nat.beq (lenR l) (lenR a.toList) && (l.zip a.toList).all fun q => eqV n q.1 q.2
    | _, _ => false
theorem zip_den {ν : Nu} : ∀ (l : List SV) (vs : List Value), l.length = vs.length → (∀ q ∈ l.zip vs, den ν q.1 = q.2) → denL ν l = vs
  | [], [], _, _ => by simp [denL]
  | [], _ :: _, h, _ => by simp at h
  | _ :: _, [], h, _ => by simp at h
  | x :: l, v :: vs, h, hq => by
    simp only [denL]
    rw [hq (x, v) (by simp), zip_den l vs (by simpa using h) (fun q h' => hq q (by simp; exact Or.inr h'))]
theorem eqI_true {a b : Int} (h : eqI a b = true) : a = b := by
  rw [eqI_eq] at h
  simpa using h
theorem eqV_den (ν : Nu) : ∀ (n : Nat) (x : SV) (v : Value), eqV n x v = true → den ν x = v
  | 0, x, v, h => by simp [eqV] at h
  | n + 1, x, v, h => by
    unfold eqV at h
    split at h
    · rw [Bool.and_eq_true] at h
      simp only [den]
      rw [eq_of_beq h.1, eqI_true h.2]
    · simp only [den]; rw [eq_of_beq h]
    · rfl
    · rfl
    · rfl
    · rw [Bool.and_eq_true] at h
      simp only [den]
      rw [beq_true h.1, eqH_true h.2]
    · simp only [den]; rw [eq_of_beq h]
    · rename_i l a
      rw [Bool.and_eq_true] at h
      have hl := beq_true h.1
      rw [lenR_eq, lenR_eq] at hl
      have := zip_den (ν := ν) l a.toList hl (fun q hq => eqV_den ν n q.1 q.2 (by
        have := h.2
        rw [List.all_eq_true] at this
        exact this q hq))
      simp only [den, this]
    · cases h
/-- a function's result at arguments -/
structure Memo where
  f : FuncId
  vs : List Value
  v : Value
noncomputable def eqVs (xs : List SV) (vs : List Value) : Bool := Nat.beq (lenR xs) (lenR vs) && (xs.zip vs).all fun q => eqV 5 q.1 q.2
theorem eqVs_den (ν : Nu) {xs : List SV} {vs : List Value} (h : eqVs xs vs = true) : denL ν xs = vs := by
  unfold eqVs at h
  rw [Bool.and_eq_true] at h
  have hl := beq_true h.1
  rw [lenR_eq, lenR_eq] at hl
  refine zip_den xs vs hl (fun q hq => eqV_den ν 5 q.1 q.2 ?_)
  have := h.2
  rw [List.all_eq_true] at this
  exact this q hq
/-- the variables are as they should be -/
noncomputable def globC : List GVar → M Unit
  | [] => pure ()
  | q :: gs => get q.g >>= fun o => (match o with
    | .cells e l false => asrt (Nat.beq e q.e && Nat.beq (lenR l) (lenR q.vs) && (l.zip q.vs).all fun r => eqV 2 r.1 r.2) "a variable" >>= fun _ => globC gs
    | _ => fail "a variable")
theorem loc_globC : ∀ gs, Loc (globC gs)
  | [] => loc_pure _
  | q :: gs => by
    unfold globC
    refine loc_bind (loc_get _) (fun o => ?_)
    split
    · exact loc_bind (loc_asrt _ _) (fun _ => loc_globC gs)
    · exact loc_fail _
theorem ok_globC {G : Nat} {V : Nat → Prop} {ν : Nu} {w : World} : ∀ {gs : List GVar} {s s' : HS} {p : FP}, (∀ q ∈ gs, q.g < G) → Rel P G s ν V w → Ok (globC gs) s () s' p → s' = s ∧ (∀ b, ¬ p.W b) ∧ GlobW P gs w
  | [], s, s', p, _, _, h => by
    obtain ⟨_, rfl, rfl⟩ := ok_pure.1 h
    exact ⟨rfl, fun b => by simp [FP.W], fun q hq => by cases hq⟩
  | q :: gs, s, s', p, hl, hR, h => by
    unfold globC at h
    obtain ⟨o, s1, p1, p2, h1, h2, rfl⟩ := ok_bind.1 h
    obtain ⟨hb, rfl, rfl⟩ := ok_get.1 h1
    split at h2
    · rename_i e l
      obtain ⟨u, s2, p3, p4, h3, h4, rfl⟩ := ok_bind.1 h2
      obtain ⟨hz, rfl, rfl⟩ := ok_asrt.1 h3
      obtain ⟨e1, e2, e3⟩ := ok_globC (fun q hq => hl q (List.mem_cons_of_mem _ hq)) hR h4
      refine ⟨e1, fun b => by simp [FP.W, e2 b], fun q' hq' => ?_⟩
      rcases List.mem_cons.1 hq' with rfl | hq'
      · rw [Bool.and_eq_true, Bool.and_eq_true] at hz
        have z1 := beq_true hz.1.1
        have z2 := beq_true hz.1.2
        rw [lenR_eq, lenR_eq] at z2
        have hd : denL ν l = q'.vs := zip_den l q'.vs z2 (fun r hr => eqV_den ν 2 r.1 r.2 (by
          have := hz.2
          rw [List.all_eq_true] at this
          exact this r hr))
        obtain ⟨r, hr, rest, f1, f2, rfl, k2, k3, k4, _⟩ := hR.blk _ _ hb
        have := k4 rfl
        subst this
        rw [hd, List.append_nil] at k2 k3
        rw [(hR.glob q'.g (hl q' List.mem_cons_self)).1, hd, List.append_nil, z1] at hr
        exact ⟨f1, f2, hr, k2, by rw [← z1]; exact k3⟩
      · exact e3 q' hq'
    · exact (ok_fail h2).elim
/-- the known results as a specification -/
noncomputable def memoS (gs : List GVar) (tb : List Memo) : FuncId → List SV → Option (M SV) := fun f xs => List.rec (motive := fun _ => Option (M SV)) none (fun m _ ih => Bool.rec ih (some (globC gs >>= fun _ => pure (ofV m.v))) (Nat.beq f m.f && eqVs xs m.vs)) tb
theorem memoS_some {gs : List GVar} {tb : List Memo} {f : FuncId} {xs : List SV} {m : M SV} (h : memoS gs tb f xs = some m) : ∃ q ∈ tb, q.f = f ∧ eqVs xs q.vs = true ∧ m = (globC gs >>= fun _ => pure (ofV q.v)) := by
  induction tb with
  | nil => cases h
  | cons q tb ih =>
    have h : (Bool.rec (memoS gs tb f xs) (some (globC gs >>= fun _ => pure (ofV q.v))) (Nat.beq f q.f && eqVs xs q.vs) : Option (M SV)) = some m := h
    cases hc : Nat.beq f q.f && eqVs xs q.vs with
    | true =>
      rw [hc] at h
      injection h with h
      rw [Bool.and_eq_true] at hc
      exact ⟨q, List.mem_cons_self, (beq_true hc.1).symm, hc.2, h.symm⟩
    | false =>
      rw [hc] at h
      obtain ⟨q', h1, h2⟩ := ih h
      exact ⟨q', List.mem_cons_of_mem _ h1, h2⟩
/-- what is known of a result -/
def MemoOK (P : Program) (gs : List GVar) (m : Memo) : Prop := ∀ w, GlobW P gs w → Calls P m.f m.vs.toArray w (fun e w' => e = .returned m.v ∧ Kept w w')
theorem post_kept {G : Nat} {s : HS} {ν : Nu} {V : Nat → Prop} {w w' : World} (hR : Rel P G s ν V w) (hk : Kept w w') (p : FP) : Post P G s ν V w s p ν w' := by
  refine ⟨?_, fun _ _ => ⟨rfl, rfl⟩, ⟨hk.os, hk.tape, hk.output, hk.le, fun r hr _ => hk.same r hr⟩, fun b h1 h2 => by omega⟩
  rw [VN_self]
  refine ⟨fun b o hb => ?_, hR.cl, hR.inj, hR.glob⟩
  obtain ⟨r, hr, ho⟩ := hR.blk b o hb
  exact ⟨r, by rw [hk.same _ (Array.getElem?_eq_some_iff.1 hr).1]; exact hr, ho⟩
theorem memo_ok {E : Env} {gs : List GVar} {tb : List Memo} (hs : E.spec = memoS gs tb) (hgs : gsOK E.nG gs = true) (h : ∀ m ∈ tb, MemoOK P gs m) : SpecOK E P := by
  have hlt : ∀ q ∈ gs, q.g < E.nG := fun q hq => by
    unfold gsOK at hgs
    rw [List.all_eq_true] at hgs
    have := hgs q hq
    rw [Bool.and_eq_true] at this
    exact blt_true this.1
  refine ⟨fun f xs m hm => ?_, fun {f m xs s x s' p} hm hk {ν V w} n hR hf ha => ?_⟩
  · rw [hs] at hm
    obtain ⟨q, _, _, _, rfl⟩ := memoS_some hm
    exact loc_bind (loc_globC gs) (fun _ => loc_pure _)
  · rw [hs] at hm
    obtain ⟨q, hq, rfl, he, rfl⟩ := memoS_some hm
    obtain ⟨u, s1, p1, p2, h1, h2, rfl⟩ := ok_bind.1 hk
    obtain ⟨rfl, rfl, rfl⟩ := ok_pure.1 h2
    obtain ⟨rfl, _, hg⟩ := ok_globC hlt hR h1
    rw [eqVs_den ν he]
    refine callsIn_wide.2 ((h q hq w hg).mono ?_)
    rintro e w' ⟨rfl, hkp⟩
    exact ⟨ν, by rw [ofV_den], by rw [VN_self]; exact ofV_val V q.v, post_kept hR hkp _⟩
/-- the run's result is this value, and nothing that was there is written -/
noncomputable def endsV (nG : Nat) (v : Value) (r : Option (SV × HS × FP)) : Bool := match r with
  | some (x, s, p) => (match x, v with
    | .tup l, .tuple a => Nat.beq (lenR l) (lenR a.toList) && (l.zip a.toList).all fun q => eqV 4 q.1 q.2
    | x, v => eqV 5 x v) && nilR (FP.wrs nG s.c p [])
  | none => false
theorem endsV_ok {nG : Nat} {v : Value} {r : Option (SV × HS × FP)} (h : endsV nG v r = true) : ∃ x s p, r = some (x, s, p) ∧ (∀ ν, den ν x = v) ∧ FP.wrs nG s.c p [] = [] := by
  cases r with
  | none => cases h
  | some r =>
    obtain ⟨x, s, p⟩ := r
    unfold endsV at h
    simp only [Bool.and_eq_true] at h
    refine ⟨x, s, p, rfl, fun ν => ?_, nilR_iff h.2⟩
    have h1 := h.1
    split at h1
    · rename_i l a
      rw [Bool.and_eq_true] at h1
      have hl := beq_true h1.1
      rw [lenR_eq, lenR_eq] at hl
      have := zip_den (ν := ν) l a.toList hl (fun q hq => eqV_den ν 4 q.1 q.2 (by
        have := h1.2
        rw [List.all_eq_true] at this
        exact this q hq))
      simp only [den, this]
    · exact eqV_den ν 5 _ _ h1
/-- a new known result, by what is known -/
theorem memo_new {nG : Nat} {_ty : T TypeInfo} {_fn : T Func} {gs : List GVar} {tb : List Memo} {E : Env} (hE : EnvOK E P) (hn : E.nG = nG) (hM : P.follows .mixedOrders = true) (hs : E.spec = memoS gs tb) (hgs : gsOK nG gs = true)
    (h : ∀ m ∈ tb, MemoOK P gs m) {F d : Nat} {m : Memo} (hr : endsV nG m.v ((ev E F d).c m.f (mapR ofV m.vs) ⟨globH gs, nG⟩).run = true) : MemoOK P gs m := by
  subst hn
  intro w hg
  obtain ⟨x, s, p, h1, h2, h3⟩ := endsV_ok hr
  refine (ev_val hE hM (memo_ok hs hgs h) hgs h1 h3 hg).mono ?_
  rintro e w' ⟨ν', rfl, hk⟩
  exact ⟨by rw [h2], hk⟩
end Go.Ev
/- slices.Insert as a specification, from a contract. -/
namespace Go.Ev
variable {E : Env} {P : Program} {G : Nat} {s s' : HS} {p : FP} {ν : Nu} {V : Nat → Prop} {w : World}
/-- a row that turns where it lies: its old number is forgotten -/
theorem post_moved (hR : Rel P G s ν V w) {b b' : Nat} {e e2 : TypeId} {l L : List SV} {rest rest' : List Value} {f1 f2 : Nat} {u : Unit} (hb : s.h.get b = some (.cells e2 l true)) (hA : CellsAt P ν w b e2 l true rest f1 f2) {s1 : HS} {p1 p2 : FP}
    (h1 : Ok (newRow e L true) s b' s1 p1) (h2 : Ok (del b) s1 u s' p2) (hf : Fresh s s' V) (hv : ValL V L) (he : e = e2) (hlen : L.length + rest'.length = l.length + rest.length) (hr' : ∀ v ∈ rest', v ∈ rest) {w' : World}
    (g1 : w'.heap[ν.ρ b]? = some (.cells (denL ν L ++ rest').toArray e2 (f1, f2))) (g2 : ∀ k, k ≠ ν.ρ b → w'.heap[k]? = w.heap[k]?) (g3 : w'.heap.size = w.heap.size) (g4 : w'.os = w.os) (g5 : w'.tape = w.tape) (g6 : w'.output = w.output) :
    b' = s.c ∧ s'.c = s.c + 1 ∧ (setNu ν s.c (ν.ρ b) (ν.κ b)).ρ b' = ν.ρ b ∧ (setNu ν s.c (ν.ρ b) (ν.κ b)).κ b' = ν.κ b ∧ Post P G s ν V w s' (p1.app p2) (setNu ν s.c (ν.ρ b) (ν.κ b)) w' := by
  subst he
  unfold newRow at h1
  rcases ok_bif.1 h1 with ⟨hc, h3⟩ | ⟨_, h3⟩
  case inr => exact (ok_fail h3).elim
  obtain ⟨hn, ht, rfl, rfl, rfl⟩ := ok_new.1 h3
  obtain ⟨_, htb, rfl, rfl⟩ := ok_del.1 h2
  rw [allR_eq, List.all_eq_true] at hc
  have hv' : ¬ V s.c := hf s.c (Nat.le_refl _) (Nat.lt_succ_self _)
  obtain ⟨hVb, hVl⟩ := hR.cl b _ hb
  have hbne : b ≠ s.c := fun e => hv' (e ▸ hVb)
  have hag := setNu_agree (ν := ν) (r := ν.ρ b) (k := ν.κ b) hv'
  have hget : ∀ x o, ((s.h.upd 20 s.c (some (.cells e L true))).upd 20 b none).get x = some o → x ≠ b ∧ ((x = s.c ∧ o = .cells e L true) ∨ (x ≠ s.c ∧ s.h.get x = some o)) := fun x o hx => by
    rw [upd20 htb] at hx
    split at hx
    · cases hx
    · rename_i hxb
      rw [upd20 ht] at hx
      split at hx
      · rename_i hxc
        injection hx with hx
        exact ⟨hxb, .inl ⟨hxc, hx.symm⟩⟩
      · rename_i hxc
        exact ⟨hxb, .inr ⟨hxc, hx⟩⟩
  have hvl2 : ValL V L := hv
  have hmono : ∀ x, V x → VN V s ⟨(s.h.upd 20 s.c (some (.cells e L true))).upd 20 b none, s.c + 1⟩ x := fun x hx => Or.inl hx
  refine ⟨rfl, rfl, by simp [setNu], by simp [setNu], ⟨⟨fun x o hx => ?_, fun x o hx => ?_, fun x y o1 o2 hx hy he => ?_, fun g hg => ?_⟩, fun x hx => ?_, ⟨g4, g5, g6, by rw [g3]; exact Nat.le_refl _, fun k _ hk => g2 k (fun e => hk b (Or.inr rfl) hVb e.symm)⟩, fun x h1 h2 => ?_⟩⟩
  · obtain ⟨hxb, ⟨rfl, rfl⟩ | ⟨hxc, hx⟩⟩ := hget x o hx
    · refine ⟨.cells (denL ν L ++ rest').toArray e (f1, f2), ?_, rest', f1, f2, ?_, ?_, ?_, by simp, fun _ => ?_⟩
      · have : (setNu ν s.c (ν.ρ b) (ν.κ b)).ρ s.c = ν.ρ b := by simp [setNu]
        rw [this]; exact g1
      · rw [denL_agree hag _ hvl2]
      · rw [denL_agree hag _ hvl2]
        intro v hv
        rcases List.mem_append.1 hv with hv | hv
        · rw [denL_eq] at hv
          obtain ⟨y, hy, rfl⟩ := List.mem_map.1 hv
          exact one1_den ν (hc y hy)
        · exact hA.one v (List.mem_append.2 (.inr (hr' v hv)))
      · rw [denL_agree hag _ hvl2]
        have hfr := hA.mark
        rw [List.length_append, denL_length] at hfr ⊢
        refine hfr.imp id (fun hfr => ⟨?_, hfr.2⟩)
        have hfr := hfr.1
        omega
      · obtain ⟨i, hi, hn⟩ := hA.loose rfl
        refine ⟨i, hi, ?_⟩
        have : (setNu ν s.c (ν.ρ b) (ν.κ b)).κ s.c = ν.κ b := by simp [setNu]
        rw [this]
        omega
    · obtain ⟨r, hr, hor⟩ := hR.blk x o hx
      obtain ⟨hvx, hvo⟩ := hR.cl x o hx
      refine ⟨r, ?_, objR_agree hag hvx hvo hor⟩
      rw [(hag x hvx).1, g2 _ (fun e => hxb (hR.inj x b o _ hx hb e))]
      exact hr
  · obtain ⟨hxb, ⟨rfl, rfl⟩ | ⟨hxc, hx⟩⟩ := hget x o hx
    · exact ⟨Or.inr ⟨Nat.le_refl _, Nat.lt_succ_self _⟩, valO_mono hmono (.cells e L true) hvl2⟩
    · obtain ⟨hvx, hvo⟩ := hR.cl x o hx
      exact ⟨hmono _ hvx, valO_mono hmono _ hvo⟩
  · have key : ∀ x o, x ≠ b → x ≠ s.c → s.h.get x = some o → (setNu ν s.c (ν.ρ b) (ν.κ b)).ρ x = ν.ρ x ∧ ν.ρ x ≠ ν.ρ b := fun x o hxb hxc hx => ⟨by simp [setNu, hxc], fun e => hxb (hR.inj x b o _ hx hb e)⟩
    obtain ⟨hxb, ⟨rfl, rfl⟩ | ⟨hxc, hx⟩⟩ := hget x o1 hx
    · obtain ⟨hyb, ⟨rfl, rfl⟩ | ⟨hyc, hy⟩⟩ := hget y o2 hy
      · rfl
      · obtain ⟨k1, k2⟩ := key y o2 hyb hyc hy
        rw [k1] at he
        simp [setNu] at he
        exact (k2 he.symm).elim
    · obtain ⟨k1, k2⟩ := key x o1 hxb hxc hx
      obtain ⟨hyb, ⟨rfl, rfl⟩ | ⟨hyc, hy⟩⟩ := hget y o2 hy
      · rw [k1] at he
        simp [setNu] at he
        exact (k2 he).elim
      · obtain ⟨k3, k4⟩ := key y o2 hyb hyc hy
        rw [k1, k3] at he
        exact hR.inj x y o1 o2 hx hy he
  · obtain ⟨h1, h2⟩ := hR.glob g hg
    exact ⟨by rw [(hag g h2).1]; exact h1, hmono _ h2⟩
  · have : x ≠ s.c := fun e => hx (by subst e; exact ⟨Nat.le_refl _, Nat.lt_succ_self _⟩)
    simp [setNu, this]
  · right
    have h2 : x < s.c + 1 := h2
    have : x = s.c := by omega
    subst this
    exact ⟨b, Or.inr rfl, hVb, by simp [setNu]⟩

/-- the cells with others put in -/
def insV (k : Nat) (xs ys : List Value) : List Value := xs.take k ++ (ys ++ xs.drop k)
/-- what slices.Insert does at a row of cells of type e, each element of z cells -/
def InsC (P : Program) (f : FuncId) (e : TypeId) (z : Nat) : Prop :=
  ∀ (w : World) (g n c k h o m cv : Nat) (xs rest ys : List Value) (f1 f2 : Nat), w.heap[g]? = some (.cells (xs ++ rest).toArray e (f1, f2)) → xs.length = n * z → (xs ++ rest).length = c * z → f1 = f2 → (∀ v ∈ xs ++ rest, one v) →
    k < n → 0 < n → 0 < m → h ≠ g → ys.length = m * z → (∀ j u, ys[j]? = some u → w.cell? ⟨h, o + j, none⟩ = some u) → (∀ v ∈ ys, one v) → n + m ≤ 1000000 →
    (∃ hs f3, w.heap[h]? = some (.cells hs e (f3, f3))) →
    Calls P f #[.slice (some ⟨g, 0, none⟩) n c, .int .i64 k, .slice (some ⟨h, o, none⟩) m cv] w (fun en w' => w'.os = w.os ∧ w'.tape = w.tape ∧ w'.output = w.output ∧
      ((n + m ≤ c ∧ en = .returned (.slice (some ⟨g, 0, none⟩) (n + m) c) ∧ w'.heap[g]? = some (.cells (insV (k * z) xs ys ++ rest.drop (m * z)).toArray e (f1, f2)) ∧ (∀ r, r ≠ g → w'.heap[r]? = w.heap[r]?) ∧ w'.heap.size = w.heap.size) ∨
       (∃ c' rest', en = .returned (.slice (some ⟨w.heap.size, 0, none⟩) (n + m) c') ∧ (insV (k * z) xs ys ++ rest').length = c' * z ∧ (∀ v ∈ rest', one v) ∧ w'.heap = w.heap.push (.cells (insV (k * z) xs ys ++ rest').toArray e (0, 0)))))
/-- a block of cells of this type -/
noncomputable def typeOf (b : Nat) (e : TypeId) : M Unit := get b >>= fun o => (match o with
  | .cells e' _ _ => asrt (Nat.beq e' e) "type"
  | _ => fail "type")
theorem loc_typeOf (b : Nat) (e : TypeId) : Loc (typeOf b e) := by
  unfold typeOf
  refine loc_bind (loc_get _) (fun o => ?_)
  split
  · exact loc_asrt _ _
  · exact loc_fail _
theorem ok_typeOf {b : Nat} {e : TypeId} {u : Unit} (h : Ok (typeOf b e) s u s' p) : s = s' ∧ (∀ c, ¬ p.W c) ∧ ∃ l z, s.h.get b = some (.cells e l z) := by
  unfold typeOf at h
  obtain ⟨o, s1, p1, p2, h1, h2, rfl⟩ := ok_bind.1 h
  obtain ⟨hb, rfl, rfl⟩ := ok_get.1 h1
  split at h2
  · rename_i e' l z
    obtain ⟨he, rfl, rfl⟩ := ok_asrt.1 h2
    have he := beq_true he
    subst he
    exact ⟨rfl, fun c => by simp [FP.W], l, z, hb⟩
  · exact (ok_fail h2).elim
noncomputable def insX (E : Env) (e : TypeId) (xs : List SV) : M SV := match xs with
  | [.slc b z i len none, .v (.int .i64 k), .slc vb vz vi m vc] => cellsOf b >>= fun q => typeOf vb e >>= fun _ => srcCells z (.slc vb vz vi m vc) >>= fun r => E.info e >>= fun ti =>
    asrt (Nat.beq q.1 e && Nat.beq ti.size z && Nat.blt 0 z && Nat.beq i 0 && q.2.2 && Nat.beq (lenR q.2.1) (len * z) && !Nat.beq b vb && Nat.blt 0 m && inB k len && Nat.ble (len + m) 1000000 && Nat.blt 0 len) "Insert" >>= fun _ =>
    newRow e (appR (takeR q.2.1 (k.toNat * z)) (appR r.2 (dropR q.2.1 (k.toNat * z)))) true >>= fun b' => del b >>= fun _ => pure (.slc b' z 0 (len + m) none)
  | _ => fail "Insert: what?"
theorem loc_insX (E : Env) (e : TypeId) (xs : List SV) : Loc (insX E e xs) := by
  unfold insX
  split
  · exact loc_bind (loc_cellsOf _) (fun _ => loc_bind (loc_typeOf _ _) (fun _ => loc_bind (loc_srcCells _ _) (fun _ => loc_bind (loc_info _ _) (fun _ => loc_bind (loc_asrt _ _) (fun _ => loc_bind (loc_newRow _ _ _) (fun _ => loc_bind (loc_del _) (fun _ => loc_pure _)))))))
  · exact loc_fail _
theorem ins_run (hE : EnvOK E P) {f : FuncId} {e : TypeId} (hU : P.underlying e ≠ some (.int .u8)) {as : List SV} {x : SV} (hC : ∀ z, 0 < z → (∃ ti, E.ty e = some ti ∧ ti.size = z) → InsC P f e z) (h : Ok (insX E e as) s x s' p) (hR : Rel P G s ν V w) (hf : Fresh s s' V) (ha : ValL V as) :
    Calls P f (denL ν as).toArray w (RetR P G s ν V w s' p x) := by
  unfold insX at h
  split at h
  · rename_i b z i len k vb vz vi m vc
    obtain ⟨q, s1, p1, p2, h1, h2, rfl⟩ := ok_bind.1 h
    obtain ⟨hq, rfl, rfl⟩ := ok_cells.1 h1
    obtain ⟨ov, s2, p3, p4, h3, h4, rfl⟩ := ok_bind.1 h2
    obtain ⟨rfl, hw3, lv, zv, hvb⟩ := ok_typeOf h3
    obtain ⟨r, s3, p5, p6, h5, h6, rfl⟩ := ok_bind.1 h4
    obtain ⟨rn, cs⟩ := r
    obtain ⟨rfl, hw, hvs, hcase⟩ := run_src hR h5
    obtain ⟨ti, s4, p7, p8, h7, h8, rfl⟩ := ok_bind.1 h6
    obtain ⟨hti, rfl, rfl⟩ := ok_info.1 h7
    obtain ⟨u, s5, p9, p10, h9, h10, rfl⟩ := ok_bind.1 h8
    obtain ⟨hz, rfl, rfl⟩ := ok_asrt.1 h9
    obtain ⟨b', s6, p11, p12, h11, h12, rfl⟩ := ok_bind.1 h10
    obtain ⟨u2, s7, p13, p14, h13, h14, rfl⟩ := ok_bind.1 h12
    obtain ⟨rfl, rfl, rfl⟩ := ok_pure.1 h14
    obtain ⟨e2, l, lo⟩ := q
    simp only [Bool.and_eq_true] at hz hq h11
    obtain ⟨⟨⟨⟨⟨⟨⟨⟨⟨⟨z1, z2⟩, z3⟩, z4⟩, z5⟩, z6⟩, z7⟩, z8⟩, z9⟩, z10⟩, z11⟩ := hz
    have z11 := blt_true z11
    have z1 := beq_true z1
    have z2 := beq_true z2
    have z3 := blt_true z3
    have z4 := beq_true z4
    have z6 := beq_true z6
    rw [lenR_eq] at z6
    have z7 : b ≠ vb := fun hc => by subst hc; simp at z7
    have z8 := blt_true z8
    obtain ⟨n1, n2, n3⟩ := inB_eq z9
    have z10 := ble_true z10
    subst z1 z4 z5
    obtain ⟨rest, f1, f2, hA⟩ := cellsAt hR hq
    obtain ⟨i', hi', hl⟩ := hA.loose rfl
    have hii : i' = ti := by
      rw [hE.ty _ _ hti] at hi'
      injection hi' with hi'
      exact hi'.symm
    subst hii
    rw [z2] at hl
    rcases hcase with ⟨n', c, hx, _⟩ | ⟨l', hx, _⟩ | ⟨b0, i0, c0, hx, hlen, hrg, hone⟩
    · cases hx
    · cases hx
    · injection hx with hb0 hz0 hi0 hn0 hc0
      subst hb0 hz0 hi0 hn0 hc0
      have hne : ν.ρ vb ≠ ν.ρ b := fun hc => z7 (hR.inj b vb _ _ hq hvb hc.symm)
      have hvl : ValL V l := (hR.cl b _ hq).2
      have hvc : ValL V cs := hvs (by exact ha.2.2.1)
      rw [takeR_eq, dropR_eq, appR_eq, appR_eq] at h11
      generalize hL : l.take (k.toNat * vz) ++ (cs ++ l.drop (k.toNat * vz)) = L at h11
      have hvL : ValL V L := by
        rw [← hL, valL_iff]
        rw [valL_iff] at hvl hvc
        intro y hy
        rcases List.mem_append.1 hy with hy | hy
        · exact hvl y (List.mem_of_mem_take hy)
        · rcases List.mem_append.1 hy with hy | hy
          · exact hvc y hy
          · exact hvl y (List.mem_of_mem_drop hy)
      have hdL : denL ν L = insV (k.toNat * vz) (denL ν l) (denL ν cs) := by
        rw [← hL]
        unfold insV
        rw [denL_append, denL_append, denL_eq, denL_eq, denL_eq, denL_eq, List.map_take, List.map_drop]
      have hLl : L.length = (len + m) * vz := by
        rw [← hL]
        simp only [List.length_append, List.length_take, List.length_drop, z6, hlen]
        have : k.toNat * vz ≤ len * vz := Nat.mul_le_mul_right _ (by omega)
        rw [Nat.add_mul]
        omega
      have hcall := hC vz z3 ⟨i', hti, z2⟩ w (ν.ρ b) len (ν.κ b) k.toNat (ν.ρ vb) (vi * vz) m (vc.getD (ν.κ vb - vi)) (denL ν l) rest (denL ν cs) f1 f2 hA.heap (by rw [denL_length]; exact z6) (by rw [List.length_append, denL_length]; exact hl) (hA.mark.resolve_right (fun h => hU h.2)) hA.one
        (by omega) z11 z8 hne (by rw [denL_length]; exact hlen) (fun j u hj => hrg j u hj) hone z10 (by
          obtain ⟨rv, g3, g4, hB⟩ := cellsAt hR hvb
          have hm := hB.mark.resolve_right (fun h => hU h.2)
          exact ⟨_, g3, by rw [hB.heap, hm]⟩)
      have hargs : (denL ν [SV.slc b vz 0 len none, SV.v (.int .i64 k), SV.slc vb vz vi m vc]).toArray = #[.slice (some ⟨ν.ρ b, 0, none⟩) len (ν.κ b), .int .i64 (k.toNat : Int), .slice (some ⟨ν.ρ vb, vi * vz, none⟩) m (vc.getD (ν.κ vb - vi))] := by
        rw [← n3]
        simp [denL, den]
      rw [hargs]
      refine hcall.mono ?_
      rintro en w' ⟨g4, g5, g6, ⟨hroom, rfl, g1, g2, g3⟩ | ⟨c', rest', rfl, hc1, hc2, hc3⟩⟩
      · rw [← hdL] at g1
        have hroom' : (len + m) * vz ≤ ν.κ b * vz := Nat.mul_le_mul_right _ hroom
        obtain ⟨k1, k2, k3, k4, k5⟩ := post_moved (rest' := rest.drop (m * vz)) hR hq hA h11 h13 hf hvL rfl (by rw [List.length_drop, hLl, z6]; rw [Nat.add_mul] at hroom' ⊢; omega) (fun v hv => List.mem_of_mem_drop hv) g1 g2 g3 g4 g5 g6
        refine ⟨_, ?_, Or.inr ⟨by omega, by omega⟩, k5.mono (fun b hb => by simp [FP.W, hw3] at hb ⊢; rcases hb with hb | hb <;> simp [hb])⟩
        simp only [den, Option.getD_none, Nat.zero_mul, Nat.sub_zero]
        rw [k3, k4]
      · rw [← hdL] at hc1 hc3
        obtain ⟨d1, d2⟩ : s7.c = s6.c ∧ True := by
          obtain ⟨_, _, hs, _⟩ := ok_del.1 h13
          exact ⟨by rw [hs], trivial⟩
        obtain ⟨c1, c2, c3, c4, c5, c6, c7⟩ := post_row (w' := w') (fz := (0, 0)) hR h11 (hf.left (Nat.le_of_eq d1.symm)) hvL rest' c' hc2 (by simp) (fun _ => ⟨i', hE.ty _ _ hti, by rw [List.length_append, denL_length] at hc1; rw [z2]; exact hc1⟩) (Or.inl rfl) hc3 g4 g5 g6
        obtain ⟨k1, k2⟩ := post_del c7.rel h13
        refine ⟨_, ?_, Or.inr ⟨by omega, by omega⟩, (c7.trans k2 (by omega) (by omega) hf).mono (fun b hb => by simp [FP.W, hw3] at hb ⊢; rcases hb with hb | hb <;> simp [hb])⟩
        simp only [den, Option.getD_none, Nat.zero_mul, Nat.sub_zero]
        rw [c4, c5]
  · exact (ok_fail h).elim
end Go.Ev
/- Known results and slices.Insert as one specification. -/
namespace Go.Ev
variable {P : Program}
/-- known results; else slices.Insert at a row that grew -/
noncomputable def specI (gs : List GVar) (tb : List Memo) (E0 : Env) (fi : FuncId) (e : TypeId) : FuncId → List SV → Option (M SV) := fun f xs => match memoS gs tb f xs with
  | some m => some m
  | none => bif Nat.beq f fi then (match xs with
    | [.slc _ _ _ _ none, _, .slc ..] => some (insX E0 e xs)
    | _ => none) else none
theorem specI_ok {E E0 : Env} {gs : List GVar} {tb : List Memo} {fi : FuncId} {e : TypeId} (hU : P.underlying e ≠ some (.int .u8)) (hE : EnvOK E0 P) (hs : E.spec = specI gs tb E0 fi e) (hgs : gsOK E.nG gs = true) (h : ∀ m ∈ tb, MemoOK P gs m)
    (hC : ∀ z, 0 < z → (∃ ti, E0.ty e = some ti ∧ ti.size = z) → InsC P fi e z) : SpecOK E P := by
  have hM : SpecOK { E with spec := memoS gs tb } P := memo_ok (E := { E with spec := memoS gs tb }) rfl hgs h
  have key : ∀ {f xs m}, specI gs tb E0 fi e f xs = some m → memoS gs tb f xs = some m ∨ (f = fi ∧ m = insX E0 e xs) := fun {f xs m} hm => by
    unfold specI at hm
    split at hm
    · rename_i m' hm'
      injection hm with hm
      exact Or.inl (hm ▸ hm')
    · cases hf : Nat.beq f fi with
      | false => rw [hf] at hm; cases hm
      | true =>
        rw [hf, cond_true] at hm
        split at hm
        · injection hm with hm
          exact Or.inr ⟨beq_true hf, hm.symm⟩
        · cases hm
  refine ⟨fun f xs m hm => ?_, fun {f m xs s x s' p} hm hk {ν V w} n hR hf ha => ?_⟩
  · rw [hs] at hm
    rcases key hm with hm | ⟨_, rfl⟩
    · exact hM.loc f xs m hm
    · exact loc_insX _ _ _
  · rw [hs] at hm
    rcases key hm with hm | ⟨rfl, rfl⟩
    · exact hM.run hm hk n hR hf ha
    · exact callsIn_wide.2 (ins_run hE hU hC hk hR hf ha)
/-- a result that is known by an evaluation -/
theorem memo_next {E : Env} {gs : List GVar} {nG : Nat} (hE : EnvOK E P) (hn : E.nG = nG) (hM : P.follows .mixedOrders = true) (hS : SpecOK E P) (hgs : gsOK nG gs = true) {F d : Nat} {m : Memo}
    (hr : endsV nG m.v ((ev E F d).c m.f (mapR ofV m.vs) ⟨globH gs, nG⟩).run = true) : MemoOK P gs m := by
  subst hn
  intro w hg
  obtain ⟨x, s, p, h1, h2, h3⟩ := endsV_ok hr
  refine (ev_val hE hM hS hgs h1 h3 hg).mono ?_
  rintro e w' ⟨ν', rfl, hk⟩
  exact ⟨by rw [h2], hk⟩
/-- the environment of a program, with known results -/
noncomputable def envI (P : Program) (nG : Nat) (ty : T TypeInfo) (fn : T Func) (gs : List GVar) (fi : FuncId) (e : TypeId) (tb : List Memo) : Env := { P := P, nG := nG, ty := ty.get, fn := fn.get, spec := specI gs tb (envT P nG ty fn) fi e }
theorem envI_ok {nG : Nat} {ty : T TypeInfo} {fn : T Func} {gs : List GVar} {fi : FuncId} {e : TypeId} {tb : List Memo} (h1 : ty = T.ofL 12 P.types.toList) (h2 : fn = T.ofL 14 P.funcs.toList) (h3 : unnamed P = true) (hgs : gsOK nG gs = true) (h : ∀ m ∈ tb, MemoOK P gs m)
    (hU : P.underlying e ≠ some (.int .u8)) (hC : ∀ z, 0 < z → (∃ ti, ty.get e = some ti ∧ ti.size = z) → InsC P fi e z) : EnvOK (envI P nG ty fn gs fi e tb) P ∧ SpecOK (envI P nG ty fn gs fi e tb) P := by
  have h0 := envT_ok (nG := nG) h1 h2 h3
  exact ⟨⟨h0.prog, h0.ty, h0.fn, h0.named⟩, specI_ok hU h0 rfl hgs h hC⟩
end Go.Ev
