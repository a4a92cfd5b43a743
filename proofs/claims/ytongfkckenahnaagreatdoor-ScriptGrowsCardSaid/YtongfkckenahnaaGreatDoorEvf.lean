/- The abstract machine, text 6 of 7: calls are evaluated once, and hold in every world. -/
import Derived.Test.YtongfkckenahnaaGreatDoorEve
import Derived.LoopNIn
import Derived.Scope
import Derived.RangeFuncLeaves
import Derived.RecoverIn
import Derived.RangeFuncNested
/- One more operation of a drawn region runs. -/
namespace Go.Ev
variable {E : Env} {P : Program} {call : FuncId → List SV → M SV} {yld : Nat → List SV → M SV}
theorem sameSV_eq {x y : SV} (h : sameSV x y = true) : x = y := by
  unfold sameSV at h
  split at h
  · rw [Bool.and_eq_true] at h
    rw [eq_of_beq h.1, eq_of_beq h.2]
  · rw [eq_of_beq h]
  · rfl
  · rfl
  · rfl
  · rfl
  · rfl
  · cases h
theorem rel_c {G : Nat} {h : T AObj} {c c' : Nat} {ν : Nu} {V : Nat → Prop} {w : World} (hR : Rel P G ⟨h, c⟩ ν V w) : Rel P G ⟨h, c'⟩ ν V w := ⟨hR.blk, hR.cl, hR.inj, hR.glob⟩
theorem rel_h {G : Nat} {h h' : T AObj} {c c' : Nat} {ν : Nu} {V : Nat → Prop} {w : World} (hR : Rel P G ⟨h, c⟩ ν V w) (e : ∀ b, h'.get b = h.get b) : Rel P G ⟨h', c'⟩ ν V w :=
  ⟨fun b o hb => hR.blk b o (by rw [← e b]; exact hb), fun b o hb => hR.cl b o (by rw [← e b]; exact hb), fun b b' o o' hb hb' => hR.inj b b' o o' (by rw [← e b]; exact hb) (by rw [← e b']; exact hb'), hR.glob⟩
theorem runX_congr {ops : Array Oper} {a a1 : A} {o : Oper} (h : ∀ b ∈ namesR ops o, tmGet a1.tm b = tmGet a.tm b) : runX E call yld a1 o = runX E call yld a o := by
  unfold runX
  rw [exec_congr (E := E) (ρ := evalO E a1.tm) (ρ' := evalO E a.tm) o (fun x hx => by
    cases x with
    | tmp t => exact h t (names_op hx)
    | _ => rfl)]
section
variable {ops : Array Oper} {sts : List Stp} {a a' : A} {s s' : HS} {D : Nat → Prop} {ν ν1 : Nu} {V : Nat → Prop} {w w1 : World} {H : T AObj} {a1 : A} {act1 : Act}
/-- the operation's run from where what came ahead of it has run -/
theorem step_run (hC : CallOK E P call) (hY : YldOK E P yld) (h : Chain E call yld ops (Region.before ops) sts 0 [] a s a' s') {i : Nat} {t : Stp} (hi : sts[i]? = some t) (hn : ¬ D i)
    (ha : ∀ j, ((Region.before ops).getD i 0).testBit j = true → D j) (hcl : ∀ k, D k → ∀ j, ((Region.before ops).getD k 0).testBit j = true → D j)
    (hp : ∀ b, ∃ k, k ≤ sts.length ∧ H.get b = (begS sts s k).h.get b ∧ ∀ m t, sts[m]? = some t → t.W b → (D m ↔ m < k)) (hw : t.wt = true) :
    ∃ c c' H3 q, Ok (runX E call yld t.a t.o) ⟨H, c⟩ t.x ⟨H3, c'⟩ q ∧ (∀ b, t.W b → H3.get b = t.s1.h.get b) ∧ (∀ b, ¬ t.W b → H3.get b = H.get b) ∧ (∀ b, q.W b → t.p1.W b) ∧ ∀ b, (c ≤ b ∧ b < c') ↔ (t.s.c ≤ b ∧ b < t.s1.c) := by
  have hok := (chain_ok h t (List.mem_of_getElem? hi)).run hw
  by_cases hall : ∀ b, t.T b → H.get b = t.s.h.get b
  · obtain ⟨H3, o3, g3⟩ := (loc_runX hC.loc hY.loc t.a t.o _ _ _ _ hok).again H hall
    exact ⟨t.s.c, t.s1.c, H3, t.p1, o3, fun b hb => (g3 b).1 hb, fun b hb => (g3 b).2 hb, fun _ hb => hb, fun _ => Iff.rfl⟩
  · obtain ⟨b, hb⟩ : ∃ b, ¬ (t.T b → H.get b = t.s.h.get b) := Classical.not_forall.1 hall
    obtain ⟨hb, hne⟩ := Classical.not_imp.1 hb
    rcases pos_b hC hY h hi hn ha hb (hp b) with he | ⟨m, u, hm, hD, hu, huw, he⟩
    · exact (hne he).elim
    · rcases unord hC hY h hm hi hu with hbit | ⟨_, _, hx | ⟨g1, g2, g3, g4, g5⟩⟩
      · exact (hn (hcl m hD i hbit)).elim
      · exact ((hx b).2 huw hb).elim
      · obtain ⟨y, s2, p, b', k1, k2, k3, k4, k5, k6⟩ := ok_againX g5
        have hbb : b = b' := by
          have := g4 b hb
          rw [k4] at this
          simpa using this
        have hy := sameSV_eq k2
        subst hy
        obtain ⟨H3, o3, e3⟩ := (loc_exec E (evalO E t.a.tm) t.o _ _ _ _ k1).again H (fun b0 h0 => by
          rw [(again_tch k3 k5 k6 b0).1 h0, ← hbb]
          exact he)
        refine ⟨u.s1.c, s2.c, H3, p.app .nil, ok_bind.2 ⟨.val t.x, _, _, _, o3, ok_pure.2 ⟨rfl, rfl, rfl⟩, rfl⟩, fun b0 h0 => (g1 b0 h0).elim, fun b0 _ => (e3 b0).2 (again_tch k3 k5 k6 b0).2, ?_, fun b0 => by omega⟩
        rintro b0 (h0 | h0)
        · exact ((again_tch k3 k5 k6 b0).2 (Or.inl h0)).elim
        · cases h0
/-- and what has run then -/
theorem inv_step (hC : CallOK E P call) (hY : YldOK E P yld) (h : Chain E call yld ops (Region.before ops) sts 0 [] a s a' s') (hf : Fresh s s' V) (hat : a.n ≤ top) (_hwide : ∀ b, a.n ≤ b → tmGet a.tm b = und) {i : Nat} {t : Stp} (hi : sts[i]? = some t) (hn : ¬ D i)
    (ha : ∀ j, ((Region.before ops).getD i 0).testBit j = true → D j) (hcl : ∀ k, D k → ∀ j, ((Region.before ops).getD k 0).testBit j = true → D j)
    (hI : Inv E P sts s a ν V w D H a1 ν1 act1 w1) {c c' : Nat} {H3 : T AObj} {q : FP} (e1 : ∀ b, t.W b → H3.get b = t.s1.h.get b) (e2 : ∀ b, ¬ t.W b → H3.get b = H.get b) (e3 : ∀ b, q.W b → t.p1.W b)
    (e4 : ∀ b, (c ≤ b ∧ b < c') ↔ (t.s.c ≤ b ∧ b < t.s1.c)) {ν' : Nu} {w' : World} (hP : Post P E.nG ⟨H, c⟩ ν1 (VD V sts D) w1 ⟨H3, c'⟩ q ν' w') (hx : Val (VN (VD V sts D) ⟨H, c⟩ ⟨H3, c'⟩) t.x) (hact : ActR ν' a1 act1)
    {D' : Nat → Prop} (hD' : ∀ k, D' k ↔ k = i ∨ D k) : Inv E P sts s a ν V w D' H3 (a1.put t.o t.x) ν' (act1.put t.o.dst (den ν' t.x)) w' := by
  have hlt := (List.getElem?_eq_some_iff.1 hi).1
  have hiv := ivl hC hY h hi
  have hC' : ∀ b, CD sts D' b ↔ CD sts D b ∨ (t.s.c ≤ b ∧ b < t.s1.c) := fun b => by
    constructor
    · rintro ⟨k, u, hk, hu, hb⟩
      rcases (hD' k).1 hk with rfl | hk
      · rw [hi] at hu; injection hu with hu; subst hu
        exact Or.inr hb
      · exact Or.inl ⟨k, u, hk, hu, hb⟩
    · rintro (⟨k, u, hk, hu, hb⟩ | hb)
      · exact ⟨k, u, (hD' k).2 (Or.inr hk), hu, hb⟩
      · exact ⟨i, t, (hD' i).2 (Or.inl rfl), hi, hb⟩
  have hWD : ∀ b, WD sts D b → WD sts D' b := fun b ⟨k, u, hk, hu, hb⟩ => ⟨k, u, (hD' k).2 (Or.inr hk), hu, hb⟩
  have hWt : ∀ b, q.W b → WD sts D' b := fun b hb => ⟨i, t, (hD' i).2 (Or.inl rfl), hi, e3 b hb⟩
  have hdis : ∀ b, CD sts D b → ¬ (t.s.c ≤ b ∧ b < t.s1.c) := fun b ⟨k, u, hk, hu, hb⟩ hb2 => by
    have := ivl_one hC hY h hu hi hb hb2
    exact hn (this ▸ hk)
  have hVC : ∀ b, V b → ¬ CD sts D b := fun b hv ⟨k, u, hk, hu, hb⟩ => by
    have := ivl hC hY h hu
    exact hf b (by omega) (by omega) hv
  have hVN : VN (VD V sts D) ⟨H, c⟩ ⟨H3, c'⟩ = VD V sts D' := by
    funext b; apply propext
    unfold VN VD
    rw [hC' b, ← e4 b, or_assoc]
  have hn1 : (a1.put t.o t.x).n = a.n ∧ (a1.put t.o t.x).df = a.df := ⟨(put_n a1 t.o t.x).1.trans hI.n, (put_n a1 t.o t.x).2.trans hI.df⟩
  have hva : ValA (VD V sts D') a1 := valA_mono (fun b hb => by rw [← hVN]; exact Or.inl hb) hI.va
  rw [hVN] at hx
  have later : ∀ m u, i < m → sts[m]? = some u → D m → (∀ b, u.W b → ¬ t.T b ∨ ∀ b, ¬ t.W b) ∧ ∀ x, u.o.dst = some x → x ∉ namesR ops t.o := fun m u hm hu hD => by
    rcases unord hC hY h hm hi hu with hbit | ⟨_, hx, hy⟩
    · exact (hn (hcl m hD i hbit)).elim
    · refine ⟨fun b hb => ?_, hx⟩
      rcases hy with hy | hy
      · exact Or.inl ((hy b).2 hb)
      · exact Or.inr hy.1
  have sooner : ∀ m u, m < i → sts[m]? = some u → D m ∨ ((∀ b, u.W b → ¬ t.T b) ∧ ∀ x, u.o.dst = some x → x ∉ namesR ops t.o) := fun m u hm hu => by
    rcases unord hC hY h hm hu hi with hbit | ⟨hx, _, hy⟩
    · exact Or.inl (ha m hbit)
    · refine Or.inr ⟨fun b hb => ?_, hx⟩
      rcases hy with hy | hy
      · exact (hy b).1 hb
      · exact (hy.1 b hb).elim
  refine ⟨fun b => ?_, fun b => ?_, hn1.1, hn1.2, ?_, fun x hxn => ?_, ?_, fun b hb => ?_, val_put hva hx, act_put hva hact⟩
  · by_cases hb : t.W b
    · refine ⟨i + 1, hlt, by rw [e1 b hb, (beg_succ hi a s).2], fun m u hu huw => ?_⟩
      rw [hD' m]
      constructor
      · rintro (rfl | hD)
        · exact Nat.lt_succ_self _
        · rcases Nat.lt_or_ge m (i + 1) with hm | hm
          · exact hm
          · rcases (later m u (by omega) hu hD).1 b huw with hx | hx
            · exact (hx (W_T hb)).elim
            · exact (hx b hb).elim
      · intro hm
        by_cases e : m = i
        · exact Or.inl e
        · rcases sooner m u (by omega) hu with hD | hx
          · exact Or.inr hD
          · exact (hx.1 b huw (W_T hb)).elim
    · obtain ⟨k, hk, he, hW⟩ := hI.hp b
      refine ⟨k, hk, (e2 b hb).trans he, fun m u hu huw => ?_⟩
      rw [hD' m, ← hW m u hu huw]
      constructor
      · rintro (rfl | hD)
        · rw [hi] at hu; injection hu with hu; subst hu
          exact (hb huw).elim
        · exact hD
      · exact Or.inr
  · obtain ⟨k, hk, he, hW⟩ := hI.tp b
    by_cases hb : t.o.dst = some b
    · have hbn : b ∈ namesR ops t.o := names_dst hb
      refine ⟨i + 1, hlt, ?_, fun m u hu hud => ?_⟩
      · rw [(beg_succ hi a s).1]
        show tmGet (a1.put t.o t.x).tm b = tmGet (t.a.put t.o t.x).tm b
        have hta : t.a.n = a.n := by rw [((chain_beg h).1 i t hi).1, (beg_n h i (by omega)).1]
        rw [put_some hb, put_some hb, hta, hI.n]
        cases hbl : Nat.blt b a.n with
        | true =>
          have hbt : b < top := Nat.lt_of_lt_of_le (blt_true hbl) hat
          show tmGet (a1.tm.upd 20 b (some t.x)) b = tmGet (t.a.tm.upd 20 b (some t.x)) b
          rw [tmGet_upd hbt, tmGet_upd hbt, if_pos rfl, if_pos rfl]
        | false =>
          show tmGet a1.tm b = tmGet t.a.tm b
          exact pos_t hC hY h hat hi hn ha hcl hbn ⟨k, hk, he, hW⟩
      · rw [hD' m]
        constructor
        · rintro (rfl | hD)
          · exact Nat.lt_succ_self _
          · rcases Nat.lt_or_ge m (i + 1) with hm | hm
            · exact hm
            · exact ((later m u (by omega) hu hD).2 b hud hbn).elim
        · intro hm
          by_cases e : m = i
          · exact Or.inl e
          · rcases sooner m u (by omega) hu with hD | hx
            · exact Or.inr hD
            · exact (hx.2 b hud hbn).elim
    · refine ⟨k, hk, (put_get (by rw [hI.n]; exact hat) hb).trans he, fun m u hu hud => ?_⟩
      rw [hD' m, ← hW m u hu hud]
      constructor
      · rintro (rfl | hD)
        · rw [hi] at hu; injection hu with hu; subst hu
          exact (hb hud).elim
        · exact hD
      · exact Or.inr
  · have := hP.rel
    rw [hVN] at this
    exact rel_c this
  · have hx1 : ¬ CD sts D x := fun hc => hxn ((hC' x).2 (Or.inl hc))
    have hx2 : ¬ (c ≤ x ∧ x < c') := fun hc => hxn ((hC' x).2 (Or.inr ((e4 x).1 hc)))
    have g1 := hP.out x hx2
    have g2 := hI.out x hx1
    exact ⟨g1.1.trans g2.1, g1.2.trans g2.2⟩
  · have f1 := hI.fr
    have f2 := hP.fr
    refine ⟨f2.os.trans f1.os, f2.tape.trans f1.tape, f2.output.trans f1.output, Nat.le_trans f1.le f2.le, fun r hr2 hk => ?_⟩
    refine (f2.keep r (Nat.lt_of_lt_of_le hr2 f1.le) (fun b hb hv => ?_)).trans (f1.keep r hr2 (fun b hb hv => hk b (hWD b hb) hv))
    rcases hv with hv | hv
    · rw [(hI.out b (hVC b hv)).1]
      exact hk b (hWt b hb) hv
    · rcases hI.new b hv with h | ⟨b0, hb0, hv0, e⟩
      · omega
      · exact e ▸ hk b0 (hWD b0 hb0) hv0
  · rcases (hC' b).1 hb with hb | hb
    · have e := hP.out b (fun hc => hdis b hb ((e4 b).1 hc))
      rw [e.1]
      rcases hI.new b hb with h | ⟨b0, hb0, hv0, e0⟩
      · exact Or.inl h
      · exact Or.inr ⟨b0, hWD b0 hb0, hv0, e0⟩
    · have hb' := (e4 b).2 hb
      rcases hP.new b hb'.1 hb'.2 with h | ⟨b0, hb0, hv0, e0⟩
      · exact Or.inl (Nat.le_trans hI.fr.le h)
      · rcases hv0 with hv0 | hv0
        · exact Or.inr ⟨b0, hWt b0 hb0, hv0, by rw [← (hI.out b0 (hVC b0 hv0)).1, e0]⟩
        · rcases hI.new b0 hv0 with h | ⟨b2, hb2, hv2, e5⟩
          · exact Or.inl (e0 ▸ h)
          · exact Or.inr ⟨b2, hWD b2 hb2, hv2, e5.trans e0⟩
end
end Go.Ev
/- A drawn region from its beginning to its end. -/
namespace Go.Ev
variable {E : Env} {P : Program} {call : FuncId → List SV → M SV} {yld : Nat → List SV → M SV}
section
variable {ops : Array Oper} {sts : List Stp} {a a' : A} {s s' : HS} {D : Nat → Prop} {ν ν1 : Nu} {V : Nat → Prop} {w w1 : World} {H : T AObj} {a1 : A} {act act1 : Act}
theorem inv_start (hR : Rel P E.nG s ν V w) (hv : ValA V a) (ha : ActR ν a act) (hD : ∀ k, ¬ D k) (n : Nat) : Inv E P sts s a ν V w D s.h a ν act { w with drawn := n } := by
  have hC : ∀ b, ¬ CD sts D b := fun b ⟨k, _, hk, _⟩ => hD k hk
  have hV : VD V sts D = V := by
    funext b; apply propext
    exact ⟨fun h => h.elim id (fun h => (hC b h).elim), Or.inl⟩
  refine ⟨fun b => ⟨0, Nat.zero_le _, rfl, fun m t _ _ => ⟨fun h => (hD m h).elim, fun h => by omega⟩⟩, fun b => ⟨0, Nat.zero_le _, rfl, fun m t _ _ => ⟨fun h => (hD m h).elim, fun h => by omega⟩⟩, rfl, rfl, ?_, fun x _ => ⟨rfl, rfl⟩, ⟨rfl, rfl, rfl, Nat.le_refl _, fun _ _ _ => rfl⟩, fun b hb => (hC b hb).elim, by rw [hV]; exact hv, ha⟩
  rw [hV]
  have := (post_draw (w' := { w with drawn := n }) hR .nil rfl rfl rfl rfl).rel
  rw [VN_self] at this
  exact rel_c (c := s.c) this
theorem inv_end (hC : CallOK E P call) (hY : YldOK E P yld) (h : Chain E call yld ops (Region.before ops) sts 0 [] a s a' s') (hf : Fresh s s' V) (hat : a.n ≤ top) {p : FP} (hL : Logs p sts) (hD : ∀ k, k < sts.length → D k)
    (hI : Inv E P sts s a ν V w D H a1 ν1 act1 w1) : Post P E.nG s ν V w s' p ν1 w1 ∧ ValA (VN V s s') a' ∧ ActR ν1 a' act1 := by
  obtain ⟨hb1, hb2, hb3⟩ := chain_beg h
  have hC' : ∀ b, CD sts D b ↔ (s.c ≤ b ∧ b < s'.c) := fun b => by
    constructor
    · rintro ⟨k, t, _, ht, hb⟩
      have := ivl hC hY h ht
      omega
    · rintro ⟨h1, h2⟩
      obtain ⟨m, t, ht, hb⟩ := ivl_all h h1 sts.length (Nat.le_refl _) (by rw [← hb3]; exact h2)
      exact ⟨m, t, hD m (List.getElem?_eq_some_iff.1 ht).1, ht, hb⟩
  have hV : VD V sts D = VN V s s' := by
    funext b; apply propext
    unfold VD VN
    rw [hC' b]
  have hh : ∀ b, s'.h.get b = H.get b := fun b => by
    obtain ⟨k, hk, he, hW⟩ := hI.hp b
    rw [he, hb3]
    refine beg_gap hC hY h b k sts.length hk (Nat.le_refl _) (fun m t h1 h2 h3 h4 => ?_)
    have := (hW m t h3 h4).1 (hD m h2)
    omega
  have ht : ∀ b, tmGet a'.tm b = tmGet a1.tm b := fun b => by
    obtain ⟨k, hk, he, hW⟩ := hI.tp b
    rw [he, hb2]
    refine beg_gapT h hat b k sts.length hk (Nat.le_refl _) (fun m t h1 h2 h3 h4 => ?_)
    have := (hW m t h3 h4).1 (hD m h2)
    omega
  have hn : a'.n = a1.n ∧ a'.df = a1.df := by
    have := beg_n h sts.length (Nat.le_refl _)
    rw [← hb2] at this
    exact ⟨this.1.trans hI.n.symm, this.2.trans hI.df.symm⟩
  have hWp : ∀ b, WD sts D b → V b → p.W b := fun b ⟨k, t, hk, ht, hb⟩ hv => by
    have hiv := ivl hC hY h ht
    have hw : t.wt = true := by
      cases hw : t.wt with
      | true => rfl
      | false =>
        obtain ⟨_, _, e⟩ := (chain_ok h t (List.mem_of_getElem? ht)).out hw
        rw [e] at hb
        cases hb
    refine ((hL b).2).2 ⟨t, List.mem_of_getElem? ht, ?_⟩
    unfold Stp.wr
    rw [hw, cond_true, wrs_iff]
    refine Or.inr ⟨hb, ?_⟩
    rcases Nat.lt_or_ge b t.s.c with h1 | h1
    · exact Or.inl h1
    · rcases Nat.lt_or_ge b t.s1.c with h2 | h2
      · exact (hf b (by omega) (by omega) hv).elim
      · exact Or.inr h2
  have hva := hI.va
  rw [hV] at hva
  have hrel := hI.rel
  rw [hV] at hrel
  refine ⟨⟨rel_h hrel hh, fun x hx => hI.out x (fun hc => hx ((hC' x).1 hc)), ?_, fun b h1 h2 => ?_⟩, ⟨⟨by rw [hn.1]; exact hva.1.1, fun t => by rw [ht t]; exact hva.1.2.1 t, fun t h => by rw [ht t]; exact hva.1.2.2 t (by rw [← hn.1]; exact h)⟩, by rw [hn.2]; exact hva.2⟩, ⟨?_, by rw [hn.2]; exact hI.act.df⟩⟩
  · have f := hI.fr
    exact ⟨f.os, f.tape, f.output, f.le, fun r hr hk => f.keep r hr (fun b hb hv => hk b (hWp b hb hv) hv)⟩
  · rcases hI.new b ((hC' b).2 ⟨h1, h2⟩) with h | ⟨b0, hb0, hv0, e⟩
    · exact Or.inl h
    · exact Or.inr ⟨b0, hWp b0 hb0 hv0, hv0, e⟩
  · rw [hI.act.tm, hn.1]
    unfold tmL
    congr 1
    exact List.map_congr_left (fun t _ => by rw [ht t])
/-- every order -/
theorem draw_any (hE : EnvOK E P) (hC : CallOK E P call) (hY : YldOK E P yld) (h : Chain E call yld ops (Region.before ops) sts 0 [] a s a' s') (hso : sts.map (·.o) = ops.toList) (hbk : backs ops.toList 0 = true) (hf : Fresh s s' V) (hat : a.n ≤ top) (hwide : ∀ b, a.n ≤ b → tmGet a.tm b = und)
    {p : FP} (hL : Logs p sts) {n : Nat} {rd : Option Nat} {Q : Exit → Act → World → Prop} (hq : ∀ ν' w' act', Post P E.nG s ν V w s' p ν' w' → ValA (VN V s s') a' → ActR ν' a' act' → Q .normal act' w') :
    ∀ (fuel : Nat) (L : Array Bool) (H : T AObj) (a1 : A) (ν1 : Nu) (act1 : Act) (w1 : World), Cl ops L → cntU L ops.size ≤ fuel → Inv E P sts s a ν V w (Lst L) H a1 ν1 act1 w1 → wpAnyIn (fen rd) n P .any ops Q fuel L act1 w1 := by
  have hlen : sts.length = ops.size := by
    have := congrArg List.length hso
    simpa using this
  have fin : ∀ (L : Array Bool) (H : T AObj) (a1 : A) (ν1 : Nu) (act1 : Act) (w1 : World), (∀ k, k < ops.size → Lst L k) → Inv E P sts s a ν V w (Lst L) H a1 ν1 act1 w1 → Q .normal act1 w1 := fun L H a1 ν1 act1 w1 hall hI => by
    obtain ⟨g1, g2, g3⟩ := inv_end hC hY h hf hat hL (fun k hk => hall k (by omega)) hI
    exact hq _ _ _ g1 g2 g3
  intro fuel
  induction fuel with
  | zero =>
    intro L H a1 ν1 act1 w1 hcl hcnt hI
    have hall := cnt_zero (L := L) ops.size (by omega)
    refine ⟨?_, fin L H a1 ν1 act1 w1 hall hI⟩
    cases hr : Region.ready .any ops L with
    | nil => rfl
    | cons i l =>
      obtain ⟨h1, h2, _⟩ := ready_ok hcl.sz (show i ∈ Region.ready .any ops L by rw [hr]; exact List.mem_cons_self)
      exact (h2 (hall i h1)).elim
  | succ fuel ih =>
    intro L H a1 ν1 act1 w1 hcl hcnt hI
    refine ⟨fun hr => fin L H a1 ν1 act1 w1 (ready_nil hcl.sz hbk hr) hI, fun i hi => ?_⟩
    obtain ⟨h1, hn, _⟩ := ready_ok hcl.sz hi
    have hiL : i < L.size := by rw [hcl.sz]; exact h1
    obtain ⟨t, ht⟩ : ∃ t, sts[i]? = some t := ⟨_, List.getElem?_eq_getElem (by omega)⟩
    have hto : ops[i]? = some t.o := by
      have := congrArg (fun l => l[i]?) hso
      simp only [List.getElem?_map, ht, Option.map_some] at this
      rw [this]; simp
    have ha : ∀ j, ((Region.before ops).getD i 0).testBit j = true → Lst L j := fun j hj => hcl.ahead hi j hj
    have hD' : ∀ k, Lst (L.setIfInBounds i true) k ↔ k = i ∨ Lst L k := lst_set hiL
    have hcnt' : cntU (L.setIfInBounds i true) ops.size ≤ fuel := by
      have := cnt_set hiL hn ops.size
      rw [if_pos h1] at this
      omega
    have next := fun H a1 ν1 act1 w1 hI => ih (L.setIfInBounds i true) H a1 ν1 act1 w1 (hcl.set hi) hcnt' hI
    have htm : ∀ b ∈ namesR ops t.o, tmGet a1.tm b = tmGet t.a.tm b := fun b hb => pos_t hC hY h hat ht hn ha hcl.cl hb (hI.tp b)
    have hwt : Region.wanted t.o (yielded ops act1.tmps) = t.wt := by
      rw [want_eq hI.act ops t.o hI.va, want_congr (fun b hb => htm b (names_guard hb))]
      exact (chain_ok h t (List.mem_of_getElem? ht)).want
    unfold wpOpIn
    rw [hto]
    simp only [hwt]
    cases hw : t.wt with
    | true =>
      rw [if_pos rfl]
      obtain ⟨c, c', H3, q, g1, g2, g3, g4, g5⟩ := step_run hC hY h ht hn ha hcl.cl hI.hp hw
      rw [← runX_congr htm] at g1
      refine runX_wp hE hC hY g1 (rel_c hI.rel) ?_ hI.va hI.act ?_
      · intro x hx1 hx2 hv
        have hx := (g5 x).1 ⟨hx1, hx2⟩
        rcases hv with hv | ⟨k, u, hk, hu, hb⟩
        · have := ivl hC hY h ht
          exact hf x (by omega) (by omega) hv
        · have := ivl_one hC hY h hu ht hb hx
          exact hn (this ▸ hk)
      · intro ν' w' hP hx hact
        exact next H3 _ _ _ _ (inv_step hC hY h hf hat hwide ht hn ha hcl.cl hI g2 g3 g4 g5 hP hx hact hD')
    | false =>
      rw [if_neg (by simp)]
      refine ⟨fun _ _ => trivial, ?_⟩
      have hok := chain_ok h t (List.mem_of_getElem? ht)
      obtain ⟨ex, es, ep⟩ := hok.out hw
      have hP : Post P E.nG ⟨H, 0⟩ ν1 (VD V sts (Lst L)) w1 ⟨H, 0⟩ .nil ν1 w1 := post_refl hI.rel _
      have := inv_step hC hY h hf hat hwide ht hn ha hcl.cl hI (c := 0) (c' := 0) (H3 := H) (q := .nil) (fun b hb => ((none_W hok hw b).1 hb).elim) (fun _ _ => rfl) (fun _ hb => by cases hb) (fun b => by rw [es]; omega) hP (by rw [ex]; exact und_val _) hI.act hD'
      rw [ex, und_den] at this
      exact next H _ _ _ _ this
end
end Go.Ev
/- Code. -/
namespace Go.Ev
variable {E : Env} {P : Program} {s s' : HS} {p : FP} {ν : Nu} {V : Nat → Prop} {w : World}
variable {call : FuncId → List SV → M SV} {yld : Nat → List SV → M SV} {ar : Option Nat}
section scope
variable {F : Fence} {n : Nat} {b : Frame} {a : Act} {k : List Item} {cs : List Frame} {w : World} {Q : Exit → Act → World → Prop}
theorem stepR_scope {c : Code} : step P (lone (b.atR a (.code (.scope c) :: k)) cs w) = .next (lone (b.atR a (.code c :: .inScope c :: k)) cs w) :=
  step_lone_go (by simp [stepG, stepG.exec, Frame.atR])
theorem stepR_inScope {c : Code} : step P (lone (b.atR a (.inScope c :: k)) cs w) = .next (lone (b.atR a k) cs w) :=
  step_lone_go (by simp [stepG, stepG.exec, Frame.atR])
/-- a piece of a scope, up to the scope's end -/
def ScopeIn (F : Fence) (n : Nat) (P : Program) (c : Code) (Q : Exit → Act → World → Prop) (rest : Code) (a : Act) (w : World) : Prop :=
  ∀ (b : Frame) (k : List Item) (cs : List Frame), b.roundOf = F.round → F.fn b.fn → F.room (cs.length + 1 + n) →
    ∃ e a' w', Q e a' w' ∧ ArrivesIn (Machine.fenced P F) P (lone (b.atR a (.code rest :: .inScope c :: k)) cs w) b k cs e a' w'
/-- as Q, but for a jump to a label of the scope's -/
def Exit.jumps (F : Fence) (n : Nat) (P : Program) (c : Code) (Q : Exit → Act → World → Prop) : Exit → Act → World → Prop
  | .goto l, a, w => (match findLabel c l with
    | some rest => ScopeIn F n P c Q rest a w
    | none => Q (.goto l) a w)
  | e, a, w => Q e a w
theorem scopeIn_of_wp {c rest : Code} (h : rest.wpIn F n P (Exit.jumps F n P c Q) a w) : ScopeIn F n P c Q rest a w := by
  intro b k cs hro hb hr
  obtain ⟨e, a₁, w₁, hq, harr⟩ := h b (.inScope c :: k) cs hro hb hr
  cases e with
  | normal => exact ⟨.normal, a₁, w₁, hq, StepsIn.trans harr (.one (fenced_calm hb hr rfl) stepR_inScope)⟩
  | exit id =>
    have hx : exitTo id (.inScope c :: k) = exitTo id k := by simp [exitTo]
    exact ⟨.exit id, a₁, w₁, hq, fun k' hk => harr.1 k' (by rw [hx]; exact hk), fun hr' hk => harr.2 hr' (by rw [hx]; exact hk)⟩
  | goto l =>
    have hq : (match findLabel c l with
      | some rest => ScopeIn F n P c Q rest a₁ w₁
      | none => Q (.goto l) a₁ w₁) := hq
    cases hf : findLabel c l with
    | some rest' =>
      rw [hf] at hq
      have hg : gotoIn l (.inScope c :: k) = some (.code rest' :: .inScope c :: k) := by simp [gotoIn, hf]
      obtain ⟨e₂, a₂, w₂, hq₂, harr₂⟩ := hq b k cs hro hb hr
      exact ⟨e₂, a₂, w₂, hq₂, .of_steps (harr.1 _ hg) harr₂⟩
    | none =>
      rw [hf] at hq
      have hg : gotoIn l (.inScope c :: k) = gotoIn l k := by simp [gotoIn, hf]
      exact ⟨.goto l, a₁, w₁, hq, fun k' hk => harr.1 k' (by rw [hg]; exact hk), fun hr' hk => harr.2 hr' (by rw [hg]; exact hk)⟩
  | ret => exact ⟨_, a₁, w₁, hq, harr⟩
  | panic ch => exact ⟨_, a₁, w₁, hq, harr⟩
  | outgrown => exact ⟨_, a₁, w₁, hq, harr⟩
theorem wpIn_scope_jumps {c : Code} (h : ScopeIn F n P c Q c a w) : (Code.scope c).wpIn F n P Q a w := by
  intro b k cs hro hb hr
  obtain ⟨e, a₁, w₁, hq, harr⟩ := h b k cs hro hb hr
  exact ⟨e, a₁, w₁, hq, .of_steps (.one (fenced_calm hb hr rfl) stepR_scope) harr⟩
end scope
def exitOf : AExit → Exit
  | .normal => .normal
  | .exit id => .exit id
  | .goto l => .goto l
  | .ret => .ret
structure DrawOK (E : Env) (P : Program) (call : FuncId → List SV → M SV) (yld : Nat → List SV → M SV) : Prop where
  loc : ∀ ops a, Loc (evDr E call yld ops a)
  run : ∀ {ops a s a' s' p}, Ok (evDr E call yld ops a) s a' s' p → ∀ {ν V w act n Q r} (id : Nat), Rel P E.nG s ν V w → Fresh s s' V → ValA V a → ActR ν a act →
    Ends E P s ν V w s' p a' (Q .normal) → (Code.region id ops true).wpIn (fen r) n P Q act w
structure RngOK (E : Env) (P : Program) (call : FuncId → List SV → M SV) (ar : Option Nat) : Prop where
  loc : ∀ a f ps asg body, Loc (evR E call ar a f ps asg body)
  run : ∀ {a f ps asg body s e a' s' p}, Ok (evR E call ar a f ps asg body) s (e, a') s' p → ∀ {ν V w act n Q}, Rel P E.nG s ν V w → Fresh s s' V → (∀ l, ar = some l → V l) → ValA V a → ActR ν a act →
    Ends E P s ν V w s' p a' (Q (exitOf e)) → (Code.rangeFunc f ps asg body).wpIn (fen (ar.map ν.ρ)) n P Q act w
theorem evC_zero (c : Code) (a : A) : evC E call yld ar 0 c a = fail "fuel" := rfl
theorem evC_succ (N : Nat) (c : Code) (a : A) : evC E call yld ar (N + 1) c a = evC1 E call yld ar N (evC E call yld ar N) c a := rfl
theorem evSc_succ (ev : Code → A → M (AExit × A)) (b : Code) (n : Nat) (c : Code) (a : A) : evSc ev b (n + 1) c a = ev c a >>= fun r => (match r.1 with
  | .goto l => (match findLabel b l with
    | some c' => evSc ev b n c' r.2
    | none => pure (.goto l, r.2))
  | e => pure (e, r.2)) := rfl
theorem loc_evSc {ev : Code → A → M (AExit × A)} (h : ∀ c a, Loc (ev c a)) (b : Code) : ∀ n c a, Loc (evSc ev b n c a)
  | 0, _, _ => loc_fail _
  | n + 1, c, a => by
    rw [evSc_succ]
    refine loc_bind (h c a) (fun r => ?_)
    split
    · split
      · exact loc_evSc h b n _ _
      · exact loc_pure _
    · exact loc_pure _
theorem loc_evC (hC : ∀ f as, Loc (call f as)) (hY : ∀ l as, Loc (yld l as)) (hD : DrawOK E P call yld) (hG : RngOK E P call ar) : ∀ (N : Nat) (c : Code) (a : A), Loc (evC E call yld ar N c a)
  | 0, c, a => loc_fail _
  | N + 1, c, a => by
    have ih := loc_evC hC hY hD hG N
    rw [evC_succ]
    unfold evC1
    split
    · exact loc_pure _
    · exact loc_pure _
    · rename_i id ops draw
      cases draw with
      | true => exact loc_bind (hD.loc ops a) (fun _ => loc_pure _)
      | false => exact loc_bind (loc_evS hC hY ops _ a) (fun _ => loc_pure _)
    · refine loc_bind (ih _ _) (fun r => ?_)
      split
      · exact ih _ _
      · exact loc_pure _
    · exact loc_bind (loc_asBool _) (fun t => loc_br (ih _ _) (ih _ _))
    · refine loc_bind (ih _ _) (fun r => ?_)
      split
      · exact loc_cond (loc_pure _) (loc_pure _)
      · exact loc_pure _
    · refine loc_bind (ih _ _) (fun r => ?_)
      split
      · exact ih _ _
      · exact loc_pure _
    · exact loc_pure _
    · exact loc_pure _
    · exact loc_evSc ih _ _ _ _
    · exact loc_pure _
    · exact hG.loc _ _ _ _ _
    · exact loc_fail _
/-- code of the abstract machine is code of the model's -/
def CodeOK (E : Env) (P : Program) (call : FuncId → List SV → M SV) (yld : Nat → List SV → M SV) (ar : Option Nat) (N : Nat) : Prop :=
  ∀ {c a s e a' s' p}, Ok (evC E call yld ar N c a) s (e, a') s' p → ∀ {ν V w act n Q}, Rel P E.nG s ν V w → Fresh s s' V → (∀ l, ar = some l → V l) → ValA V a → ActR ν a act →
    Ends E P s ν V w s' p a' (Q (exitOf e)) → c.wpIn (fen (ar.map ν.ρ)) n P Q act w
theorem ends_nil {a : A} {act : Act} {K : Act → World → Prop} {p : FP} (hR : Rel P E.nG s ν V w) (hv : ValA V a) (ha : ActR ν a act) (h : Ends E P s ν V w s p a K) : K act w :=
  h ν w act (post_refl hR _) (by rw [VN_self]; exact hv) ha
theorem loop_wp (hE : EnvOK E P) (hC : CallOK E P call) (hY : YldOK E P yld) (hD : DrawOK E P call yld) (hG : RngOK E P call ar) {b : Code} {n : Nat} {Q : Exit → Act → World → Prop} : ∀ (N : Nat), (∀ M, M < N → CodeOK E P call yld ar M) →
    ∀ {a s e a' s' p}, Ok (evC E call yld ar N (.loop b) a) s (e, a') s' p → ∀ {ν V w act}, Rel P E.nG s ν V w → Fresh s s' V → (∀ l, ar = some l → V l) → ValA V a → ActR ν a act →
      Ends E P s ν V w s' p a' (Q (exitOf e)) → Code.roundsIn (fen (ar.map ν.ρ)) n P b Q N act w
  | 0, _, a, s, e, a', s', p, h, _, _, _, _, _, _, _, _, _, _ => (ok_fail h).elim
  | N + 1, ih, a, s, e, a', s', p, h, ν, V, w, act, hR, hf, har, hv, ha, hq => by
    rw [evC_succ] at h
    unfold evC1 at h
    obtain ⟨⟨e1, a1⟩, s1, p1, p2, h1, h2, rfl⟩ := ok_bind.1 h
    have c1 := (loc_evC hC.loc hY.loc hD hG N b a _ _ _ _ h1).le
    rw [roundsIn_succ]
    cases e1 with
    | normal =>
      have c2 := (loc_evC hC.loc hY.loc hD hG N (.loop b) a1 _ _ _ _ h2).le
      refine ih N (Nat.lt_succ_self N) h1 hR (hf.left c2) har hv ha ?_
      intro ν1 w1 act1 hp hv1 ha1
      have hag := hp.out.agree (hf.left c2)
      show Code.roundsIn _ _ _ _ _ _ _ _
      rw [← fen_agree hag har]
      exact loop_wp hE hC hY hD hG N (fun M hM => ih M (by omega)) h2 hp.rel (hf.right c1) (fun l hl => Or.inl (har l hl)) hv1 ha1 (hq.next hp c1 c2 hf)
    | exit id =>
      obtain ⟨h3, rfl, rfl⟩ := ok_pure.1 h2
      injection h3 with h3 h4; subst h3; subst h4
      exact ih N (Nat.lt_succ_self N) h1 hR hf har hv ha (hq.mono (fun b hb => Or.inl hb))
    | goto id =>
      obtain ⟨h3, rfl, rfl⟩ := ok_pure.1 h2
      injection h3 with h3 h4; subst h3; subst h4
      exact ih N (Nat.lt_succ_self N) h1 hR hf har hv ha (hq.mono (fun b hb => Or.inl hb))
    | ret =>
      obtain ⟨h3, rfl, rfl⟩ := ok_pure.1 h2
      injection h3 with h3 h4; subst h3; subst h4
      exact ih N (Nat.lt_succ_self N) h1 hR hf har hv ha (hq.mono (fun b hb => Or.inl hb))
theorem Ends.same {a : A} {K K' : Act → World → Prop} (h : Ends E P s ν V w s' p a K) (hk : ∀ a w, K a w → K' a w) : Ends E P s ν V w s' p a K' := fun ν' w' act' hp hv ha => hk _ _ (h ν' w' act' hp hv ha)
theorem sc_ok {N : Nat} (hL : ∀ c a, Loc (evC E call yld ar N c a)) (ihN : CodeOK E P call yld ar N) {b : Code} {n : Nat} {Q : Exit → Act → World → Prop} : ∀ (M : Nat) {c : Code} {a : A} {s s' : HS} {e : AExit} {a' : A} {p : FP}, Ok (evSc (evC E call yld ar N) b M c a) s (e, a') s' p →
    ∀ {ν V w act}, Rel P E.nG s ν V w → Fresh s s' V → (∀ l, ar = some l → V l) → ValA V a → ActR ν a act → Ends E P s ν V w s' p a' (Q (exitOf e)) → ScopeIn (fen (ar.map ν.ρ)) n P b Q c act w
  | 0, _, _, _, _, _, _, _, h, _, _, _, _, _, _, _, _, _, _ => (ok_fail h).elim
  | M + 1, c, a, s, s', e, a', p, h, ν, V, w, act, hR, hf, har, hv, ha, hq => by
    rw [evSc_succ] at h
    obtain ⟨⟨e1, a1⟩, s1, p1, p2, h1, h2, rfl⟩ := ok_bind.1 h
    have c1 := (hL c a _ _ _ _ h1).le
    refine scopeIn_of_wp ?_
    have same : (∀ l, e1 ≠ .goto l) → Ok (pure (e1, a1) : Go.Ev.M (AExit × A)) s1 (e, a') s' p2 → c.wpIn (fen (ar.map ν.ρ)) n P (Exit.jumps (fen (ar.map ν.ρ)) n P b Q) act w := fun hne h2 => by
      obtain ⟨h3, rfl, rfl⟩ := ok_pure.1 h2
      injection h3 with h3 h4; subst h3; subst h4
      refine ihN h1 hR hf har hv ha ((hq.mono (fun b hb => Or.inl hb)).same ?_)
      intro a w hk
      cases e1 with
      | goto l => exact (hne l rfl).elim
      | _ => exact hk
    cases e1 with
    | goto l =>
      have h2 : Ok (match findLabel b l with
        | some c' => evSc (evC E call yld ar N) b M c' a1
        | none => pure (.goto l, a1)) s1 (e, a') s' p2 := h2
      cases hfl : findLabel b l with
      | some c' =>
        rw [hfl] at h2
        have c2 := (loc_evSc hL b M c' a1 _ _ _ _ h2).le
        refine ihN h1 hR (hf.left c2) har hv ha ?_
        intro ν1 w1 act1 hp hv1 ha1
        have hag := hp.out.agree (hf.left c2)
        show (match findLabel b l with
          | some rest => ScopeIn (fen (ar.map ν.ρ)) n P b Q rest act1 w1
          | none => Q (.goto l) act1 w1)
        rw [hfl, ← fen_agree hag har]
        exact sc_ok hL ihN M h2 hp.rel (hf.right c1) (fun l hl => Or.inl (har l hl)) hv1 ha1 (hq.next hp c1 c2 hf)
      | none =>
        rw [hfl] at h2
        obtain ⟨h3, rfl, rfl⟩ := ok_pure.1 h2
        injection h3 with h3 h4; subst h3; subst h4
        refine ihN h1 hR hf har hv ha ((hq.mono (fun b hb => Or.inl hb)).same ?_)
        intro a w hk
        show (match findLabel b l with
          | some rest => ScopeIn (fen (ar.map ν.ρ)) n P b Q rest a w
          | none => Q (.goto l) a w)
        rw [hfl]
        exact hk
    | normal => exact same (fun l h => by cases h) h2
    | exit id => exact same (fun l h => by cases h) h2
    | ret => exact same (fun l h => by cases h) h2
theorem code_ok (hE : EnvOK E P) (hC : CallOK E P call) (hY : YldOK E P yld) (hD : DrawOK E P call yld) (hG : RngOK E P call ar) (N : Nat) : CodeOK E P call yld ar N := by
  induction N using Nat.strongRecOn with
  | _ N ih =>
  cases N with
  | zero => intro c a s e a' s' p h; exact (ok_fail h).elim
  | succ N =>
  intro c a s e a' s' p h ν V w act n Q hR hf har hv ha hq
  have ihN : CodeOK E P call yld ar N := ih N (Nat.lt_succ_self N)
  have hL := loc_evC (E := E) (ar := ar) hC.loc hY.loc hD hG N
  cases c with
  | skip =>
    obtain ⟨h3, rfl, rfl⟩ := ok_pure.1 h
    injection h3 with h3 h4; subst h3; subst h4
    exact wpIn_skip (ends_nil hR hv ha hq)
  | label l =>
    obtain ⟨h3, rfl, rfl⟩ := ok_pure.1 h
    injection h3 with h3 h4; subst h3; subst h4
    exact wpIn_label (ends_nil hR hv ha hq)
  | exit id =>
    obtain ⟨h3, rfl, rfl⟩ := ok_pure.1 h
    injection h3 with h3 h4; subst h3; subst h4
    exact wpIn_exit (ends_nil hR hv ha hq)
  | ret =>
    obtain ⟨h3, rfl, rfl⟩ := ok_pure.1 h
    injection h3 with h3 h4; subst h3; subst h4
    exact wpIn_ret (ends_nil hR hv ha hq)
  | region id ops draw =>
    cases draw with
    | true =>
      obtain ⟨a1, s1, p1, p2, h1, h2, rfl⟩ := ok_bind.1 h
      obtain ⟨h3, rfl, rfl⟩ := ok_pure.1 h2
      injection h3 with h3 h4; subst h3; subst h4
      exact hD.run h1 id hR hf hv ha (hq.mono (fun b hb => Or.inl hb))
    | false =>
      obtain ⟨a1, s1, p1, p2, h1, h2, rfl⟩ := ok_bind.1 h
      obtain ⟨h3, rfl, rfl⟩ := ok_pure.1 h2
      injection h3 with h3 h4; subst h3; subst h4
      refine wpIn_region ?_
      have := evS_wp (n := n) (Q := Q) hE hC hY ops ops.toList 0 (fun i => by simp) h1 hR hf har hv ha (hq.mono (fun b hb => Or.inl hb))
      rw [List.range_eq_range']
      simpa using this
  | seq x y =>
    obtain ⟨⟨e1, a1⟩, s1, p1, p2, h1, h2, rfl⟩ := ok_bind.1 h
    have c1 := (hL x a _ _ _ _ h1).le
    refine wpIn_seq ?_
    cases e1 with
    | normal =>
      have c2 := (hL y a1 _ _ _ _ h2).le
      refine ihN h1 hR (hf.left c2) har hv ha ?_
      intro ν1 w1 act1 hp hv1 ha1
      have hag := hp.out.agree (hf.left c2)
      show Code.wpIn _ _ _ _ _ _ _
      rw [← fen_agree hag har]
      exact ihN h2 hp.rel (hf.right c1) (fun l hl => Or.inl (har l hl)) hv1 ha1 (hq.next hp c1 c2 hf)
    | exit id =>
      obtain ⟨h3, rfl, rfl⟩ := ok_pure.1 h2
      injection h3 with h3 h4; subst h3; subst h4
      exact ihN h1 hR hf har hv ha (hq.mono (fun b hb => Or.inl hb))
    | goto id =>
      obtain ⟨h3, rfl, rfl⟩ := ok_pure.1 h2
      injection h3 with h3 h4; subst h3; subst h4
      exact ihN h1 hR hf har hv ha (hq.mono (fun b hb => Or.inl hb))
    | ret =>
      obtain ⟨h3, rfl, rfl⟩ := ok_pure.1 h2
      injection h3 with h3 h4; subst h3; subst h4
      exact ihN h1 hR hf har hv ha (hq.mono (fun b hb => Or.inl hb))
  | cond x c1 c2 =>
    obtain ⟨t, s1, p1, p2, h1, h2, rfl⟩ := ok_bind.1 h
    obtain ⟨hc, rfl, rfl⟩ := ok_asBool.1 h1
    have hev : act.eval x = .bool t := by rw [eval_den hR hv ha]; simp only [hc, den]
    have hq' := hq.mono (p := p2) (fun b hb => Or.inr hb)
    rcases ok_br.1 h2 with ⟨rfl, h3⟩ | ⟨rfl, h3⟩
    · exact wpIn_cond_true hev (ihN h3 hR hf har hv ha hq')
    · exact wpIn_cond_false hev (ihN h3 hR hf har hv ha hq')
  | block id b =>
    obtain ⟨⟨e1, a1⟩, s1, p1, p2, h1, h2, rfl⟩ := ok_bind.1 h
    refine wpIn_block ?_
    cases e1 with
    | normal =>
      obtain ⟨h3, rfl, rfl⟩ := ok_pure.1 h2
      injection h3 with h3 h4; subst h3; subst h4
      exact ihN h1 hR hf har hv ha (hq.mono (fun b hb => Or.inl hb))
    | exit i =>
      rcases ok_bif.1 h2 with ⟨hi, h3⟩ | ⟨hi, h3⟩
      · obtain ⟨h4, rfl, rfl⟩ := ok_pure.1 h3
        injection h4 with h4 h5; subst h4; subst h5
        have hi := beq_true hi
        subst hi
        refine ihN h1 hR hf har hv ha ((hq.mono (fun b hb => Or.inl hb)).same ?_)
        intro a w hk
        simpa [exitOf, Exit.inBlock] using hk
      · obtain ⟨h4, rfl, rfl⟩ := ok_pure.1 h3
        injection h4 with h4 h5; subst h4; subst h5
        have hne : i ≠ id := by rintro rfl; simp at hi
        refine ihN h1 hR hf har hv ha ((hq.mono (fun b hb => Or.inl hb)).same ?_)
        intro a w hk
        simpa [exitOf, Exit.inBlock, hne] using hk
    | goto id =>
      obtain ⟨h3, rfl, rfl⟩ := ok_pure.1 h2
      injection h3 with h3 h4; subst h3; subst h4
      exact ihN h1 hR hf har hv ha (hq.mono (fun b hb => Or.inl hb))
    | ret =>
      obtain ⟨h3, rfl, rfl⟩ := ok_pure.1 h2
      injection h3 with h3 h4; subst h3; subst h4
      exact ihN h1 hR hf har hv ha (hq.mono (fun b hb => Or.inl hb))
  | loop b =>
    exact wpIn_loop_rounds (N + 1) (loop_wp hE hC hY hD hG (N + 1) (fun M hM => ih M hM) h hR hf har hv ha hq)
  | scope b => exact wpIn_scope_jumps (sc_ok hL ihN N h hR hf har hv ha hq)
  | goto l =>
    obtain ⟨h3, rfl, rfl⟩ := ok_pure.1 h
    injection h3 with h3 h4; subst h3; subst h4
    exact wpIn_goto (ends_nil hR hv ha hq)
  | rangeFunc f ps asg body => exact hG.run h hR hf har hv ha hq
  | _ => exact (ok_fail h).elim
end Go.Ev
/- A function: its temporaries at the start, its results. -/
namespace Go.Ev
variable {E : Env} {P : Program} {s s' : HS} {p : FP} {ν : Nu} {V : Nat → Prop} {w : World}
theorem T.get_ofL_lt {α} (k : Nat) : ∀ (l : List α) (n : Nat), n + 1 < 2 ^ k → (T.ofL k l).get n = l[n]? := by
  induction k with
  | zero => intro l n h; simp at h
  | succ k ih =>
    intro l n h
    have hp : 2 ^ (k + 1) = 2 * 2 ^ k := by rw [Nat.pow_succ, Nat.mul_comm]
    cases l with
    | nil => simp [T.ofL, T.get_leaf]
    | cons y l =>
      simp only [T.ofL, T.get_node]
      by_cases h0 : n = 0
      · subst h0; simp
      · have h0' : (n == 0) = false := by simpa using h0
        by_cases h1 : n % 2 = 1
        · have h1' : (n % 2 == 1) = true := by simpa using h1
          simp only [h0', h1', cond_false, cond_true]
          rw [ih _ _ (by omega), evens_get]
          conv => rhs; rw [show n = 2 * (n / 2) + 1 by omega, List.getElem?_cons_succ]
        · have h1' : (n % 2 == 1) = false := by simpa using h1
          simp only [h0', h1', cond_false]
          rw [ih _ _ (by omega), odds_get]
          conv => rhs; rw [show n = 2 * (n / 2 - 1) + 1 + 1 by omega, List.getElem?_cons_succ]
theorem tm_ofL {as : List SV} (h : as.length ≤ 4000) (t : Nat) : tmGet (T.ofL 12 as) t = (as[t]?).getD und := by
  have e : (T.ofL 12 as).get t = as[t]? := by
    by_cases ht : t < 4000
    · exact T.get_ofL_lt 12 as t (by omega)
    · cases hg : (T.ofL 12 as).get t with
      | none => rw [List.getElem?_eq_none (by omega)]
      | some x => exact (T.get_ofL 12 as t x hg).symm
  unfold tmGet
  rw [e]
  cases as[t]? <;> rfl
theorem ofL_ok {as : List SV} (h : as.length ≤ 4000) (hv : ValL V as) {n : Nat} (hn : n ≤ 100000) (hl : as.length ≤ n) : TmOK V (T.ofL 12 as) n := by
  refine ⟨Nat.le_trans hn (by decide), fun t => ?_, fun t ht => ?_⟩
  · rw [tm_ofL h]
    cases hg : as[t]? with
    | none => exact und_val V
    | some x => rw [valL_iff] at hv; exact hv x (List.mem_of_getElem? hg)
  · rw [tm_ofL h, List.getElem?_eq_none (by omega)]; rfl
theorem ofL_den (ν : Nu) {as : List SV} (h : as.length ≤ 4000) (m : Nat) : (tmL ν (T.ofL 12 as) (max as.length m)).toArray = (denL ν as).toArray ++ Array.replicate (m - (denL ν as).toArray.size) undef := by
  apply Array.ext'
  apply List.ext_getElem?
  intro i
  have hs : (denL ν as).toArray.size = as.length := by simp [denL_length]
  rw [hs]
  show (tmL ν (T.ofL 12 as) (max as.length m))[i]? = _
  rw [tmL_get, tm_ofL h]
  simp only [Array.toList_append, Array.toList_replicate]
  by_cases h1 : i < as.length
  · rw [if_pos (by omega), List.getElem?_append_left (by rw [denL_length]; exact h1), denL_get]
    rw [List.getElem?_eq_getElem h1]; rfl
  · rw [List.getElem?_append_right (by rw [denL_length]; omega), denL_length, List.getElem?_replicate]
    by_cases h2 : i < max as.length m
    · rw [if_pos h2, if_pos (by omega), List.getElem?_eq_none (by omega)]
      simp [und_den]
    · rw [if_neg h2, if_neg (by omega)]
/-- the results, one by one -/
def resF (tmps : Array Value) : ResultVar → Sem Value
  | .tmp t => pure (tmps.getD t undef)
  | .cell a t => do Go.loadVar t (← asAddr (tmps.getD a undef))
theorem getD_tmL {tm : T SV} {n : Nat} (h : TmOK V tm n) (t : Nat) : (tmL ν tm n).toArray.getD t undef = den ν (tmGet tm t) := by
  by_cases ht : t < n
  · simp [tmL, ht]
  · rw [h.2.2 t (Nat.le_of_not_lt ht), und_den]
    simp [tmL, ht]
theorem resM_ok (hE : EnvOK E P) {tm : T SV} {n : Nat} (hv : TmOK V tm n) : ∀ (l : List ResultVar) {s s' vs p}, Ok (resM E tm l) s vs s' p → Rel P E.nG s ν V w →
    s' = s ∧ (∀ b, ¬ p.W b) ∧ ValL V vs ∧ (l.mapM (resF (tmL ν tm n).toArray)).run P w = .ok (denL ν vs) w
  | [], s, s', vs, p, h, hR => by
    obtain ⟨rfl, rfl, rfl⟩ := ok_pure.1 h
    exact ⟨rfl, by simp [FP.W], trivial, rfl⟩
  | .tmp t :: l, s, s', vs, p, h, hR => by
    unfold resM at h
    obtain ⟨r, s1, p1, p2, h1, h2, rfl⟩ := ok_bind.1 h
    obtain ⟨rfl, rfl, rfl⟩ := ok_pure.1 h2
    obtain ⟨rfl, g1, g2, g3⟩ := resM_ok hE hv l h1 hR
    refine ⟨rfl, fun b hb => (by rcases hb with hb | hb; exact g1 b hb; cases hb), ⟨hv.2.1 t, g2⟩, ?_⟩
    rw [List.mapM_cons]
    simp only [resF, Sem.run_bind, Sem.run_pure, Result.andThen_ok, g3, getD_tmL hv, denL]
  | .cell x t :: l, s, s', vs, p, h, hR => by
    unfold resM at h
    obtain ⟨v, s1, p1, p2, h1, h2, rfl⟩ := ok_bind.1 h
    obtain ⟨rfl, k1, k2, b, k, k3, k4⟩ := run_loadA hE hR h1
    obtain ⟨r, s2, p3, p4, h3, h4, rfl⟩ := ok_bind.1 h2
    obtain ⟨rfl, rfl, rfl⟩ := ok_pure.1 h4
    obtain ⟨rfl, g1, g2, g3⟩ := resM_ok hE hv l h3 hR
    refine ⟨rfl, fun b hb => (by rcases hb with hb | hb | hb; exact k1 b hb; exact g1 b hb; cases hb), ⟨k2, g2⟩, ?_⟩
    rw [List.mapM_cons]
    simp only [resF, Sem.run_bind, Sem.run_pure, getD_tmL hv, k3, asAddr, Result.andThen_ok, k4, g3, denL]
theorem results_eq (fn : Func) (tmps : Array Value) : results fn tmps = (do let l ← fn.results.toList.mapM (resF tmps); pure (if h : l.toArray.size = 1 then l.toArray[0] else .tuple l.toArray)) := by
  have e : results fn tmps = (do let vs ← fn.results.mapM (resF tmps); pure (if h : vs.size = 1 then vs[0] else .tuple vs)) := by
    unfold results
    congr 1
  rw [e, Array.mapM_eq_mapM_toList]
  simp
theorem evRes_ok (hE : EnvOK E P) {tm : T SV} {n : Nat} (hv : TmOK V tm n) {fn : Func} {x : SV} (h : Ok (evRes E tm fn.results.toList) s x s' p) (hR : Rel P E.nG s ν V w) :
    s' = s ∧ (∀ b, ¬ p.W b) ∧ Val V x ∧ (results fn (tmL ν tm n).toArray).run P w = .ok (den ν x) w := by
  unfold evRes at h
  obtain ⟨vs, s1, p1, p2, h1, h2, rfl⟩ := ok_bind.1 h
  obtain ⟨rfl, g1, g2, g3⟩ := resM_ok hE hv _ h1 hR
  rw [results_eq]
  split at h2
  · obtain ⟨rfl, rfl, rfl⟩ := ok_pure.1 h2
    refine ⟨rfl, fun b hb => (by rcases hb with hb | hb; exact g1 b hb; cases hb), g2.1, ?_⟩
    rw [Sem.run_bind, g3]
    simp [denL]
  · rename_i hne
    obtain ⟨rfl, rfl, rfl⟩ := ok_pure.1 h2
    refine ⟨rfl, fun b hb => (by rcases hb with hb | hb; exact g1 b hb; cases hb), g2, ?_⟩
    rw [Sem.run_bind, g3, Result.andThen_ok, Sem.run_pure]
    have hl : ¬ (denL ν vs).toArray.size = 1 := by
      intro hl
      have : vs.length = 1 := by simpa [denL_length] using hl
      obtain ⟨y, rfl⟩ := List.length_eq_one_iff.1 this
      exact hne y rfl
    rw [dif_neg hl, den]
end Go.Ev
/- A function. -/
namespace Go.Ev
variable {E : Env} {P : Program} {G : Nat} {s s' : HS} {p : FP} {ν : Nu} {V : Nat → Prop} {w : World}
variable {call dcall : FuncId → List SV → M SV} {yld : Nat → List SV → M SV}
/-- a block let go: what lies there is of no account henceforth -/
theorem post_gone (hR : Rel P G s ν V w) {b : Nat} {o : AObj} (hb : s.h.get b = some o) {u : Unit} (h : Ok (del b) s u s' p) {w' : World} (e0 : w'.heap.size = w.heap.size) (e2 : ∀ k, k ≠ ν.ρ b → w'.heap[k]? = w.heap[k]?)
    (e3 : w'.os = w.os) (e4 : w'.tape = w.tape) (e5 : w'.output = w.output) : s'.c = s.c ∧ Post P G s ν V w s' p ν w' := by
  obtain ⟨_, ht, rfl, rfl⟩ := ok_del.1 h
  have hget : ∀ x o, (s.h.upd 20 b none).get x = some o → x ≠ b ∧ s.h.get x = some o := fun x o hx => by
    rw [upd20 ht] at hx
    split at hx
    · cases hx
    · rename_i hn; exact ⟨hn, hx⟩
  have hvb := (hR.cl b o hb).1
  refine ⟨rfl, ⟨?_, fun _ _ => ⟨rfl, rfl⟩, ⟨e3, e4, e5, by rw [e0]; exact Nat.le_refl _, fun k _ hk => e2 k (fun e => hk b rfl hvb e.symm)⟩, fun b h1 h2 => by have : b < s.c := h2; omega⟩⟩
  have hVN : VN V s ⟨s.h.upd 20 b none, s.c⟩ = V := VN_self V s
  rw [hVN]
  refine ⟨fun x o' hx => ?_, fun x o hx => hR.cl x o (hget x o hx).2, fun x y o1 o2 hx hy he => hR.inj x y o1 o2 (hget x o1 hx).2 (hget y o2 hy).2 he, hR.glob⟩
  obtain ⟨hn, hx2⟩ := hget x o' hx
  obtain ⟨r', hr', ho'⟩ := hR.blk x o' hx2
  refine ⟨r', ?_, ho'⟩
  rw [e2 _ (fun e' => hn (hR.inj x b o' o hx2 hb e'))]; exact hr'
theorem ok_enterM_enter (hE : EnvOK E P) {f g : FuncId} {as as' : List SV} (h : Ok (enterM E f as) s (.enter g as') s' p) : g = f ∧ as' = as ∧ s = s' ∧ p = .nil ∧ ∀ (args : Array Value) (w : World), (callFunc f args).run P w = .ok (.enter f args) w := by
  unfold enterM at h
  cases hf : E.fn f with
  | none => rw [hf] at h; exact (ok_fail h).elim
  | some fn =>
    have h1 := hE.fn f fn hf
    have h2 := hE.named f fn hf
    cases hb : fn.body with
    | some c =>
      simp only [hf, hb] at h
      obtain ⟨h3, rfl, rfl⟩ := ok_pure.1 h
      injection h3 with h3 h4
      refine ⟨h3.symm, h4.symm, rfl, rfl, fun args w => ?_⟩
      have hp : (program).run P w = .ok P w := rfl
      simp only [callFunc, Sem.run_bind, hp, Result.andThen_ok, h1, h2, hb]
      rfl
    | none =>
      simp only [hf, hb] at h
      rcases ok_bif.1 h with ⟨_, h⟩ | ⟨_, h⟩
      · split at h
        · obtain ⟨h5, _⟩ := ok_pure.1 h; cases h5
        · exact (ok_fail h).elim
      rcases ok_bif.1 h with ⟨_, h⟩ | ⟨_, h⟩
      · split at h
        · obtain ⟨d, s1, p2, p3, k1, k2, rfl⟩ := ok_bind.1 h
          split at k2
          · obtain ⟨ti, s4, p8, p9, h8, h9, rfl⟩ := ok_bind.1 k2
            obtain ⟨u, s5, q1, q2, k3, k4, rfl⟩ := ok_bind.1 h9
            obtain ⟨b, s6, q3, q4, k5, k6, rfl⟩ := ok_bind.1 k4
            obtain ⟨h5, _⟩ := ok_pure.1 k6; cases h5
          · exact (ok_fail k2).elim
        · exact (ok_fail h).elim
      obtain ⟨vs, s1, p1, p2, g1, g2, rfl⟩ := ok_bind.1 h
      obtain ⟨r, s2, p3, p4, g3, g4, rfl⟩ := ok_bind.1 g2
      cases r with
      | value v => obtain ⟨h5, _⟩ := ok_pure.1 g4; cases h5
      | _ => exact (ok_fail g4).elim
structure DCallOK (E : Env) (P : Program) (dcall : FuncId → List SV → M SV) : Prop where
  loc : ∀ f as, Loc (dcall f as)
  run : ∀ {f as s x s' p}, Ok (dcall f as) s x s' p → ∀ {ν V w} (n : Nat), Rel P E.nG s ν V w → Fresh s s' V → ValL V as →
    CallsDIn (fen none) n P f (denL ν as).toArray .returning w (fun e u' w' => u' = .returning ∧ RetR P E.nG s ν V w s' p x e w')
theorem loc_evDf (hDC : DCallOK E P dcall) : ∀ l, Loc (evDf E dcall l)
  | [] => loc_pure _
  | .call g cap as :: l => by
    unfold evDf
    refine loc_bind (loc_enterM _ _ _) (fun r => ?_)
    split
    · exact loc_bind (hDC.loc _ _) (fun _ => loc_evDf hDC l)
    · exact loc_fail _
  | .mark d :: l => by
    unfold evDf
    refine loc_bind (loc_get _) (fun r => ?_)
    split
    · exact loc_bind (loc_del _) (fun _ => loc_evDf hDC l)
    · exact loc_fail _
theorem evDf_ok (hE : EnvOK E P) (hDC : DCallOK E P dcall) {fn : Func} {tmps : Array Value} {n : Nat} {R : Ending → World → Prop} : ∀ (l : List DfE) {s u s' p ν V w}, Ok (evDf E dcall l) s u s' p → Rel P E.nG s ν V w → Fresh s s' V → (∀ d ∈ l, ValD V d) →
    (∀ ν' w', Post P E.nG s ν V w s' p ν' w' → ∃ v, (results fn tmps).run P w' = .ok v w' ∧ R (.returned v) w') → LeavesInM (fen none) n P fn tmps R (l.map (denD ν)) .returning w
  | [], s, u, s', p, ν, V, w, h, hR, hf, hv, hk => by
    obtain ⟨_, rfl, rfl⟩ := ok_pure.1 h
    exact hk ν w (post_refl hR _)
  | .call g cap as :: l, s, u, s', p, ν, V, w, h, hR, hf, hv, hk => by
    unfold evDf at h
    obtain ⟨r, s1, p1, p2, h1, h2, rfl⟩ := ok_bind.1 h
    split at h2
    · rename_i g' as'
      obtain ⟨rfl, rfl, rfl, rfl, hcf⟩ := ok_enterM_enter hE h1
      obtain ⟨x, s2, p3, p4, h3, h4, rfl⟩ := ok_bind.1 h2
      have c1 := (hDC.loc _ _ _ _ _ _ h3).le
      have c2 := (loc_evDf hDC l _ _ _ _ h4).le
      have hvd : ValL V cap ∧ ValL V as := hv _ List.mem_cons_self
      rw [appR_eq] at h3
      refine ⟨by simp, .inr ⟨fun hd => (by cases hd), .func g', (denL ν cap).toArray, g', (denL ν (as ++ cap)).toArray, rfl, ?_, fun _ _ => trivial, ?_⟩⟩
      · have : (denD ν (.call g' cap as)).args ++ (denL ν cap).toArray = (denL ν (as ++ cap)).toArray := by simp [denD, denL_append]
        rw [← this]
        exact hcf _ w
      · refine (hDC.run h3 (n - 1) hR (hf.left c2) (valL_append hvd.2 hvd.1)).mono ?_
        rintro e u' w' ⟨rfl, ν', rfl, hx, hp⟩
        have hag := hp.out.agree (hf.left c2)
        have hmap : l.map (denD ν) = l.map (denD ν') := by
          apply List.map_congr_left
          intro d hd
          have := hv d (List.mem_cons_of_mem _ hd)
          cases d with
          | call g cap as => simp only [denD, denL_agree hag cap this.1, denL_agree hag as this.2]
          | mark d => simp only [denD, (hag d this).1]
        show LeavesInM _ _ _ _ _ _ (l.map (denD ν)) .returning w'
        rw [hmap]
        refine evDf_ok hE hDC l h4 hp.rel (hf.right c1) (fun d hd => ?_) (fun ν2 w2 hp2 => hk ν2 w2 ((hp.trans hp2 c1 c2 hf).mono (fun b hb => Or.inr hb)))
        have := hv d (List.mem_cons_of_mem _ hd)
        cases d with
        | call g cap as => exact ⟨valL_mono (fun b hb => Or.inl hb) _ this.1, valL_mono (fun b hb => Or.inl hb) _ this.2⟩
        | mark d => exact Or.inl this
    · exact (ok_fail h2).elim
  | .mark d :: l, s, u, s', p, ν, V, w, h, hR, hf, hv, hk => by
    unfold evDf at h
    obtain ⟨r, s1, p1, p2, h1, h2, rfl⟩ := ok_bind.1 h
    obtain ⟨hg, rfl, rfl⟩ := ok_get.1 h1
    split at h2
    · obtain ⟨u2, s2, p3, p4, h3, h4, rfl⟩ := ok_bind.1 h2
      obtain ⟨ob, hob, hor⟩ := hR.blk d _ hg
      have hor : ob = .deferred (some []) := hor
      subst hor
      have c2 := (loc_evDf hDC l _ _ _ _ h4).le
      obtain ⟨c1, hp⟩ := post_gone hR hg h3 (w' := w.putObj (ν.ρ d) (.deferred none)) World.putObj_size (fun k hk => World.putObj_heap_other hk) rfl rfl rfl
      refine ⟨by simp, .inl ⟨ν.ρ d, _, rfl, run_takeDeferred hob, ?_⟩⟩
      have hV : VN V s s2 = V := by
        have e := VN_self V s
        unfold VN at e ⊢
        rw [c1]; exact e
      refine evDf_ok hE hDC l h4 hp.rel ?_ (fun d hd => ?_) (fun ν2 w2 hp2 => hk ν2 w2 ((hp.trans hp2 (Nat.le_of_eq c1.symm) c2 hf).mono (fun b hb => Or.inr hb)))
      · exact hf.right (Nat.le_of_eq c1.symm)
      · rw [hV]; exact hv d (List.mem_cons_of_mem _ hd)
    · exact (ok_fail h2).elim
end Go.Ev
/- A function, put together. -/
namespace Go.Ev
variable {E : Env} {P : Program} {s s' : HS} {p : FP} {ν : Nu} {V : Nat → Prop} {w : World}
variable {call dcall : FuncId → List SV → M SV} {yld : Nat → List SV → M SV}
theorem loc_resM (tm : T SV) : ∀ l, Loc (resM E tm l)
  | [] => loc_pure _
  | .tmp _t :: l => loc_bind (loc_resM tm l) (fun _ => loc_pure _)
  | .cell _x _t :: l => loc_bind (loc_loadVar _ _ _) (fun _ => loc_bind (loc_resM tm l) (fun _ => loc_pure _))
theorem loc_evRes (tm : T SV) (l : List ResultVar) : Loc (evRes E tm l) := by
  unfold evRes
  refine loc_bind (loc_resM tm l) (fun _ => ?_)
  split
  · exact loc_pure _
  · exact loc_pure _
theorem loc_evB (hC : ∀ f as, Loc (call f as)) (hY : ∀ l as, Loc (yld l as)) (hD : DrawOK E P call yld) (hG : RngOK E P call none) (F : Nat) (fn : Func) (body : Code) (as : List SV) : Loc (evB E call yld F fn body as) :=
  loc_bind (loc_asrt _ _) (fun _ => loc_evC hC hY hD hG _ _ _)
theorem loc_evF (hC : ∀ f as, Loc (call f as)) (hY : ∀ l as, Loc (yld l as)) (hD : DrawOK E P call yld) (hG : RngOK E P call none) (hDC : DCallOK E P dcall) (F : Nat) (f : FuncId) (as : List SV) : Loc (evF E call dcall yld F f as) := by
  unfold evF
  split
  · split
    · refine loc_bind (loc_evB hC hY hD hG _ _ _ _) (fun r => ?_)
      split
      · exact loc_fail _
      · exact loc_fail _
      · exact loc_bind (loc_evDf hDC _) (fun _ => loc_evRes _ _)
    · exact loc_fail _
  · exact loc_fail _
theorem evZ_nil (ops : Array Oper) (a : A) : evZ E ops [] a = pure a := rfl
theorem evZ_cons (ops : Array Oper) (o : Oper) (l : List Oper) (a : A) : evZ E ops (o :: l) a =
    br (want ops a.tm o) (bif isRec o then evZ E ops l (a.put o (.v .nilIface)) else exec E (evalO E a.tm) o >>= fun r => (match r with
      | .val x => evZ E ops l (a.put o x)
      | _ => fail "a region of a deferred call")) (evZ E ops l (a.put o und)) := rfl
theorem loc_evZ (ops : Array Oper) : ∀ (l : List Oper) (a : A), Loc (evZ E ops l a)
  | [], a => loc_pure _
  | o :: l, a => by
    rw [evZ_cons]
    refine loc_br (loc_cond (loc_evZ ops l _) (loc_bind (loc_exec _ _ _) (fun r => ?_))) (loc_evZ ops l _)
    split
    · exact loc_evZ ops l _
    · exact loc_fail _
theorem loc_evZB (hC : ∀ f as, Loc (call f as)) (hY : ∀ l as, Loc (yld l as)) (hD : DrawOK E P call yld) (hG : RngOK E P call none) (F : Nat) (fn : Func) (body : Code) (as : List SV) : Loc (evZB E call yld F fn body as) := by
  unfold evZB
  split
  · exact loc_bind (loc_asrt _ _) (fun _ => loc_bind (loc_evZ _ _ _) (fun _ => loc_evC hC hY hD hG _ _ _))
  · exact loc_fail _
theorem loc_evFd (hC : ∀ f as, Loc (call f as)) (hY : ∀ l as, Loc (yld l as)) (hD : DrawOK E P call yld) (hG : RngOK E P call none) (F : Nat) (f : FuncId) (as : List SV) : Loc (evFd E call yld F f as) := by
  unfold evFd
  split
  · split
    · refine loc_bind (loc_cond (loc_evZB hC hY hD hG _ _ _ _) (loc_evB hC hY hD hG _ _ _ _)) (fun r => ?_)
      split
      · exact loc_fail _
      · exact loc_fail _
      · split
        · exact loc_evRes _ _
        · exact loc_fail _
    · exact loc_fail _
  · exact loc_fail _
/-- the body of a function: from its arguments on -/
theorem evB_ok (hE : EnvOK E P) (hC : CallOK E P call) (hY : YldOK E P yld) (hD : DrawOK E P call yld) (hG : RngOK E P call none) {F : Nat} {fn : Func} {body : Code} {as : List SV} {e : AExit} {a' : A}
    (h : Ok (evB E call yld F fn body as) s (e, a') s' p) {n : Nat} {Q : Exit → Act → World → Prop} (hR : Rel P E.nG s ν V w) (hf : Fresh s s' V) (ha : ValL V as) (hq : Ends E P s ν V w s' p a' (Q (exitOf e))) :
    body.wpIn (fen none) n P Q { tmps := (denL ν as).toArray ++ Array.replicate (fn.ntmps - (denL ν as).toArray.size) undef, defers := [] } w := by
  unfold evB at h
  obtain ⟨u, s1, p1, p2, h1, h2, rfl⟩ := ok_bind.1 h
  obtain ⟨hA, rfl, rfl⟩ := ok_asrt.1 h1
  rw [Bool.and_eq_true, lenR_eq] at hA
  rw [lenR_eq] at h2
  have h3 := ble_true hA.1
  have h4 := ble_true hA.2
  exact code_ok hE hC hY hD hG F h2 hR hf (fun l hl => by cases hl) (a := ⟨T.ofL 12 as, max as.length fn.ntmps, []⟩) ⟨ofL_ok h4 ha h3 (Nat.le_max_left _ _), fun d hd => by cases hd⟩
    ⟨(ofL_den ν h4 fn.ntmps).symm, rfl⟩ (hq.mono (fun b hb => Or.inr hb))
theorem evF_ok (hE : EnvOK E P) (hC : CallOK E P call) (hY : YldOK E P yld) (hD : DrawOK E P call yld) (hG : RngOK E P call none) (hDC : DCallOK E P dcall) {F : Nat} {f : FuncId} {as : List SV} {x : SV}
    (h : Ok (evF E call dcall yld F f as) s x s' p) (n : Nat) (hR : Rel P E.nG s ν V w) (hf : Fresh s s' V) (ha : ValL V as) : CallsIn (fen none) n P f (denL ν as).toArray w (RetR P E.nG s ν V w s' p x) := by
  unfold evF at h
  cases hfn : E.fn f with
  | none => rw [hfn] at h; exact (ok_fail h).elim
  | some fn =>
  cases hb : fn.body with
  | none => simp only [hfn, hb] at h; exact (ok_fail h).elim
  | some body =>
  simp only [hfn, hb] at h
  obtain ⟨⟨e, a1⟩, s1, p1, p2, h1, h2, rfl⟩ := ok_bind.1 h
  have c1 := (loc_evB hC.loc hY.loc hD hG _ _ _ _ _ _ _ _ h1).le
  have key : (∃ id, e = .exit id) ∨ (∃ id, e = .goto id) ∨ (Ok (evDf E dcall a1.df >>= fun _ => evRes E a1.tm fn.results.toList) s1 x s' p2 ∧ ∀ (act : Act) (w : World) (R : Ending → World → Prop), LeavesInM (fen none) n P fn act.tmps R act.defers .returning w → bodyPostM (fen none) n P fn R (exitOf e) act w) := by
    cases e with
    | exit id => exact .inl ⟨id, rfl⟩
    | goto id => exact .inr (.inl ⟨id, rfl⟩)
    | normal => exact .inr (.inr ⟨h2, fun _ _ _ h => h⟩)
    | ret => exact .inr (.inr ⟨h2, fun _ _ _ h => h⟩)
  rcases key with ⟨id, rfl⟩ | ⟨id, rfl⟩ | ⟨h3, hpost⟩
  · exact (ok_fail h2).elim
  · exact (ok_fail h2).elim
  obtain ⟨u, s2, p3, p4, h4, h5, rfl⟩ := ok_bind.1 h3
  have c2 := (loc_evDf hDC _ _ _ _ _ h4).le
  have c3 := (loc_evRes _ _ _ _ _ _ h5).le
  refine callsIn_of_wp_marks (hE.fn f fn hfn) hb trivial (evB_ok hE hC hY hD hG h1 hR (hf.left (by omega)) ha ?_)
  intro ν1 w1 act1 hp1 hv1 ha1
  refine hpost act1 w1 _ ?_
  have hf1 : Fresh s1 s' (VN V s s1) := hf.right c1
  rw [ha1.df]
  refine evDf_ok hE hDC a1.df h4 hp1.rel (hf1.left c3) hv1.2 ?_
  intro ν2 w2 hp2
  have hag := hp2.out.agree (hf1.left c3)
  have hv2 : TmOK (VN (VN V s s1) s1 s2) a1.tm a1.n := ⟨hv1.1.1, fun t => val_mono (fun b hb => Or.inl hb) _ (hv1.1.2.1 t), hv1.1.2.2⟩
  obtain ⟨rfl, g1, g2, g3⟩ := evRes_ok hE hv2 h5 hp2.rel
  rw [ha1.tm, ← tmL_agree hag a1.n hv1.1.2.1]
  refine ⟨_, g3, ν2, rfl, ?_, ?_⟩
  · rw [VN_trans c1 c2] at g2; exact g2
  · exact (hp1.trans hp2 c1 c2 hf).mono (fun b hb => by
      rcases hb with hb | hb
      · exact Or.inl hb
      · exact Or.inr (Or.inl hb))
theorem isRec_op {o : Oper} (h : isRec o = true) : ∃ c, o.op = .call c ∧ c.callee = .builtin .recover := by
  unfold isRec at h
  split at h
  · rename_i c hc
    split at h
    · rename_i b hb
      split at h
      · exact ⟨c, hc, hb⟩
      · cases h
    · cases h
  · cases h
theorem run_rec {o : Oper} (h : isRec o = true) (σ : Operand → Value) (w : World) : (execOp σ o).run P w = .ok .recover w := by
  obtain ⟨c, h1, h2⟩ := isRec_op h
  unfold execOp
  rw [h1]
  simp only [call_builtin h2]
  rfl
theorem evZ_wp (hE : EnvOK E P) (ops : Array Oper) {c₀ : Frame} {cs : List Frame} (hm : c₀.mode = .returning) {n : Nat} {Q : Exit → Act → List Frame → World → Prop} : ∀ (l : List Oper) (k : Nat), (∀ i, l[i]? = ops[k + i]?) →
    ∀ {s s' p ν V w a a' act}, Ok (evZ E ops l a) s a' s' p → Rel P E.nG s ν V w → Fresh s s' V → ValA V a → ActR ν a act → Ends E P s ν V w s' p a' (fun act w => Q .normal act (c₀ :: cs) w) →
      wpOpsSIn (fen none) n P ops Q (List.range' k l.length) act (c₀ :: cs) w
  | [], k, hl, s, s', p, ν, V, w, a, a', act, h, hR, hf, hv, ha, hq => by
    obtain ⟨rfl, rfl, rfl⟩ := ok_pure.1 h
    exact hq ν w act (post_refl hR _) (by rw [VN_self]; exact hv) ha
  | o :: l, k, hl, s, s', p, ν, V, w, a, a', act, h, hR, hf, hv, ha, hq => by
    have ho : ops[k]? = some o := by have := hl 0; simpa using this.symm
    have hl' : ∀ i, l[i]? = ops[k + 1 + i]? := fun i => by
      have := hl (i + 1)
      rw [List.getElem?_cons_succ] at this
      rw [this]; congr 1; omega
    rw [List.length_cons, List.range'_succ]
    simp only [wpOpsSIn, ho, want_eq ha ops o hv]
    refine ⟨fun _ _ => trivial, ?_⟩
    rw [evZ_cons] at h
    rcases ok_br.1 h with ⟨hw, h1⟩ | ⟨hw, h1⟩
    · rw [if_pos hw]
      rcases ok_bif.1 h1 with ⟨hr, h1⟩ | ⟨hr, h1⟩
      · rw [run_rec hr]
        have hrec : recoverD (c₀ :: cs) = none := by simp only [recoverD, hm]
        simp only [hrec]
        have := act_put (o := o) (x := .v .nilIface) hv ha
        exact evZ_wp hE ops hm l (k + 1) hl' h1 hR hf (val_put hv trivial) this hq
      · obtain ⟨r, s1, p1, p2, h2, h3, rfl⟩ := ok_bind.1 h1
        cases r with
        | val x =>
          have c2 := (loc_evZ ops l _ _ _ _ _ h3).le
          obtain ⟨c1, ν1, nx, w1, hrun, hnx, hvx, hp1⟩ := exec_sound hE hR (hf.left c2) (val_evalO hR hv) h2
          have hag := hp1.out.agree (hf.left c2)
          have hv1 : ValA (VN V s s1) a := valA_mono (fun b hb => Or.inl hb) hv
          have ha1 : ActR ν1 a act := act_agree hag hv ha
          rw [eval_den hR hv ha, hrun]
          cases hnx with
          | val => exact evZ_wp hE ops hm l (k + 1) hl' h3 hp1.rel (hf.right c1) (val_put hv1 hvx) (act_put hv1 ha1) (hq.next hp1 c1 c2 hf)
          | skip =>
            have := act_put (o := o) (x := und) hv1 ha1
            rw [und_den] at this
            exact evZ_wp hE ops hm l (k + 1) hl' h3 hp1.rel (hf.right c1) (val_put hv1 hvx) this (hq.next hp1 c1 c2 hf)
        | _ => exact (ok_fail h3).elim
    · rw [if_neg (by rw [hw]; simp)]
      have := act_put (o := o) (x := und) hv ha
      rw [und_den] at this
      exact evZ_wp hE ops hm l (k + 1) hl' h1 hR hf (val_put hv (und_val _)) this hq
theorem evZB_ok (hE : EnvOK E P) (hC : CallOK E P call) (hY : YldOK E P yld) (hD : DrawOK E P call yld) (hG : RngOK E P call none) {F : Nat} {fn : Func} {body : Code} {as : List SV} {e : AExit} {a' : A}
    (h : Ok (evZB E call yld F fn body as) s (e, a') s' p) {n : Nat} {c₀ : Frame} {cs : List Frame} (hm : c₀.mode = .returning) {Q : Exit → Act → List Frame → World → Prop} (hR : Rel P E.nG s ν V w) (hf : Fresh s s' V) (ha : ValL V as)
    (hq : Ends E P s ν V w s' p a' (fun act w => Q (exitOf e) act (c₀ :: cs) w)) :
    body.wpSIn (fen none) n P Q { tmps := (denL ν as).toArray ++ Array.replicate (fn.ntmps - (denL ν as).toArray.size) undef, defers := [] } (c₀ :: cs) w := by
  unfold evZB at h
  split at h
  · rename_i id ops c
    obtain ⟨u, s1, p1, p2, h1, h2, rfl⟩ := ok_bind.1 h
    obtain ⟨hA, rfl, rfl⟩ := ok_asrt.1 h1
    rw [Bool.and_eq_true, lenR_eq] at hA
    rw [lenR_eq] at h2
    have h3 := ble_true hA.1
    have h4 := ble_true hA.2
    obtain ⟨a1, s2, p3, p4, h5, h6, rfl⟩ := ok_bind.1 h2
    have c1 := (loc_evZ ops _ _ _ _ _ _ h5).le
    have c2 := (loc_evC hC.loc hY.loc hD hG _ _ _ _ _ _ _ h6).le
    refine wpSIn_seq (wpSIn_region ?_)
    have hrg : List.range ops.size = List.range' 0 ops.toList.length := by rw [List.range_eq_range']; simp
    rw [hrg]
    refine evZ_wp hE ops hm ops.toList 0 (fun i => by simp) h5 hR (hf.left c2) (ofL_ok h4 ha h3 (Nat.le_max_left _ _) |> fun h => ⟨h, fun d hd => by cases hd⟩)
      ⟨(ofL_den ν h4 fn.ntmps).symm, rfl⟩ ?_
    intro ν1 w1 act1 hp1 hv1 ha1
    show c.wpSIn (fen none) n P Q act1 (c₀ :: cs) w1
    refine wpSIn_of_wpIn rfl ?_
    have hq' : Ends E P s ν V w s' (p3.app p4) a' (fun act w => Q (exitOf e) act (c₀ :: cs) w) := hq.mono (fun b hb => Or.inr hb)
    exact code_ok hE hC hY hD hG F h6 hp1.rel (hf.right c1) (fun l hl => by cases hl) hv1 ha1 (Q := fun e a w => Q e a (c₀ :: cs) w) (hq'.next hp1 c1 c2 hf)
  · exact (ok_fail h).elim
theorem evFd_ok (hE : EnvOK E P) (hC : CallOK E P call) (hY : YldOK E P yld) (hD : DrawOK E P call yld) (hG : RngOK E P call none) {F : Nat} {f : FuncId} {as : List SV} {x : SV}
    (h : Ok (evFd E call yld F f as) s x s' p) (n : Nat) (hR : Rel P E.nG s ν V w) (hf : Fresh s s' V) (ha : ValL V as) :
    CallsDIn (fen none) n P f (denL ν as).toArray .returning w (fun e u' w' => u' = .returning ∧ RetR P E.nG s ν V w s' p x e w') := by
  unfold evFd at h
  cases hfn : E.fn f with
  | none => rw [hfn] at h; exact (ok_fail h).elim
  | some fn =>
  cases hb : fn.body with
  | none => simp only [hfn, hb] at h; exact (ok_fail h).elim
  | some body =>
  simp only [hfn, hb] at h
  obtain ⟨⟨e, a1⟩, s1, p1, p2, h1, h2, rfl⟩ := ok_bind.1 h
  have key : (∃ id, e = .exit id) ∨ (∃ id, e = .goto id) ∨ (a1.df = [] ∧ Ok (evRes E a1.tm fn.results.toList) s1 x s' p2 ∧ ∀ (act : Act) (w : World) (R : Ending → World → Prop), (act.defers = [] ∧ ∃ v, (results fn act.tmps).run P w = .ok v w ∧ R (.returned v) w) → bodyPost P fn R (exitOf e) act w) ∧ (∀ id, e ≠ .exit id) ∧ (∀ id, e ≠ .goto id) := by
    have hd : Ok (match a1.df with
      | [] => evRes E a1.tm fn.results.toList
      | _ => fail "defers of a deferred call") s1 x s' p2 → a1.df = [] ∧ Ok (evRes E a1.tm fn.results.toList) s1 x s' p2 := by
      intro h
      split at h
      · rename_i hd; exact ⟨hd, h⟩
      · exact (ok_fail h).elim
    cases e with
    | exit id => exact .inl ⟨id, rfl⟩
    | goto id => exact .inr (.inl ⟨id, rfl⟩)
    | normal => exact .inr (.inr ⟨⟨(hd h2).1, (hd h2).2, fun _ _ _ h => h⟩, fun _ h => (by cases h), fun _ h => (by cases h)⟩)
    | ret => exact .inr (.inr ⟨⟨(hd h2).1, (hd h2).2, fun _ _ _ h => h⟩, fun _ h => (by cases h), fun _ h => (by cases h)⟩)
  rcases key with ⟨id, rfl⟩ | ⟨id, rfl⟩ | ⟨⟨hdf, h3, hpost⟩, hnn⟩
  · exact (ok_fail h2).elim
  · exact (ok_fail h2).elim
  obtain ⟨hne, hne2⟩ := hnn
  have c3 := (loc_evRes _ _ _ _ _ _ h3).le
  rcases ok_bif.1 h1 with ⟨_, h1⟩ | ⟨_, h1⟩
  · refine callsDIn_of_wpSIn (hE.fn f fn hfn) hb trivial (fun c₀ cs hm => evZB_ok hE hC hY hD hG h1 hm hR (hf.left c3) ha ?_)
    intro ν1 w1 act1 hp1 hv1 ha1
    have hc : ({ c₀ with mode := .returning } : Frame) = c₀ := by rw [← hm]
    obtain ⟨rfl, g1, g2, g3⟩ := evRes_ok hE hv1.1 h3 hp1.rel
    have g4 : act1.defers = [] ∧ ∃ u', c₀ :: cs = { c₀ with mode := u' } :: cs ∧ ∃ v, (results fn act1.tmps).run P w1 = .ok v w1 ∧ (u' = .returning ∧ RetR P E.nG s ν V w s' (p1.app p2) x (.returned v) w1) := by
      refine ⟨by rw [ha1.df, hdf]; rfl, .returning, by rw [hc], ?_⟩
      rw [ha1.tm]
      exact ⟨_, g3, rfl, ν1, rfl, g2, hp1.mono (fun b hb => Or.inl hb)⟩
    cases e with
    | exit id => exact absurd rfl (hne id)
    | goto id => exact absurd rfl (hne2 id)
    | normal => exact g4
    | ret => exact g4
  refine callsDIn_of_wp (hE.fn f fn hfn) hb trivial (evB_ok hE hC hY hD hG h1 hR (hf.left c3) ha ?_)
  intro ν1 w1 act1 hp1 hv1 ha1
  refine hpost act1 w1 _ ⟨by rw [ha1.df, hdf]; rfl, ?_⟩
  obtain ⟨rfl, g1, g2, g3⟩ := evRes_ok hE hv1.1 h3 hp1.rel
  rw [ha1.tm]
  exact ⟨_, g3, ν1, rfl, g2, hp1.mono (fun b hb => Or.inl hb)⟩
end Go.Ev
/- A range over a function. -/
namespace Go.Ev
variable {E : Env} {P : Program} {s s' : HS} {p : FP} {ν : Nu} {V : Nat → Prop} {w : World}
variable {call dcall : FuncId → List SV → M SV} {yld : Nat → List SV → M SV} {ar : Option Nat}
theorem laid_new {G : Nat} (hR : Rel P G s ν V w) (hf : Fresh s s' V) {ao : AObj} {o : Obj} {b : Nat} (h : Ok (new ao) s b s' p) (hv : ValO V ao) (ho : ∀ ν', Agree V ν ν' → ObjR P ν' b ao o) :
    s.c ≤ s'.c ∧ ∃ ν', Post P G s ν V w s' p ν' (w.alloc o) ∧ ν'.ρ b = w.heap.size ∧ VN V s s' b ∧ s'.h.get b = some ao := by
  obtain ⟨hn, ht, rfl, rfl, rfl⟩ := ok_new.1 h
  have hv' : ¬ V s.c := hf s.c (Nat.le_refl _) (Nat.lt_succ_self _)
  refine ⟨Nat.le_succ _, setNu ν s.c w.heap.size 0, post_new hR ht hn hv' 0 (ao := ao) (o := o) hv (ho _ (setNu_agree hv')) _ rfl rfl rfl rfl, by simp [setNu], Or.inr ⟨Nat.le_refl _, Nat.lt_succ_self _⟩, ?_⟩
  rw [upd20 ht, if_pos rfl]
theorem loc_layR (a : A) : Loc (layR ar a) := by
  unfold layR
  split
  · exact loc_bind (loc_new _) (fun _ => loc_pure _)
  · refine loc_bind (loc_get _) (fun o => ?_)
    split
    · exact loc_pure _
    · exact loc_fail _
theorem loc_evR (hC : ∀ f as, Loc (call f as)) (a : A) (f : Operand) (ps : Array Tmp) (asg body : Code) : Loc (evR E call ar a f ps asg body) := by
  unfold evR
  split
  · refine loc_bind (loc_layR a) (fun dm => loc_bind (loc_new _) (fun l => loc_bind (loc_enterM _ _ _) (fun r => ?_)))
    split
    · refine loc_bind (hC _ _) (fun _ => loc_bind (loc_get _) (fun o => ?_))
      split
      · exact loc_bind (loc_del _) (fun _ => loc_pure _)
      · exact loc_bind (loc_del _) (fun _ => loc_pure _)
      · exact loc_bind (loc_del _) (fun _ => loc_pure _)
      · exact loc_fail _
    · exact loc_fail _
  · exact loc_fail _
/-- entering: the record is laid, and, at an outermost loop, the block for deferred calls -/
theorem lay_ok {G : Nat} {a : A} {act : Act} {dm : Nat × List DfE} {l : Nat} {s1 s2 : HS} {p1 p2 : FP} {ps : Array Tmp} {asg body : Code} (h1 : Ok (layR ar a) s dm s1 p1) (h2 : Ok (new (.loop .ready none 0 a.tm a.n ps asg body dm.1)) s1 l s2 p2)
    (hR : Rel P G s ν V w) (hf : Fresh s s2 V) (har : ∀ l, ar = some l → V l) (hv : ValA V a) (ha : ActR ν a act) (fn : FuncId) :
    s.c ≤ s2.c ∧ ∃ ν2 mark w2, (Instr.enterLoop fn act.tmps ps asg body (ar.map ν.ρ)).run P w = .ok (ν2.ρ l, mark) w2 ∧ Post P G s ν V w s2 (p1.app p2) ν2 w2 ∧ VN V s s2 l ∧
      ActR ν2 ⟨a.tm, a.n, dm.2⟩ { act with defers := mark ++ act.defers } ∧ ValA (VN V s s2) ⟨a.tm, a.n, dm.2⟩ := by
  cases ar with
  | none =>
    obtain ⟨d, s3, p3, p4, h3, h4, rfl⟩ := ok_bind.1 h1
    obtain ⟨rfl, rfl, rfl⟩ := ok_pure.1 h4
    have c2 : s3.c ≤ s2.c := (loc_new _ _ _ _ _ h2).le
    obtain ⟨c1, ν1, hp1, e1, hd, _⟩ := laid_new (o := .deferred (some [])) hR (hf.left c2) h3 (by simp [ValO]) (fun _ _ => rfl)
    have hf1 := hf.right (V := V) c1
    have hv1 : ValA (VN V s s3) a := valA_mono (fun b hb => Or.inl hb) hv
    have ha1 := act_agree (hp1.out.agree (hf.left c2)) hv ha
    obtain ⟨_, ν2, hp2, e2, hl, _⟩ := laid_new (o := .loop { state := .ready, pending := none, fn, tmps := act.tmps, params := ps, assign := asg, body, defers := w.heap.size }) hp1.rel hf1 h2 ⟨hv1.1, hd⟩
      (fun ν' hag => ⟨fn, by rw [tmL_agree hag a.n hv1.1.2.1, ← ha1.tm, (hag d hd).1, e1]⟩)
    have hag2 := hp2.out.agree hf1
    refine ⟨Nat.le_trans c1 c2, ν2, [{ target := .collected w.heap.size, args := #[] }], _, ?_, (hp1.trans hp2 c1 c2 hf).mono (fun b hb => by rcases hb with hb | hb; exact Or.inl (Or.inl hb); exact Or.inr hb), ?_, ?_, ?_⟩
    · rw [e2, World.size_alloc]
      exact run_enterLoop_outer fn act.tmps ps asg body
    · rw [VN_trans c1 c2] at hl; exact hl
    · have ha2 := act_agree hag2 hv1 ha1
      refine ⟨ha2.tm, ?_⟩
      show _ :: act.defers = denD ν2 (.mark d) :: a.df.map (denD ν2)
      rw [ha2.df]
      congr 1
      simp only [denD, (hag2 d hd).1, e1]
    · have hv2 : ValA (VN V s s2) a := valA_mono (fun b hb => Or.inl hb) hv
      refine ⟨hv2.1, fun x hx => ?_⟩
      rcases List.mem_cons.1 hx with rfl | hx
      · show VN V s s2 d
        rcases hd with hd | hd
        · exact Or.inl hd
        · exact Or.inr ⟨hd.1, Nat.lt_of_lt_of_le hd.2 c2⟩
      · exact hv2.2 x hx
  | some l0 =>
    obtain ⟨o, s3, p3, p4, h3, h4, rfl⟩ := ok_bind.1 h1
    obtain ⟨hg, rfl, rfl⟩ := ok_get.1 h3
    split at h4
    · rename_i st pe fid tm n' ps' asg' body' d
      obtain ⟨rfl, rfl, rfl⟩ := ok_pure.1 h4
      obtain ⟨r, hr, fid', rfl⟩ := hR.blk l0 _ hg
      have hd : V d := (hR.cl l0 _ hg).2.2
      obtain ⟨c1, ν2, hp2, e2, hl, _⟩ := laid_new (o := .loop { state := .ready, pending := none, fn, tmps := act.tmps, params := ps, assign := asg, body, defers := ν.ρ d }) hR hf h2 ⟨hv.1, hd⟩
        (fun ν' hag => ⟨fn, by rw [tmL_agree hag a.n hv.1.2.1, ← ha.tm, (hag d hd).1]⟩)
      refine ⟨c1, ν2, [], _, (run_enterLoop_inner hr fn act.tmps ps asg body).trans ?_, hp2.mono (fun b hb => Or.inr hb), hl, ?_, ?_⟩
      · rw [e2]
      · exact act_agree (hp2.out.agree hf) hv ha
      · exact valA_mono (fun b hb => Or.inl hb) hv
    · exact (ok_fail h4).elim
end Go.Ev
/- A range over a function, whole. -/
namespace Go.Ev
variable {E : Env} {P : Program} {s s' : HS} {p : FP} {ν : Nu} {V : Nat → Prop} {w : World}
variable {call dcall : FuncId → List SV → M SV} {yld : Nat → List SV → M SV} {ar : Option Nat}
theorem callsIn_fen {r : Option Nat} {n : Nat} {f : FuncId} {args : Array Value} {R : Ending → World → Prop} (h : CallsIn (fen none) n P f args w R) : CallsIn (fen r) n P f args w R := h
def pendOf : AExit → Option Code
  | .normal => none
  | .exit id => some (.exit id)
  | .goto l => some (.goto l)
  | .ret => some .ret
/-- leaving: the record's pending jump -/
theorem leave_ok {n : Nat} {Q : Exit → Act → World → Prop} {r : Option Nat} {act : Act} {l : Nat} {fid : FuncId} {st : LoopState} {pe : Option Code} {tm : T SV} {k : Nat} {ps : Array Tmp} {asg body : Code} {d : Nat} {e : AExit} {v : Value}
    (hR : Rel P E.nG s ν V w) (hb : s.h.get l = some (.loop st pe fid tm k ps asg body d)) (hst : st ≠ .busy) (hpe : pe = pendOf e) {u : Unit} (h : Ok (del l) s u s' p)
    (hq : ∀ w', Post P E.nG s ν V w s' p ν w' → Q (exitOf e) act w') : rangePost (fen r) n P (ν.ρ l) Q act (.returned v) w := by
  obtain ⟨rr, hr, fid', rfl⟩ := hR.blk l _ hb
  obtain ⟨c1, hp⟩ := post_gone hR hb h (w' := w.putObj (ν.ρ l) (.loop { state := .exhausted, pending := pe, fn := fid', tmps := (tmL ν tm k).toArray, params := ps, assign := asg, body, defers := ν.ρ d })) World.putObj_size (fun k hk => World.putObj_heap_other hk) rfl rfl rfl
  refine ⟨pe, _, run_endLoop hr hst, ?_⟩
  have := hq _ hp
  cases e with
  | normal => subst hpe; exact this
  | exit id => subst hpe; exact wpIn_exit this
  | goto id => subst hpe; exact wpIn_goto this
  | ret => subst hpe; exact wpIn_ret this
theorem range_ok (hE : EnvOK E P) (hC : CallOK E P call) : RngOK E P call ar := by
  refine ⟨loc_evR hC.loc, ?_⟩
  intro a f ps asg body s e a' s' p h ν V w act n Q hR hf har hv ha hq
  unfold evR at h
  split at h
  · rename_i g first cap hev
    obtain ⟨dm, s1, p1, p2, h1, h2, rfl⟩ := ok_bind.1 h
    obtain ⟨l, s2, p3, p4, h3, h4, rfl⟩ := ok_bind.1 h2
    obtain ⟨r, s3, p5, p6, h5, h6, rfl⟩ := ok_bind.1 h4
    split at h6
    · rename_i g' as
      obtain ⟨rfl, rfl, rfl, rfl, hcf⟩ := ok_enterM_enter hE h5
      obtain ⟨x, s4, p7, p8, h7, h8, rfl⟩ := ok_bind.1 h6
      obtain ⟨o, s5, p9, p10, h9, h10, rfl⟩ := ok_bind.1 h8
      obtain ⟨hg, rfl, rfl⟩ := ok_get.1 h9
      have c4 := (hC.loc _ _ _ _ _ _ h7).le
      have fin : ∃ (st : LoopState) (pe : Option Code) (fid : FuncId) (tm : T SV) (k : Nat) (ps' : Array Tmp) (asg' body' : Code) (d : Nat) (u : Unit) (p11 : FP), o = .loop st pe fid tm k ps' asg' body' d ∧ st ≠ .busy ∧ pe = pendOf e ∧ Ok (del l) s4 u s' p11 ∧ (∀ b, p11.W b → p10.W b) ∧ a' = ⟨a.tm, a.n, dm.2⟩ := by
        split at h10
        all_goals first
          | exact (ok_fail h10).elim
          | (obtain ⟨u, s6, p11, p12, h11, h12, rfl⟩ := ok_bind.1 h10
             obtain ⟨h13, rfl, rfl⟩ := ok_pure.1 h12
             injection h13 with h13 h14
             subst h13; subst h14
             exact ⟨_, _, _, _, _, _, _, _, _, u, p11, rfl, by simp, rfl, h11, fun b hb => Or.inl hb, rfl⟩)
      obtain ⟨st, pe, fid, tm, k, ps', asg', body', d, u, p11, rfl, hst, hpe, h11, hw11, rfl⟩ := fin
      have c5 := (loc_del _ _ _ _ _ h11).le
      have hvf := val_evalO hR hv f
      rw [hev] at hvf
      refine wpIn_rangeFunc (fun fn _ => ?_)
      obtain ⟨c2, ν2, mark, w2, he, hp2, hl, ha2, hv2⟩ := lay_ok h1 h3 hR (hf.left (by omega)) har hv ha fn
      have hag2 := hp2.out.agree (hf.left (by omega))
      have hf2 := hf.right c2
      have hden : act.eval f = .func (.func g') (denL ν2 first).toArray (denL ν2 cap).toArray := by
        rw [eval_den hR hv ha]
        simp only [hev, den, denFn, denL_agree hag2 first hvf.2.1, denL_agree hag2 cap hvf.2.2]
      have hargs : (denL ν2 first).toArray ++ #[Value.func (.yield (ν2.ρ l)) #[] #[]] ++ (denL ν2 cap).toArray = (denL ν2 (first ++ (.fn (.yield l) [] [] :: cap))).toArray := by
        simp [denL_append, denL, den, denFn]
      rw [appR_eq] at h7
      refine ⟨ν2.ρ l, mark, w2, { target := .fn (.func g') (denL ν2 cap).toArray, args := (denL ν2 first).toArray ++ #[Value.func (.yield (ν2.ρ l)) #[] #[]] }, w2, g', (denL ν2 (first ++ (.fn (.yield l) [] [] :: cap))).toArray, w2, he, ?_, fun _ _ => trivial, ?_, fun hd => (by cases hd), ?_⟩
      · have hm : #[Operand.const (Value.func (.yield (ν2.ρ l)) #[] #[])].map act.eval = #[Value.func (.yield (ν2.ρ l)) #[] #[]] := by simp [Act.eval]
        simp only [resolve, hden, Deferred.ofValue, hm]
        rfl
      · rw [← hargs]
        exact hcf _ w2
      · have hvl : ValL (VN V s s2) (first ++ (.fn (.yield l) [] [] :: cap)) :=
          valL_append (valL_mono (fun b hb => Or.inl hb) _ hvf.2.1) ⟨⟨hl, trivial, trivial⟩, valL_mono (fun b hb => Or.inl hb) _ hvf.2.2⟩
        refine (callsIn_fen (hC.run h7 (n - 1) hp2.rel (hf2.left c5) hvl)).mono ?_
        rintro e' w3 ⟨ν3, rfl, hx, hp3⟩
        have hag3 := hp3.out.agree (hf2.left c5)
        rw [← (hag3 l hl).1]
        refine leave_ok hp3.rel hg hst hpe h11 (fun w4 hp4 => ?_)
        have hp23 := hp3.trans hp4 c4 c5 hf2
        have hp := hp2.trans hp23 c2 (Nat.le_trans c4 c5) hf
        refine hq ν3 w4 _ (hp.mono (fun b hb => ?_)) ?_ (act_agree hag3 hv2 ha2)
        · rcases hb with (hb | hb) | hb | hb
          · exact Or.inl hb
          · exact Or.inr (Or.inl hb)
          · exact Or.inr (Or.inr (Or.inr (Or.inl hb)))
          · exact Or.inr (Or.inr (Or.inr (Or.inr (Or.inr (hw11 b hb)))))
        · refine valA_mono (fun b hb => ?_) hv2
          rcases hb with hb | hb
          · exact Or.inl hb
          · exact Or.inr ⟨hb.1, Nat.lt_of_lt_of_le hb.2 (Nat.le_trans c4 c5)⟩
    · exact (ok_fail h6).elim
  · exact (ok_fail h).elim
end Go.Ev
/- A round of a range over a function. -/
namespace Go.Ev
variable {E : Env} {P : Program} {s s' : HS} {p : FP} {ν : Nu} {V : Nat → Prop} {w : World}
variable {call dcall : FuncId → List SV → M SV} {yld : Nat → List SV → M SV} {ar : Option Nat}
theorem fold_tm {n : Nat} : ∀ (l : List (Nat × SV)) (tm : T SV), TmOK V tm n → (∀ q ∈ l, Val V q.2) →
    TmOK V (l.foldl (fun t q => bif Nat.blt q.1 n then t.upd 20 q.1 (some q.2) else t) tm) n ∧
    (l.map (fun q => (q.1, den ν q.2))).foldl (fun (t : Array Value) q => t.setIfInBounds q.1 q.2) (tmL ν tm n).toArray = (tmL ν (l.foldl (fun t q => bif Nat.blt q.1 n then t.upd 20 q.1 (some q.2) else t) tm) n).toArray
  | [], tm, h, _ => ⟨h, rfl⟩
  | q :: l, tm, h, hv => by
    simp only [List.foldl_cons, List.map_cons]
    have hq := hv q List.mem_cons_self
    have hl : ∀ x ∈ l, Val V x.2 := fun x hx => hv x (List.mem_cons_of_mem _ hx)
    cases hb : Nat.blt q.1 n with
    | true =>
      have hlt := blt_true hb
      have e : (tmL ν tm n).toArray.setIfInBounds q.1 (den ν q.2) = (tmL ν (tm.upd 20 q.1 (some q.2)) n).toArray := by
        rw [tmL_put ν h.1 hlt]; simp
      rw [e]
      exact fold_tm l _ (tmOK_put h hlt hq) hl
    | false =>
      have hd : ¬ q.1 < n := fun hlt => by
        have : Nat.blt q.1 n = true := by unfold Nat.blt; exact Nat.ble_eq_true_of_le hlt
        rw [this] at hb; cases hb
      have e : (tmL ν tm n).toArray.setIfInBounds q.1 (den ν q.2) = (tmL ν tm n).toArray := by
        apply Array.ext'
        simp only [Array.toList_setIfInBounds]
        rw [List.set_eq_of_length_le (by rw [tmL_length]; exact Nat.le_of_not_lt hd)]
      rw [e]
      exact fold_tm l tm h hl
theorem yTmps_eq {r : Loop} {tm : T SV} {n : Nat} {ps : Array Tmp} {as : List SV} (hr : r.tmps = (tmL ν tm n).toArray) (hp : r.params = ps) : yTmps ν r as = ((ps.toList.zip as).map (fun q => (q.1, den ν q.2))).foldl (fun (t : Array Value) q => t.setIfInBounds q.1 q.2) (tmL ν tm n).toArray := by
  unfold yTmps
  rw [hr, hp, ← Array.foldl_toList, Array.toList_zip, denL_eq]
  congr 1
  rw [show (List.map (den ν) as).toArray.toList = as.map (den ν) from rfl]
  have : ∀ (a : List Nat) (b : List SV), a.zip (b.map (den ν)) = (a.zip b).map (fun q => (q.1, den ν q.2)) := by
    intro a
    induction a with
    | nil => intro b; rfl
    | cons x a ih => intro b; cases b with
      | nil => rfl
      | cons y b => simp [ih b]
  exact this _ _
theorem loc_endY (l : Nat) (st : LoopState) (pe : Option Code) (t : Bool) : Loc (endY l st pe t) := by
  unfold endY
  refine loc_bind (loc_get _) (fun o => ?_)
  split
  · exact loc_bind (loc_put _ _) (fun _ => loc_pure _)
  · exact loc_fail _
theorem post_loop {G : Nat} (hR : Rel P G s ν V w) {l : Nat} {st : LoopState} {pe : Option Code} {fid : FuncId} {tm : T SV} {k : Nat} {ps : Array Tmp} {asg body : Code} {d : Nat} (hb : s.h.get l = some (.loop st pe fid tm k ps asg body d)) (ht : l < top)
    {r : Loop} (hr : w.heap[ν.ρ l]? = some (.loop r)) (st' : LoopState) (pe' : Option Code) : Post P G s ν V w ⟨s.h.upd 20 l (some (.loop st' pe' fid tm k ps asg body d)), s.c⟩ (.w l) ν (w.putObj (ν.ρ l) (.loop { r with state := st', pending := pe' })) := by
  obtain ⟨rr, hrr, fid', rfl⟩ := hR.blk l _ hb
  rw [hr] at hrr
  injection hrr with hrr
  injection hrr with hrr
  subst hrr
  have hv : ValO V (.loop st pe fid tm k ps asg body d) := (hR.cl l _ hb).2
  exact post_put hR hb ht (ao := .loop st' pe' fid tm k ps asg body d) (p := .w l) hv (r := .loop { state := st', pending := pe', fn := fid', tmps := (tmL ν tm k).toArray, params := ps, assign := asg, body := body, defers := ν.ρ d }) ⟨fid', rfl⟩ rfl World.putObj_size (World.putObj_heap_same (Array.getElem?_eq_some_iff.1 hr).1) (fun k hk => World.putObj_heap_other hk) rfl rfl rfl
theorem endY_ok {l : Nat} {st : LoopState} {pe : Option Code} {t : Bool} {x : SV} (h : Ok (endY l st pe t) s x s' p) (hst : st = if pe.isNone then .ready else .done) (ht : t = pe.isNone) (hR : Rel P E.nG s ν V w) :
    s'.c = s.c ∧ x = .v (.bool t) ∧ ∃ w', (Instr.endRound (ν.ρ l) pe).run P w = .ok (.bool t) w' ∧ Post P E.nG s ν V w s' p ν w' := by
  unfold endY at h
  obtain ⟨o, s1, p1, p2, h1, h2, rfl⟩ := ok_bind.1 h
  obtain ⟨hg, rfl, rfl⟩ := ok_get.1 h1
  split at h2
  · rename_i st0 pe0 fid tm k ps asg body d
    obtain ⟨u, s3, p3, p4, h3, h4, rfl⟩ := ok_bind.1 h2
    obtain ⟨_, htop, rfl, rfl⟩ := ok_put.1 h3
    obtain ⟨rfl, rfl, rfl⟩ := ok_pure.1 h4
    obtain ⟨rr, hr, fid', rfl⟩ := hR.blk l _ hg
    refine ⟨rfl, rfl, _, ?_, (post_loop hR hg htop hr st pe).mono (fun b hb => Or.inr (Or.inl hb))⟩
    rw [run_endRound pe hr, hst, ht]
  · exact (ok_fail h2).elim
theorem loc_evY (hC : ∀ f as, Loc (call f as)) (hY : ∀ l as, Loc (yld l as)) (hD : DrawOK E P call yld) (hG : ∀ ar, RngOK E P call ar) (F : Nat) (l : Nat) (as : List SV) : Loc (evY E call yld F l as) := by
  unfold evY
  refine loc_bind (loc_get _) (fun o => ?_)
  split
  · refine loc_cond (loc_bind (loc_evC hC hY hD (hG _) _ _ _) (fun r => ?_)) (loc_fail _)
    split
    · refine loc_bind (loc_get _) (fun o => ?_)
      split
      · refine loc_bind (loc_put _ _) (fun _ => loc_bind (loc_evC hC hY hD (hG _) _ _ _) (fun q => ?_))
        split
        · exact loc_endY _ _ _ _
        · exact loc_endY _ _ _ _
        · exact loc_fail _
        · exact loc_endY _ _ _ _
      · exact loc_fail _
    · exact loc_fail _
  · exact loc_fail _
theorem evY_ok (hE : EnvOK E P) (hC : CallOK E P call) (hY : YldOK E P yld) (hD : DrawOK E P call yld) (hG : ∀ ar, RngOK E P call ar) {F : Nat} {l : Nat} {as : List SV} {x : SV}
    (h : Ok (evY E call yld F l as) s x s' p) (n : Nat) (hR : Rel P E.nG s ν V w) (hf : Fresh s s' V) (hl : V l) (ha : ValL V as) {r : Loop} (hr : w.heap[ν.ρ l]? = some (.loop r)) (_hs : as.length = r.params.size) :
    RoundIn (fen none) n P (ν.ρ l) r.fn (yTmps ν r as) r.assign r.body w (RetR P E.nG s ν V w s' p x) := by
  unfold evY at h
  obtain ⟨o, s1, p1, p2, h1, h2, rfl⟩ := ok_bind.1 h
  obtain ⟨hg, rfl, rfl⟩ := ok_get.1 h1
  split at h2
  · rename_i st pe fid tm k ps asg body d
    rcases ok_bif.1 h2 with ⟨_, h3⟩ | ⟨_, h3⟩
    case inr => exact (ok_fail h3).elim
    obtain ⟨⟨e, a1⟩, s2, p3, p4, h4, h5, rfl⟩ := ok_bind.1 h3
    have c1 := (loc_evC hC.loc hY.loc hD (hG _) _ _ _ _ _ _ _ h4).le
    obtain ⟨rr, hrr, fid', hloop⟩ := hR.blk l _ hg
    subst hloop
    rw [hr] at hrr
    injection hrr with hrr
    injection hrr with hrr
    have htm : TmOK V tm k := (hR.cl l _ hg).2.1
    obtain ⟨t1, t2⟩ := fold_tm (ν := ν) (ps.toList.zip as) tm htm (fun q hq => by
      rw [valL_iff] at ha
      exact ha _ (List.of_mem_zip hq).2)
    have hyt : yTmps ν r as = _ := (yTmps_eq (by rw [hrr]) (by rw [hrr])).trans t2
    rw [hyt]
    have hra : r.assign = asg := by rw [hrr]
    have hrb : r.body = body := by rw [hrr]
    rw [hra, hrb]
    cases e with
    | exit id => exact (ok_fail h5).elim
    | goto id => exact (ok_fail h5).elim
    | ret => exact (ok_fail h5).elim
    | normal =>
    obtain ⟨o2, s3, p5, p6, h6, h7, rfl⟩ := ok_bind.1 h5
    obtain ⟨hg2, rfl, rfl⟩ := ok_get.1 h6
    split at h7
    · rename_i pe2 fid2 tm2 k2 ps2 asg2 body2 d2
      obtain ⟨u, s4, p7, p8, h8, h9, rfl⟩ := ok_bind.1 h7
      obtain ⟨_, htop, rfl, rfl⟩ := ok_put.1 h8
      obtain ⟨⟨e, a2⟩, s5, p9, p10, h10, h11, rfl⟩ := ok_bind.1 h9
      have c2 : s2.c ≤ s5.c := (loc_evC hC.loc hY.loc hD (hG _) _ _ _ _ _ _ _ h10).le
      have c3 : s5.c ≤ s'.c := by
        cases e with
        | normal => exact (loc_endY _ _ _ _ _ _ _ _ h11).le
        | exit id => exact (loc_endY _ _ _ _ _ _ _ _ h11).le
        | goto id => exact (ok_fail h11).elim
        | ret => exact (loc_endY _ _ _ _ _ _ _ _ h11).le
      refine roundIn_of_wpIn trivial ?_
      refine code_ok (ar := some l) hE hC hY hD (hG _) F h4 hR (hf.left (by omega)) (fun l' hl' => by injection hl' with hl'; exact hl' ▸ hl) (a := ⟨_, k, []⟩) ⟨t1, fun d hd => by cases hd⟩ ⟨rfl, rfl⟩ ?_
      intro ν1 w1 act1 hp1 hv1 ha1
      have hag1 := hp1.out.agree (hf.left (by omega))
      obtain ⟨r2, hr2, fid3, hloop2⟩ := hp1.rel.blk l _ hg2
      subst hloop2
      have hpp := post_loop hp1.rel hg2 htop hr2 .busy pe2
      have hf2 : Fresh s2 s' (VN V s s2) := hf.right c1
      have hVN : VN (VN V s s2) s2 ⟨s2.h.upd 20 l (some (.loop .busy pe2 fid2 tm2 k2 ps2 asg2 body2 d2)), s2.c⟩ = VN V s s2 := VN_self _ s2
      show ∃ w₂, (Instr.beginRound (ν.ρ l)).run P w1 = .ok () w₂ ∧ _
      rw [← (hag1 l hl).1]
      refine ⟨_, run_beginRound hr2 rfl, ?_⟩
      have hrel2 := hpp.rel
      rw [hVN] at hrel2
      have hf3 : Fresh ⟨s2.h.upd 20 l (some (.loop .busy pe2 fid2 tm2 k2 ps2 asg2 body2 d2)), s2.c⟩ s' (VN V s s2) := hf2
      refine code_ok (ar := some l) hE hC hY hD (hG _) F h10 hrel2 (fun y hy1 hy2 => hf3 y hy1 (Nat.lt_of_lt_of_le hy2 c3)) (fun l' hl' => by injection hl' with hl'; subst hl'; exact Or.inl hl) hv1 ha1 ?_
      intro ν2 w2 act2 hp2 hv2 ha2
      have hf5 : Fresh s5 s' (VN (VN V s s2) ⟨s2.h.upd 20 l (some (.loop .busy pe2 fid2 tm2 k2 ps2 asg2 body2 d2)), s2.c⟩ s5) := hf3.right c2
      have hag2 : Agree (VN V s s2) ν1 ν2 := hp2.out.agree (fun y hy1 hy2 => hf3 y hy1 (Nat.lt_of_lt_of_le hy2 c3))
      have hend : ∀ (jump : Option Code) (t : Bool) (st : LoopState) (q : FP), Ok (endY l st jump t) s5 x s' q → (∀ b, q.W b → p10.W b) → st = (if jump.isNone then .ready else .done) → t = jump.isNone →
          ∃ v w', (Instr.endRound (ν1.ρ l) jump).run P w2 = .ok v w' ∧ RetR P E.nG s ν V w s' (FP.app (.r l) (FP.app p3 (FP.app (.r l) (FP.app (.w l) (FP.app p9 p10))))) x (.returned v) w' := by
        intro jump t st q hq hqw hst ht
        obtain ⟨c5, rfl, w', he, hp3⟩ := endY_ok hq hst ht hp2.rel
        rw [← (hag2 l (Or.inl hl)).1]
        refine ⟨_, w', he, ν2, by simp [den], trivial, ?_⟩
        have hp23 := hp2.trans hp3 c2 (Nat.le_of_eq c5.symm) hf3
        have hpp' := hpp
        have hp123 : Post P E.nG s2 ν1 (VN V s s2) w1 s' ((FP.w l).app (p9.app q)) ν2 w' := Post.trans hpp (by rw [hVN]; exact hp23) (Nat.le_refl _) (Nat.le_trans c2 c3) hf2
        exact (hp1.trans hp123 c1 (Nat.le_trans c2 c3) hf).mono (fun b hb => by
          rcases hb with hb | hb | hb | hb
          · exact Or.inr (Or.inl hb)
          · exact Or.inr (Or.inr (Or.inr (Or.inl hb)))
          · exact Or.inr (Or.inr (Or.inr (Or.inr (Or.inl hb))))
          · exact Or.inr (Or.inr (Or.inr (Or.inr (Or.inr (hqw b hb))))))
      cases e with
      | normal => exact hend none true .ready _ h11 (fun _ h => h) rfl rfl
      | exit id => exact hend (some (.exit id)) false .done _ h11 (fun _ h => h) rfl rfl
      | goto id => exact (ok_fail h11).elim
      | ret => exact hend (some .ret) false .done _ h11 (fun _ h => h) rfl rfl
    · exact (ok_fail h7).elim
  · exact (ok_fail h2).elim
end Go.Ev
/- The abstract machine is sound. -/
namespace Go.Ev
variable {E : Env} {P : Program} {s s' : HS} {p : FP} {ν : Nu} {V : Nat → Prop} {w : World}
structure SpecOK (E : Env) (P : Program) : Prop where
  loc : ∀ f as m, E.spec f as = some m → Loc m
  run : ∀ {f m as s x s' p}, E.spec f as = some m → Ok m s x s' p → ∀ {ν V w} (n : Nat), Rel P E.nG s ν V w → Fresh s s' V → ValL V as → CallsIn (fen none) n P f (denL ν as).toArray w (RetR P E.nG s ν V w s' p x)
theorem ev_ok (hE : EnvOK E P) (hS : SpecOK E P) (hD : ∀ call yld, CallOK E P call → YldOK E P yld → DrawOK E P call yld) (F : Nat) : ∀ d, CallOK E P (ev E F d).c ∧ DCallOK E P (ev E F d).d ∧ YldOK E P (ev E F d).y
  | 0 => ⟨⟨fun _ _ => loc_fail _, fun h => (ok_fail h).elim⟩, ⟨fun _ _ => loc_fail _, fun h => (ok_fail h).elim⟩, ⟨fun _ _ => loc_fail _, fun h => (ok_fail h).elim⟩⟩
  | d + 1 => by
    obtain ⟨hC, hDC, hY⟩ := ev_ok hE hS hD F d
    have hD' := hD _ _ hC hY
    have hG : ∀ ar, RngOK E P (ev E F d).c ar := fun ar => range_ok hE hC
    refine ⟨⟨fun f as => ?_, fun {f as s x s' p} h {ν V w} n hR hf ha => ?_⟩, ⟨fun f as => loc_evFd hC.loc hY.loc hD' (hG none) F f as, fun {f as s x s' p} h {ν V w} n hR hf ha => evFd_ok hE hC hY hD' (hG none) h n hR hf ha⟩,
      ⟨fun l as => loc_evY hC.loc hY.loc hD' hG F l as, fun {l as s x s' p} h {ν V w} n hR hf hl ha {r} hr hs => evY_ok hE hC hY hD' hG h n hR hf hl ha hr hs⟩⟩
    · show Loc (match E.spec f as with
        | some m => m
        | none => evF E (ev E F d).c (ev E F d).d (ev E F d).y F f as)
      split
      · rename_i m hm; exact hS.loc f as m hm
      · exact loc_evF hC.loc hY.loc hD' (hG none) hDC F f as
    · have h : Ok (match E.spec f as with
        | some m => m
        | none => evF E (ev E F d).c (ev E F d).d (ev E F d).y F f as) s x s' p := h
      split at h
      · rename_i m hm; exact hS.run hm h n hR hf ha
      · exact evF_ok hE hC hY hD' (hG none) hDC h n hR hf ha
/-- what is kept by a call that reaches nothing old -/
structure Kept (w w' : World) : Prop where
  os : w'.os = w.os
  tape : w'.tape = w.tape
  output : w'.output = w.output
  le : w.heap.size ≤ w'.heap.size
  same : ∀ r, r < w.heap.size → w'.heap[r]? = w.heap[r]?
/-- a call without inputs, from every world -/
theorem ev_calls (hE : EnvOK E P) (hS : SpecOK E P) (hD : ∀ call yld, CallOK E P call → YldOK E P yld → DrawOK E P call yld) {F d : Nat} {f : FuncId} {x : SV} {s' : HS} {p : FP}
    (h : ((ev E F d).c f [] ⟨.leaf, E.nG⟩).run = some (x, s', p)) (w : World) :
    Calls P f #[] w (fun e w' => ∃ ν', e = .returned (den ν' x) ∧ Kept w w') := by
  obtain ⟨hC, _, _⟩ := ev_ok hE hS hD F d
  have h : Ok ((ev E F d).c f []) ⟨.leaf, E.nG⟩ x s' p := h
  have hR : Rel P E.nG ⟨.leaf, E.nG⟩ ⟨id, id⟩ (fun b => b < E.nG) w := ⟨fun b o hb => by simp [T.get_leaf] at hb, fun b o hb => by simp [T.get_leaf] at hb, fun b b' o o' hb => by simp [T.get_leaf] at hb, fun g hg => ⟨rfl, hg⟩⟩
  have hf : Fresh ⟨.leaf, E.nG⟩ s' (fun b => b < E.nG) := fun b hb _ hv => by
    have : E.nG ≤ b := hb
    omega
  have hold := (hC.loc f [] _ _ _ _ h).old
  have := hC.run h 0 hR hf trivial
  refine callsIn_wide.1 (CallsIn.mono (F := Fence.wide) this ?_)
  rintro e w' ⟨ν', rfl, hx, hp⟩
  refine ⟨ν', rfl, hp.fr.os, hp.fr.tape, hp.fr.output, hp.fr.le, fun r hr => hp.fr.keep r hr (fun b hb hv => ?_)⟩
  rcases hold b hb with ⟨o, ho⟩ | h
  · simp [T.get_leaf] at ho
  · have h1 : E.nG ≤ b := h.1
    have h2 : b < E.nG := hv
    omega
end Go.Ev
/- The abstract machine's drawn regions are sound. -/
namespace Go.Ev
variable {E : Env} {P : Program}
theorem draw_ok (hE : EnvOK E P) (hM : P.follows .mixedOrders = true) {call : FuncId → List SV → M SV} {yld : Nat → List SV → M SV} (hC : CallOK E P call) (hY : YldOK E P yld) : DrawOK E P call yld := by
  refine ⟨fun ops a => loc_br (loc_evD hC.loc hY.loc ops _ _ _ _ _ (fun d hd => by cases hd)) (loc_fail _), fun {ops a s a' s' p} h {ν V w act n Q r} id hR hf hv ha hq => ?_⟩
  rcases ok_br.1 h with ⟨hb, h⟩ | ⟨_, h⟩
  · obtain ⟨sts, e1, e2, e3⟩ := evD_chain _ h
    refine wpIn_region_any hM ?_
    exact draw_any hE hC hY e2 e1 hb hf hv.1.1 hv.1.2.2 e3 hq ops.size _ s.h a ν act _ (cl_start ops) (cnt_le _ _) (inv_start hR hv ha (lst_none _) _)
  · exact (ok_fail h).elim
/-- a call without inputs, from every world -/
theorem ev_all (hE : EnvOK E P) (hM : P.follows .mixedOrders = true) (hS : SpecOK E P) {F d : Nat} {f : FuncId} {x : SV} {s' : HS} {p : FP} (h : ((ev E F d).c f [] ⟨.leaf, E.nG⟩).run = some (x, s', p)) (w : World) :
    Calls P f #[] w (fun e w' => ∃ ν', e = .returned (den ν' x) ∧ Kept w w') := ev_calls hE hS (fun _ _ hC hY => draw_ok hE hM hC hY) h w
end Go.Ev
/- The environment of a program. -/
namespace Go.Ev
/-- the program's types and functions as tries -/
noncomputable def envT (P : Program) (nG : Nat) (ty : T TypeInfo) (fn : T Func) : Env := { P := P, nG := nG, ty := ty.get, fn := fn.get, spec := fun _ _ => none }
def unnamed (P : Program) : Bool := P.funcs.toList.all fun f => !(f.name == "runtime.NumGoroutine")
theorem envT_ok {P : Program} {nG : Nat} {ty : T TypeInfo} {fn : T Func} (h1 : ty = T.ofL 12 P.types.toList) (h2 : fn = T.ofL 14 P.funcs.toList) (h3 : unnamed P = true) : EnvOK (envT P nG ty fn) P := by
  subst h1 h2
  have hg : ∀ f fn, (T.ofL 14 P.funcs.toList).get f = some fn → P.funcs[f]? = some fn := fun f fn h => by
    have := T.get_ofL _ _ _ _ h
    simpa using this
  refine ⟨rfl, fun t i h => ?_, fun f fn h => hg f fn h, fun f fn h => ?_⟩
  · have := T.get_ofL _ _ _ _ (show (T.ofL 12 P.types.toList).get t = some i from h)
    have this : P.types[t]? = some i := by simpa using this
    show (if t < P.types.size then P.types[t]? else _) = _
    rw [if_pos (Array.getElem?_eq_some_iff.1 this).1]
    exact this
  · have := hg f fn h
    unfold unnamed at h3
    rw [List.all_eq_true] at h3
    have hm : fn ∈ P.funcs.toList := by
      obtain ⟨hi, he⟩ := Array.getElem?_eq_some_iff.1 this
      rw [← he]
      simp
    simpa using h3 fn hm
theorem spec_none (P : Program) (nG : Nat) (ty : T TypeInfo) (fn : T Func) : SpecOK (envT P nG ty fn) P := ⟨fun _ _ _ h => (by cases h), fun h => (by cases h)⟩
/-- the run ends in this truth value -/
noncomputable def endsB (b : Bool) (r : Option (SV × HS × FP)) : Bool := match r with
  | some (.v (.bool c), _, _) => b == c
  | _ => false
theorem endsB_ok {b : Bool} {r : Option (SV × HS × FP)} (h : endsB b r = true) : ∃ s p, r = some (.v (.bool b), s, p) := by
  unfold endsB at h
  split at h
  · rename_i c s p
    have : b = c := by simpa using h
    exact ⟨s, p, by rw [this]⟩
  · cases h
/-- a function without parameters that tells a truth value tells it in every world -/
theorem ev_bool {P : Program} {nG : Nat} {ty : T TypeInfo} {fn : T Func} (h1 : ty = T.ofL 12 P.types.toList) (h2 : fn = T.ofL 14 P.funcs.toList) (h3 : unnamed P = true) (hM : P.follows .mixedOrders = true)
    {F d : Nat} {f : FuncId} {b : Bool} (h : endsB b ((ev (envT P nG ty fn) F d).c f [] ⟨.leaf, nG⟩).run = true) (w : World) : Calls P f #[] w (fun e w' => e = .returned (.bool b) ∧ Kept w w') := by
  obtain ⟨s, p, h⟩ := endsB_ok h
  refine (ev_all (envT_ok h1 h2 h3) hM (spec_none P nG ty fn) h w).mono ?_
  rintro e w' ⟨ν', rfl, hk⟩
  exact ⟨by simp [den], hk⟩
end Go.Ev
