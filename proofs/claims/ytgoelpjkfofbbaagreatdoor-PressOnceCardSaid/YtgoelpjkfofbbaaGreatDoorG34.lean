/- Walk: the notes' reader: each, whatever takes one. -/
import Derived.Test.YtgoelpjkfofbbaaGreatDoorG33
import Derived.Deep.LoopGhost
namespace Go.Proofs.YtgoelpjkfofbbaaGreatDoor
open Go.RowKit Go.Gz Go.Shelf

set_option maxRecDepth 100000
/-- what a reader that makes blocks of its own from B on keeps -/
structure KB (B R : Nat) (w w' : World) : Prop where
  os : w'.os = w.os
  tape : w'.tape = w.tape
  output : w'.output = w.output
  size : w.heap.size ≤ w'.heap.size
  block : ∀ j, j < B → j ≠ R → w'.heap[j]? = w.heap[j]?
theorem KB.refl (B R : Nat) (w : World) : KB B R w w := ⟨rfl, rfl, rfl, Nat.le_refl _, fun _ _ _ => rfl⟩
theorem KB.trans {B R : Nat} {a b c : World} (h : KB B R a b) (k : KB B R b c) : KB B R a c :=
  ⟨k.os.trans h.os, k.tape.trans h.tape, k.output.trans h.output, Nat.le_trans h.size k.size, fun j hj hne => (k.block j hj hne).trans (h.block j hj hne)⟩
theorem KB.of {B R : Nat} {a b : World} (hB : B ≤ a.heap.size) (h : RK R a b) : KB B R a b :=
  ⟨h.os, h.tape, h.output, h.size, fun j hj hne => h.block j (by omega) (fun e => hne (by injection e))⟩
theorem KB.rk {R : Nat} {a b : World} (h : KB a.heap.size R a b) : RK R a b :=
  ⟨h.os, h.tape, h.output, h.size, fun j hj hne => h.block j hj (fun e => hne (by rw [e]))⟩
theorem RG.keepB {w w' : World} {B R : Nat} (h : RG w R) (hB : 5 < B ∧ 3 < B ∧ 4 < B ∧ 1 < B ∧ 2 < B) (hk : KB B R w w') : RG w' R := by
  have var : ∀ {n : String} {g : Nat} {cs : Array Value}, Tryz.prog.globalNamed n = some g → g < B → g ≠ R → w.var? Tryz.prog n = some cs → w'.var? Tryz.prog n = some cs := by
    intro n g cs hg hl hne h
    unfold World.var? at h ⊢
    simp only [hg, Option.bind_some] at h ⊢
    rw [hk.block g hl hne]
    exact h
  have cel : ∀ {p : Addr} {v : Value}, p.block < B → p.block ≠ R → w.cell? p = some v → w'.cell? p = some v := by
    intro p v hl hne h
    rw [← h]
    unfold World.cell?
    rw [hk.block p.block hl hne]
  refine ⟨⟨var g_pow10 hB.1 h.ne.1 h.gl.pow10, ?_, ?_, fun c hc => cel hB.2.2.2.1 h.ne.2.2.2.1 (h.gl.utf8.1 c hc), fun i hi => ⟨cel hB.2.2.2.2 h.ne.2.2.2.2 (h.gl.utf8.2 i hi).1, cel hB.2.2.2.2 h.ne.2.2.2.2 (h.gl.utf8.2 i hi).2⟩⟩, h.ne⟩
  · obtain ⟨tp, p, e⟩ := h.gl.errSyntax
    exact ⟨tp, p, var g_syn hB.2.1 h.ne.2.1 e⟩
  · obtain ⟨tp, p, e⟩ := h.gl.errRange
    exact ⟨tp, p, var g_rng hB.2.2.1 h.ne.2.2.1 e⟩
/-- what is owed by the function that takes one -/
def OneOK {σ : Type} (R : Nat) (s : Bs) (B g : Nat) (lb : Array Value) (St : Nat → σ → World → Prop) (J : World → Prop) (one : Nat → σ → Stand × σ) : Prop :=
  ∀ (n a : Nat) (st : σ) (W : World), n ≤ 64 → a ≤ s.length → RB W R s a 0 → St n st W → J W → B ≤ W.heap.size →
    Hid (Calls Tryz.prog g (#[.int .i64 (n : Int)] ++ lb) W fun e W' => e = .returned (.tuple #[]) ∧ KB B R W W' ∧ RB W' R s (one a st).1.1 (one a st).1.2 ∧ J W' ∧ ((one a st).1.2 = 0 → St (n + 1) (one a st).2 W' ∧ (one a st).1.1 ≤ s.length))
def EachRel {σ : Type} (R : Nat) (s : Bs) (B : Nat) (cl : UInt8) (St : Nat → σ → World → Prop) (J : World → Prop) (one : Nat → σ → Stand × σ) (w : World) (r : Stand) (gk : Nat) (i : Value) (wr : World) : Prop :=
  ∃ (n k : Nat) (E : Int) (st : σ), i = .int .i64 (n : Int) ∧ RB wr R s k E ∧ J wr ∧ KB B R w wr ∧ B ≤ wr.heap.size ∧ (E = 0 → St n st wr ∧ k ≤ s.length ∧ n + gk = 66 ∧ n ≤ 64 ∧ eachL s cl one gk n k st = r) ∧ (E ≠ 0 → r = (k, E))
set_option maxHeartbeats 4000000 in
theorem eachg_any {σ : Type} (R : Nat) (s : Bs) (hs : s.length ≤ 1000000) (op cl : UInt8) (deep d : Nat) (hd : deep + d = 5) (B g : Nat) (lb : Array Value) (eg : ∀ args w, (callFunc g args).run Tryz.prog w = .ok (.enter g args) w) (St : Nat → σ → World → Prop) (J : World → Prop) (one : Nat → σ → Stand × σ)
    (hSt : ∀ n st W W', St n st W → RK R W W' → St n st W') (hJ : ∀ W W', J W → RK R W W' → J W') (h1 : d ≠ 0 → OneOK R s B g lb St J one) (hend : ∀ st, (one s.length st).1.2 ≠ 0) (a : Nat) (hop : s[a]? = some op) (st0 : σ) (w : World) (h : RB w R s a 0) (h0 : St 0 st0 w) (j0 : J w) (hB : B ≤ w.heap.size) (r : Stand) (hr : r = if d = 0 then (a, 20) else contN s cl one a st0) :
    Calls Tryz.prog 151 #[.pointer (some ⟨R, 0, none⟩), .int .i64 (deep : Int), .int .u8 (op.toNat : Int), .int .u8 (cl.toNat : Int), .func (.func g) #[] lb] w fun e w' => e = .returned (.tuple #[]) ∧ KB B R w w' ∧ RB w' R s r.1 r.2 ∧ J w' := by
  have HB := Lib.hid h
  have HR := Lib.hid hr
  have halt : a < s.length := (List.getElem?_eq_some_iff.1 hop).1
  have FL := fun b F w h => Lib.hid (rfail0 R s a b F w h)
  by_cases hd0 : d = 0
  · subst hd0
    rw [if_pos rfl] at hr
    subst hr
    obtain rfl : deep = 5 := by omega
    obtain ⟨c0, c1, c2, z1, z2⟩ := h.cells
    go_enter Tryz.func151, Tryz.ntmps151
    go_wp2_with fail
    with_reducible refine (FL a 20 _ HB.out).out.mono ?_
    rintro e w9 ⟨rfl, hk, hr⟩
    have HR9 := Lib.hid hr
    clear hr
    go_wp2_with fail
    refine bodyPost_ret (results_none rfl _ _ _) rfl ?_
    exact ⟨rfl, KB.of hB hk, HR9.out, hJ _ _ j0 hk⟩
  rw [if_neg hd0] at hr
  have SG := rsign_any R s hs a (by omega) 0 op w h
  unfold SignE at SG
  rw [if_pos hop, decide_eq_true hop] at SG
  have SGH := Lib.hid SG
  clear SG HR FL
  have hb0 : blkA s (a + 1) ≤ s.length := blkA_le (by omega)
  have EN := fun k hk w1 h => Lib.hid (rend_any R s hs k hk 0 cl w1 h)
  have b1 : ¬ (4 : Int) < (deep : Int) := by omega
  have b1' : ¬ 4 < deep := by omega
  have b0 : decide ((4 : Int) < (deep : Int)) = false := by rw [decide_eq_false_iff_not]; omega
  have H0 := Lib.hid h0
  have HST := Lib.hid hSt
  have H1 := Lib.hid (h1 hd0)
  have HJ := Lib.hid hJ
  have J0 := Lib.hid j0
  have HEND := Lib.hid hend
  unfold contN at hr
  generalize blkA s (a + 1) = q at *
  clear h h0 hSt h1 hend hd hop hJ j0
  go_enter Tryz.func151, Tryz.ntmps151
  by_cases hcl : s[q]? = some cl
  · rw [if_pos hcl] at hr
    subst hr
    have EQ := fun w1 h => (EN q hb0 w1 h).out
    unfold EndE at EQ
    rw [if_pos hcl, decide_eq_true hcl] at EQ
    have EQH := Lib.hid EQ
    clear EQ hcl
    go_wp2_with fail
    with_reducible refine SGH.out.mono ?_
    rintro e w1 ⟨rfl, hk1, hr1⟩
    go_wp2_with fail
    with_reducible refine (EQH.out _ hr1).mono ?_
    rintro e w2 ⟨rfl, hk2, hr2⟩
    have HR2 := Lib.hid hr2
    clear hr1 hr2
    go_wp2_with fail
    refine bodyPost_ret (results_none rfl _ _ _) rfl ?_
    exact ⟨rfl, KB.of hB (hk1.trans hk2), HR2.out, HJ.out _ _ J0.out (hk1.trans hk2)⟩
  · rw [if_neg hcl] at hr
    have EQ := fun w1 h => (EN q hb0 w1 h).out
    unfold EndE at EQ
    rw [if_neg hcl, decide_eq_false hcl] at EQ
    have EQH := Lib.hid EQ
    clear EQ hcl
    have HR := Lib.hid hr
    clear hr
    go_wp2_with fail
    with_reducible refine SGH.out.mono ?_
    rintro e w1 ⟨rfl, hk1, hr1⟩
    go_wp2_with fail
    with_reducible refine (EQH.out _ hr1).mono ?_
    rintro e w2 ⟨rfl, hk2, hr2⟩
    have HR2 := Lib.hid hr2
    have HK2 := Lib.hid (hk1.trans hk2)
    clear hr1 hr2 hk1 hk2
    go_wp2_with fail
    go_loopg [10] 66 (fun gk i wr => EachRel R s B cl St J one w r gk i wr)
    case atStart => exact ⟨0, q, 0, st0, rfl, HR2.out, HJ.out _ _ J0.out HK2.out, KB.of hB HK2.out, Nat.le_trans hB HK2.out.size, fun _ => ⟨HST.out _ _ _ _ H0.out HK2.out, hb0, by omega, by omega, HR.out.symm⟩, fun h => absurd rfl h⟩
    case round =>
      obtain ⟨n, k, E, st, rfl, hrb, hj, hkb, hBr, hz, hnz⟩ := hrel
      have HRB := Lib.hid hrb
      have HKB := Lib.hid hkb
      have HJr := Lib.hid hj
      obtain ⟨c0, c1, c2, z1, z2⟩ := hrb.cells
      clear hrb hkb hj
      by_cases hE : E = 0
      · subst hE
        obtain ⟨hst, hk, hn1, hn2, hl⟩ := hz rfl
        have HSTk := Lib.hid hst
        clear hz hnz hst
        obtain ⟨gq, rfl⟩ : ∃ gq, gk = gq + 1 := ⟨gk - 1, by omega⟩
        unfold eachL at hl
        have e00 : ((0 : Int) == 0) = true := rfl
        have OC := fun W h1 h2 h3 h4 => (H1.out n k st W hn2 hk h1 h2 h3 h4).out
        have HED := HEND.out st
        have BL := fun k hk w h => Lib.hid (rblank_any R s hs k hk 0 w h)
        have S44 : ∀ k, k ≤ s.length → ∀ w, RB w R s k 0 → Hid (Calls Tryz.prog 156 #[.pointer (some ⟨R, 0, none⟩), .int .u8 44] w (SignE w R s k 0 44)) := fun k hk w h => Lib.hid (rsign_any R s hs k hk 0 44 w h)
        have WG := fun k hk w h => Lib.hid (rwrong_any R s k hk 0 w h)
        have FL := fun b F w h => Lib.hid (rfail0 R s k b F w h)
        have b5 : IntKind.i64.wrap ((n : Int) + 1) = ((n + 1 : Nat) : Int) := by rw [IntWalk.i64_in _ (by omega)]; omega
        by_cases h64 : n = 64
        · subst h64
          have t64 : (((64 : Nat) : Int) == 64) = true := by decide
          by_cases hkl : k < s.length
          · rw [if_pos ⟨rfl, hkl⟩] at hl
            subst hl
            have hklI : (k : Int) < (s.length : Int) := by omega
            clear OC HED
            go_wp2_with fail
            go_region_held3 (fun w' => w'.cell? ⟨R, 0, none⟩ = some (.string ⟨s.toArray⟩) ∧ w'.cell? ⟨R, 1, none⟩ = some (.int .i64 (k : Int))) (first | assumption | exact ⟨c0, c1⟩) (fail)
            go_wp2_with fail
            have hrd : RB wr.drew R s k 0 := HRB.out
            with_reducible refine (FL k 21 wr.drew hrd).out.mono ?_
            rintro e w9 ⟨rfl, hk9, hr9⟩
            have HR9 := Lib.hid hr9
            clear hr9
            go_wp2_with fail
            refine bodyPost_ret (results_none rfl _ _ _) rfl ?_
            exact ⟨rfl, HKB.out.trans (KB.of hBr ((RK.drew R wr).trans hk9)), HR9.out, HJ.out _ _ HJr.out ((RK.drew R wr).trans hk9)⟩
          · obtain rfl : k = s.length := by omega
            rw [if_neg (fun h => hkl h.2)] at hl
            obtain ⟨⟨⟨k1, e1⟩, st1⟩, ho⟩ : ∃ x, one s.length st = x := ⟨_, rfl⟩
            rw [ho] at OC hl HED
            simp only at OC hl HED
            have hne := HED
            have hklI : ¬ (s.length : Int) < (s.length : Int) := by omega
            clear ho HED
            go_wp2_with fail
            go_region_held3 (fun w' => w'.cell? ⟨R, 0, none⟩ = some (.string ⟨s.toArray⟩) ∧ w'.cell? ⟨R, 1, none⟩ = some (.int .i64 (s.length : Int))) (first | assumption | exact ⟨c0, c1⟩) (fail)
            have hrd : RB wr.drew R s s.length 0 := HRB.out
            have hBd : B ≤ wr.drew.heap.size := hBr
            have hsd := HST.out _ _ _ _ HSTk.out (RK.drew R wr)
            have hjd := HJ.out _ _ HJr.out (RK.drew R wr)
            have HKD := Lib.hid (HKB.out.trans (KB.of hBr (RK.drew R wr)))
            go_wp2_with fail
            refine (OC wr.drew hrd hsd hjd hBd).mono ?_
            rintro e w3 ⟨rfl, hk3, hr3, hj3, hs3⟩
            have HJ3 := Lib.hid hj3
            have HK3 := Lib.hid (HKD.out.trans hk3)
            have hB3 : B ≤ w3.heap.size := Nat.le_trans hBr hk3.size
            clear hrd hsd hjd hj3 c0 c1 c2 z1 z2
            obtain ⟨d0, d1, d2, y1, y2⟩ := hr3.cells
            have HR3 := Lib.hid hr3
            clear hr3 hk3
            have he1 : e1 ≠ 0 := hne
            have e1b : (e1 != 0) = true := by rw [bne_iff_ne]; exact he1
            rw [if_pos he1] at hl
            subst hl
            clear he1 hs3
            go_wp2_with fail
            refine bodyPost_ret (results_none rfl _ _ _) rfl ?_
            exact ⟨rfl, HK3.out, HR3.out, HJ3.out⟩
        · rw [if_neg (fun h => h64 h.1)] at hl
          have t64 : ((n : Int) == 64) = false := by rw [beq_eq_false_iff_ne]; omega
          obtain ⟨⟨⟨k1, e1⟩, st1⟩, ho⟩ : ∃ x, one k st = x := ⟨_, rfl⟩
          rw [ho] at OC hl
          simp only at OC hl
          clear ho HED
          go_wp2_with fail
          refine wp_region_held_drew (S := fun w' => w'.cell? ⟨R, 0, none⟩ = some (.string ⟨s.toArray⟩) ∧ w'.cell? ⟨R, 1, none⟩ = some (.int .i64 (k : Int))) (by kernel_rfl) ?_ (fun hHeld => ?_)
          · exact ⟨c0, c1⟩
          first
           | refine tk 0 undef rfl (Or.inr ⟨by rfl, rfl⟩) ?_
           | (refine tk 0 ?_ rfl (Or.inl ⟨by rfl, ?_⟩) ?_; rotate_left; focus (intro w hSw; (try dsimp only at hSw); go_simp; first | done | with_reducible rfl))
          (try simp only [Act.put, List.setIfInBounds_toArray, List.set_cons_zero, List.set_cons_succ])
          first
           | refine tk 1 undef rfl (Or.inr ⟨by rfl, rfl⟩) ?_
           | (refine tk 1 ?_ rfl (Or.inl ⟨by rfl, ?_⟩) ?_; rotate_left; focus (intro w hSw; (try dsimp only at hSw); go_simp; first | done | with_reducible rfl))
          (try simp only [Act.put, List.setIfInBounds_toArray, List.set_cons_zero, List.set_cons_succ])
          first
           | refine tk 2 undef rfl (Or.inr ⟨by rfl, rfl⟩) ?_
           | (refine tk 2 ?_ rfl (Or.inl ⟨by rfl, ?_⟩) ?_; rotate_left; focus (intro w hSw; (try dsimp only at hSw); go_simp; first | done | with_reducible rfl))
          (try simp only [Act.put, List.setIfInBounds_toArray, List.set_cons_zero, List.set_cons_succ])
          first
           | refine tk 3 undef rfl (Or.inr ⟨by rfl, rfl⟩) ?_
           | (refine tk 3 ?_ rfl (Or.inl ⟨by rfl, ?_⟩) ?_; rotate_left; focus (intro w hSw; (try dsimp only at hSw); go_simp; first | done | with_reducible rfl))
          (try simp only [Act.put, List.setIfInBounds_toArray, List.set_cons_zero, List.set_cons_succ])
          first
           | refine tk 4 undef rfl (Or.inr ⟨by rfl, rfl⟩) ?_
           | (refine tk 4 ?_ rfl (Or.inl ⟨by rfl, ?_⟩) ?_; rotate_left; focus (intro w hSw; (try dsimp only at hSw); go_simp; first | done | with_reducible rfl))
          (try simp only [Act.put, List.setIfInBounds_toArray, List.set_cons_zero, List.set_cons_succ])
          first
           | refine tk 5 undef rfl (Or.inr ⟨by rfl, rfl⟩) ?_
           | (refine tk 5 ?_ rfl (Or.inl ⟨by rfl, ?_⟩) ?_; rotate_left; focus (intro w hSw; (try dsimp only at hSw); go_simp; first | done | with_reducible rfl))
          (try simp only [Act.put, List.setIfInBounds_toArray, List.set_cons_zero, List.set_cons_succ])
          first
           | refine tk 6 undef rfl (Or.inr ⟨by rfl, rfl⟩) ?_
           | (refine tk 6 ?_ rfl (Or.inl ⟨by rfl, ?_⟩) ?_; rotate_left; focus (intro w hSw; (try dsimp only at hSw); go_simp; first | done | with_reducible rfl))
          (try simp only [Act.put, List.setIfInBounds_toArray, List.set_cons_zero, List.set_cons_succ])
          first
           | refine tk 7 undef rfl (Or.inr ⟨by rfl, rfl⟩) ?_
           | (refine tk 7 ?_ rfl (Or.inl ⟨by rfl, ?_⟩) ?_; rotate_left; focus (intro w hSw; (try dsimp only at hSw); go_simp; first | done | with_reducible rfl))
          (try simp only [Act.put, List.setIfInBounds_toArray, List.set_cons_zero, List.set_cons_succ])
          first
           | refine tk 8 undef rfl (Or.inr ⟨by rfl, rfl⟩) ?_
           | (refine tk 8 ?_ rfl (Or.inl ⟨by rfl, ?_⟩) ?_; rotate_left; focus (intro w hSw; (try dsimp only at hSw); go_simp; first | done | with_reducible rfl))
          (try simp only [Act.put, List.setIfInBounds_toArray, List.set_cons_zero, List.set_cons_succ])
          first
           | refine tk 9 undef rfl (Or.inr ⟨by rfl, rfl⟩) ?_
           | (refine tk 9 ?_ rfl (Or.inl ⟨by rfl, ?_⟩) ?_; rotate_left; focus (intro w hSw; (try dsimp only at hSw); go_simp; first | done | with_reducible rfl))
          (try simp only [Act.put, List.setIfInBounds_toArray, List.set_cons_zero, List.set_cons_succ])
          first
           | refine tk 10 undef rfl (Or.inr ⟨by rfl, rfl⟩) ?_
           | (refine tk 10 ?_ rfl (Or.inl ⟨by rfl, ?_⟩) ?_; rotate_left; focus (intro w hSw; (try dsimp only at hSw); go_simp; first | done | with_reducible rfl))
          (try simp only [Act.put, List.setIfInBounds_toArray, List.set_cons_zero, List.set_cons_succ])
          first
           | refine tk 11 undef rfl (Or.inr ⟨by rfl, rfl⟩) ?_
           | (refine tk 11 ?_ rfl (Or.inl ⟨by rfl, ?_⟩) ?_; rotate_left; focus (intro w hSw; (try dsimp only at hSw); go_simp; first | done | with_reducible rfl))
          (try simp only [Act.put, List.setIfInBounds_toArray, List.set_cons_zero, List.set_cons_succ])
          first
           | refine tk 12 undef rfl (Or.inr ⟨by rfl, rfl⟩) ?_
           | (refine tk 12 ?_ rfl (Or.inl ⟨by rfl, ?_⟩) ?_; rotate_left; focus (intro w hSw; (try dsimp only at hSw); go_simp; first | done | with_reducible rfl))
          (try simp only [Act.put, List.setIfInBounds_toArray, List.set_cons_zero, List.set_cons_succ])
          first
           | refine tk 13 undef rfl (Or.inr ⟨by rfl, rfl⟩) ?_
           | (refine tk 13 ?_ rfl (Or.inl ⟨by rfl, ?_⟩) ?_; rotate_left; focus (intro w hSw; (try dsimp only at hSw); go_simp; first | done | with_reducible rfl))
          (try simp only [Act.put, List.setIfInBounds_toArray, List.set_cons_zero, List.set_cons_succ])
          refine wpAnyH_done (by kernel_rfl) ?_ _
          have hrd : RB wr.drew R s k 0 := HRB.out
          have hBd : B ≤ wr.drew.heap.size := hBr
          have hsd := HST.out _ _ _ _ HSTk.out (RK.drew R wr)
          have hjd := HJ.out _ _ HJr.out (RK.drew R wr)
          have HKD := Lib.hid (HKB.out.trans (KB.of hBr (RK.drew R wr)))
          go_wp2_with fail
          with_reducible refine (OC wr.drew hrd hsd hjd hBd).mono ?_
          rintro e w3 ⟨rfl, hk3, hr3, hj3, hs3⟩
          have HJ3 := Lib.hid hj3
          have HK3 := Lib.hid (HKD.out.trans hk3)
          have hB3 : B ≤ w3.heap.size := Nat.le_trans hBr hk3.size
          clear hrd hsd hjd hj3 c0 c1 c2 z1 z2
          obtain ⟨d0, d1, d2, y1, y2⟩ := hr3.cells
          have HR3 := Lib.hid hr3
          clear hr3 hk3
          by_cases he1 : e1 = 0
          · subst he1
            rw [if_neg (by simp)] at hl
            obtain ⟨hst1, hk1⟩ := hs3 rfl
            have HST1 := Lib.hid hst1
            have hbl : blkA s k1 ≤ s.length := blkA_le hk1
            have BLK := fun w h => (BL k1 hk1 w h).out
            clear hs3 hst1
            generalize hbq : blkA s k1 = b at *
            go_wp2_with fail
            with_reducible refine (BLK _ HR3.out).mono ?_
            rintro e w4 ⟨rfl, hk4, hr4⟩
            have HR4 := Lib.hid hr4
            have HJ4 := Lib.hid (HJ.out _ _ HJ3.out hk4)
            have HK4 := Lib.hid (HK3.out.trans (KB.of hB3 hk4))
            have hB4 := Nat.le_trans hB3 hk4.size
            have HS4 := Lib.hid (HST.out _ _ _ _ HST1.out hk4)
            clear hr4 hk4 d0 d1 d2 y1 y2
            have EQ := fun w1 h => (EN b hbl w1 h).out
            unfold EndE at EQ
            by_cases hc : s[b]? = some cl
            · rw [if_pos hc] at hl
              subst hl
              rw [if_pos hc, decide_eq_true hc] at EQ
              have EQH2 := Lib.hid EQ
              clear EQ hc
              go_wp2_with fail
              with_reducible refine (EQH2.out _ HR4.out).mono ?_
              rintro e w5 ⟨rfl, hk5, hr5⟩
              have HR5 := Lib.hid hr5
              have HJ5 := Lib.hid (HJ.out _ _ HJ4.out hk5)
              clear hr5
              go_wp2_with fail
              refine bodyPost_ret (results_none rfl _ _ _) rfl ?_
              exact ⟨rfl, HK4.out.trans (KB.of hB4 hk5), HR5.out, HJ5.out⟩
            rw [if_neg hc] at hl
            rw [if_neg hc, decide_eq_false hc] at EQ
            have EQH2 := Lib.hid EQ
            clear EQ hc
            have SQ := fun w1 h => (S44 b hbl w1 h).out
            unfold SignE at SQ
            by_cases hsg : s[b]? = some 44
            · rw [if_pos hsg] at hl
              rw [if_pos hsg, decide_eq_true hsg] at SQ
              have SQH := Lib.hid SQ
              have hbb : b < s.length := (List.getElem?_eq_some_iff.1 hsg).1
              have hq2 : blkA s (b + 1) ≤ s.length := blkA_le (by omega)
              clear SQ hsg
              go_wp2_with fail
              with_reducible refine (EQH2.out _ HR4.out).mono ?_
              rintro e w5 ⟨rfl, hk5, hr5⟩
              have HR5 := Lib.hid hr5
              have HJ5 := Lib.hid (HJ.out _ _ HJ4.out hk5)
              have HK5 := Lib.hid (HK4.out.trans (KB.of hB4 hk5))
              have hB5 := Nat.le_trans hB4 hk5.size
              have HS5 := Lib.hid (HST.out _ _ _ _ HS4.out hk5)
              clear hr5 hk5
              go_wp2_with fail
              with_reducible refine (SQH.out _ HR5.out).mono ?_
              rintro e w6 ⟨rfl, hk6, hr6⟩
              have HR6 := Lib.hid hr6
              have HJ6 := Lib.hid (HJ.out _ _ HJ5.out hk6)
              have HK6 := Lib.hid (HK5.out.trans (KB.of hB5 hk6))
              have hB6 := Nat.le_trans hB5 hk6.size
              have HS6 := Lib.hid (HST.out _ _ _ _ HS5.out hk6)
              have HL := Lib.hid hl
              clear hr6 hk6 hl
              go_wp2_with fail
              go_roundg gq
              case measure => omega
              case rel => exact ⟨n + 1, blkA s (b + 1), 0, st1, by go_num, HR6.out, HJ6.out, HK6.out, hB6, fun _ => ⟨HS6.out, hq2, by omega, by omega, HL.out⟩, fun h => absurd rfl h⟩
            · rw [if_neg hsg] at hl
              rw [if_neg hsg, decide_eq_false hsg] at SQ
              have SQH := Lib.hid SQ
              have WR := fun w h => (WG b hbl w h).out
              unfold FailE at WR
              simp only [if_true] at WR
              have hF : (if b = s.length then (3 : Int) else 4) ≠ 0 := by split <;> decide
              unfold wrongN at hl
              subst hl
              generalize (if b = s.length then (3 : Int) else 4) = F at *
              have WRH := Lib.hid WR
              clear SQ hsg WR
              go_wp2_with fail
              with_reducible refine (EQH2.out _ HR4.out).mono ?_
              rintro e w5 ⟨rfl, hk5, hr5⟩
              have HR5 := Lib.hid hr5
              have HJ5 := Lib.hid (HJ.out _ _ HJ4.out hk5)
              have HK5 := Lib.hid (HK4.out.trans (KB.of hB4 hk5))
              have hB5 := Nat.le_trans hB4 hk5.size
              clear hr5 hk5
              go_wp2_with fail
              with_reducible refine (SQH.out _ HR5.out).mono ?_
              rintro e w6 ⟨rfl, hk6, hr6⟩
              have HR6 := Lib.hid hr6
              have HJ6 := Lib.hid (HJ.out _ _ HJ5.out hk6)
              have HK6 := Lib.hid (HK5.out.trans (KB.of hB5 hk6))
              have hB6 := Nat.le_trans hB5 hk6.size
              clear hr6 hk6
              go_wp2_with fail
              with_reducible refine (WRH.out _ HR6.out).mono ?_
              rintro e w7 ⟨rfl, hk7, hr7⟩
              have HR7 := Lib.hid hr7
              have HJ7 := Lib.hid (HJ.out _ _ HJ6.out hk7)
              have HK7 := Lib.hid (HK6.out.trans (KB.of hB6 hk7))
              have hB7 := Nat.le_trans hB6 hk7.size
              clear hr7 hk7
              go_wp2_with fail
              go_roundg gq
              case measure => omega
              case rel => exact ⟨n + 1, b, F, st1, by go_num, HR7.out, HJ7.out, HK7.out, hB7, fun h => absurd h hF, fun _ => rfl⟩
          · have e1b : (e1 != 0) = true := by rw [bne_iff_ne]; exact he1
            rw [if_pos he1] at hl
            subst hl
            clear he1 hs3
            go_wp2_with fail
            refine bodyPost_ret (results_none rfl _ _ _) rfl ?_
            exact ⟨rfl, HK3.out, HR3.out, HJ3.out⟩
      · have hr0 := hnz hE
        subst hr0
        have e0 : (E == 0) = false := by rw [beq_eq_false_iff_ne]; exact hE
        clear hz hnz hE
        go_wp2_with fail
        go_end0
        exact ⟨rfl, HKB.out, HRB.out, HJr.out⟩
end Go.Proofs.YtgoelpjkfofbbaaGreatDoor
