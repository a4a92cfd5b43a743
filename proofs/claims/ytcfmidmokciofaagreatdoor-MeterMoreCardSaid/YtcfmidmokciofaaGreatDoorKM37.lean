/- Walk: a meter's way: how far a path goes, and by which entry. -/
import Derived.Test.YtcfmidmokciofaaGreatDoorKM10
import Derived.Test.YtcfmidmokciofaaGreatDoorKM12
import Derived.Test.YtcfmidmokciofaaGreatDoorKM13
import Derived.Test.YtcfmidmokciofaaGreatDoorKM02
import Derived.Test.YtcfmidmokciofaaGreatDoorKM20
namespace Go.Gz
/-- how far a path goes, and by which entry -/
def wayV (R : Ents) (L : Items) (s : Bs) : Nat × Ent :=
  if (rt s).2.2 ≠ 0 then (0, zE)
  else
    let id := idV (rt s).1.1 (rt s).1.2.1 (rt s).1.2.2
    if (findE R id).2 = false then (1, (findE R id).1) else if 0 < (findE R id).1.run then (3, (findE R id).1) else if (getL L id).isSome then (4, (findE R id).1) else (2, (findE R id).1)
theorem wayV_leaf {R : Ents} {L : Items} {s : Bs} (h : (wayV R L s).1 = 2 ∨ (wayV R L s).1 = 4) : (wayV R L s).2 ∈ R ∧ (wayV R L s).2.run = 0 := by
  unfold wayV at h ⊢
  by_cases h0 : (rt s).2.2 ≠ 0
  · simp [h0] at h
  · simp only [if_neg h0] at h ⊢
    generalize idV (rt s).1.1 (rt s).1.2.1 (rt s).1.2.2 = id at *
    cases h1 : (findE R id).2 with
    | false => simp [h1] at h
    | true =>
      simp only [h1] at h ⊢
      by_cases h2 : 0 < (findE R id).1.run
      · simp [h2] at h
      · have hm := findE_mem R id h1
        by_cases h3 : (getL L id).isSome = true
        · simp [h2, h3]; exact ⟨hm, by omega⟩
        · simp [h2, h3]; exact ⟨hm, by omega⟩
end Go.Gz
namespace Go.Proofs.YtcfmidmokciofaaGreatDoor
open Go.RowKit Go.Gz
set_option maxRecDepth 100000
theorem results_tc {P : Program} {fn : Func} {p q : Tmp} {ty : TypeId} (h : fn.results = #[.tmp q, .cell p ty]) (tmps : Array Value) (w : World) (g : Nat) (t : TypeId) (cs : Array Value) (fr : Nat × Nat) (d : TypeDesc)
    (hp : tmps.getD p undef = .pointer (some ⟨g, 0, none⟩)) (hg : w.heap[g]? = some (.cells cs t fr))
    (hu : P.underlying ty = some d) (hd : (match d with | .struct _ | .array _ _ => true | _ => false) = true) (hi : (P.info? ty).map (·.size) = some cs.size) :
    (results fn tmps).run P w = .ok (.tuple #[tmps.getD q undef, .agg cs]) w := by
  have hp' : tmps[p]?.getD undef = .pointer (some ⟨g, 0, none⟩) := by simpa using hp
  simp [results, h, hp', asAddr, run_loadVar_row w g t ty cs fr d hg hu hd hi]
/-- what a meter reads lies there -/
structure MtOK (w : World) (A : Option Addr) (L : Items) (cc : Nat) (RA : Option Addr) (R : Ents) (rc : Nat) : Prop where
  ch : Rd w 2 A L.length cc (itV L)
  rt : Rd w 4 RA R.length rc (entV R)
theorem MtOK.up {w w' : World} {A : Option Addr} {L : Items} {cc : Nat} {RA : Option Addr} {R : Ents} {rc : Nat} (h : MtOK w A L cc RA R rc) (u : Up w w') : MtOK w' A L cc RA R rc := ⟨h.ch.up u, h.rt.up u⟩
set_option maxHeartbeats 8000000 in
theorem mway_any (BM : Nat) (A : Option Addr) (L : Items) (cc : Nat) (RA : Option Addr) (R : Ents) (rc : Nat) (kn : Bool) (B : Nat) (tot : Int) (s : Bs) (hs : s.length ≤ 1000000)
    (hl : L.length ≤ 1000000) (hsr : Srt L) (hok : ∀ e ∈ R, okE e) (hrow : rowE R = 0) (hrl : R.length ≤ 1000000) (w : World) (hg : Gl w)
    (hM : w.heap[BM]? = some (.cells (mtC A L.length cc RA R.length rc kn B tot) 41 (0, 0))) (h : MtOK w A L cc RA R rc) :
    Calls Tryz.prog 26 #[.pointer (some ⟨BM, 0, none⟩), .string ⟨s.toArray⟩] w fun e w' => e = .returned (.tuple #[.int .i64 ((wayV R L s).1 : Int), entA (wayV R L s).2]) ∧ Up w w' := by
  have PA := fun w hg => Lib.hid (Parse_any s hs w hg)
  have ID := fun z x y w => Lib.hid (id_any z x y w)
  have FI := fun id w h => Lib.hid (sfind_any R hok hrow hrl id RA rc w h)
  have GE := fun id w h => Lib.hid (cget12_any L hl id A cc hsr w h)
  have HG := Lib.hid hg
  have H := Lib.hid h
  have HM := Lib.hid hM
  clear hok hrow hsr hg h hM hs
  obtain ⟨v, hv⟩ : ∃ v, wayV R L s = v := ⟨_, rfl⟩
  unfold wayV at hv
  have HV := Lib.hid hv
  clear hv
  rw [show wayV R L s = v by unfold wayV; exact HV.out]
  generalize rt s = r at *
  obtain ⟨⟨z, x, y⟩, ext, er⟩ := r
  obtain ⟨vn, ve⟩ := v
  dsimp only at *
  go_enter Tryz.func26, Tryz.ntmps26
  have FIN : ∀ W, Up (w.alloc (.cells #[.int .u64 0, .int .u64 0, .int .u32 0, .int .u32 0] 72)) W → W.heap[w.heap.size]? = some (.cells #[.int .u64 0, .int .u64 0, .int .u32 0, .int .u32 0] 72 (0, 0)) := fun W h => h.obj (heap_alloc_new _ _)
  have HUP : ∀ W v0 v1 v2 v3, Up (w.alloc (.cells #[.int .u64 0, .int .u64 0, .int .u32 0, .int .u32 0] 72)) W → Up w ((((W.setCell ⟨w.heap.size, 0, none⟩ v0).setCell ⟨w.heap.size, 1, none⟩ v1).setCell ⟨w.heap.size, 2, none⟩ v2).setCell ⟨w.heap.size, 3, none⟩ v3) := fun W v0 v1 v2 v3 h =>
    (((((Up.refl w).alloc _ |>.trans h).set (Nat.le_refl _) _).set (Nat.le_refl _) _).set (Nat.le_refl _) _).set (Nat.le_refl _) _
  have hu0 : Up w (w.alloc (.cells #[.int .u64 0, .int .u64 0, .int .u32 0, .int .u32 0] 72)) := (Up.refl w).alloc _
  have FIN := Lib.hid FIN
  have HUP := Lib.hid HUP
  have HU0 := Lib.hid hu0
  generalize hX : w.alloc (.cells #[.int .u64 0, .int .u64 0, .int .u32 0, .int .u32 0] 72) = X at *
  clear hu0
  by_cases her : er = 0
  · subst her
    rw [if_neg (by simp)] at HV
    try dsimp only at HV
    obtain ⟨id, hid⟩ : ∃ i, idV z x y = i := ⟨_, rfl⟩
    rw [hid] at HV
    replace ID := fun w => ID z x y w
    rw [hid] at ID
    replace FI := fun w h => FI id w h
    replace GE := fun w h => GE id w h
    clear hid
    generalize findE R id = f at *
    obtain ⟨⟨f0, f1, f2, f3⟩, is⟩ := f
    generalize getL L id = gt at *
    try dsimp only at HV
    unfold entA at FI
    go_wp2_with fail
    with_reducible refine (PA _ ?_).out.mono ?_
    · exact HG.out.up HU0.out
    rintro e X1 ⟨rfl, hu1⟩
    have HU1 := Lib.hid hu1
    clear hu1 hX
    go_wp2_with fail
    with_reducible refine (ID _).out.mono ?_
    rintro e X2 ⟨rfl, hu2⟩
    have HU2 := Lib.hid ((HU1.out.alloc _).trans hu2)
    obtain ⟨m0, m1, m2, m3, m4, mf⟩ := blk5 (HU2.out.obj (HU0.out.obj HM.out))
    clear hu2 mf
    go_wp2_with fail
    with_reducible refine (FI _ ?_).out.mono ?_
    · exact (H.out.up (HU0.out.trans HU2.out)).rt
    rintro e X3 ⟨rfl, hu3⟩
    have HU3 := Lib.hid (HU2.out.trans hu3)
    obtain ⟨X4, hX4⟩ : ∃ Z, Z = X3.alloc (.cells #[.int .u64 (f0 : Int), .int .u64 (f1 : Int), .int .u32 (f2 : Int), .int .u32 (f3 : Int)] 72) := ⟨_, rfl⟩
    have HU4 := Lib.hid (show Up X X4 by rw [hX4]; exact HU3.out.alloc _)
    have HE4 := Lib.hid (show X4.heap[X3.heap.size]? = some (.cells #[.int .u64 (f0 : Int), .int .u64 (f1 : Int), .int .u32 (f2 : Int), .int .u32 (f3 : Int)] 72 (0, 0)) by rw [hX4]; exact heap_alloc_new _ _)
    have hm3 := HU4.out.obj (HU0.out.obj HM.out)
    rw [hX4] at hm3
    obtain ⟨n0, n1, n2, n3, n4, nf⟩ := blk5 hm3
    clear nf hm3 hu3 m0 m1 m2 m3 m4
    go_wp2_with fail
    rw [← hX4]
    clear hX4
    generalize X3.heap.size = EB at *
    with_reducible refine (GE _ ?_).out.mono ?_
    · exact (H.out.up (HU0.out.trans HU4.out)).ch
    rintro e X5 ⟨rfl, hu5⟩
    have HU5 := Lib.hid (HU4.out.trans hu5)
    obtain ⟨e0, e1, e2, e3, _, _, _, _⟩ := blke4 (hu5.obj HE4.out)
    obtain ⟨z0, z1, z2, z3, g0, g1, g2, g3⟩ := blke4 (FIN.out _ HU5.out)
    clear hu5 n0 n1 n2 n3 n4 PA ID FI GE
    cases is with
    | false =>
      rw [if_pos rfl] at HV
      obtain ⟨rfl, rfl⟩ : 1 = vn ∧ _ = ve := Prod.mk.inj HV.out
      go_wp2_with fail
      go_still_tail 2, (by kernel_rfl)
      change wpList _ _ _ _ _ X5.drew
      go_wp2_with fail
      refine bodyPost_ret (results_tc rfl _ _ w.heap.size _ _ _ _ rfl (set4e (FIN.out X5.drew HU5.out.drew)) Tryz.underlying72 rfl (by kernel_rfl)) rfl ?_
      exact ⟨rfl, HUP.out _ _ _ _ _ HU5.out.drew⟩
    | true =>
      rw [if_neg (by simp)] at HV
      by_cases hr : 0 < f3
      · rw [if_pos hr] at HV
        obtain ⟨rfl, rfl⟩ : 3 = vn ∧ _ = ve := Prod.mk.inj HV.out
        have hrI : (0 : Int) < (f3 : Int) := by omega
        go_wp2_with fail
        go_still_tail 2, (by kernel_rfl)
        change wpList _ _ _ _ _ X5.drew
        go_wp2_with fail
        refine bodyPost_ret (results_tc rfl _ _ w.heap.size _ _ _ _ rfl (set4e (FIN.out X5.drew HU5.out.drew)) Tryz.underlying72 rfl (by kernel_rfl)) rfl ?_
        exact ⟨rfl, HUP.out _ _ _ _ _ HU5.out.drew⟩
      · rw [if_neg hr] at HV
        have hrI : (f3 : Int) ≤ 0 := by omega
        cases hgi : gt.isSome with
        | true =>
          rw [if_pos hgi] at HV
          obtain ⟨rfl, rfl⟩ : 4 = vn ∧ _ = ve := Prod.mk.inj HV.out
          clear hgi
          go_wp2_with fail
          go_still_tail 2, (by kernel_rfl)
          change wpList _ _ _ _ _ X5.drew
          go_wp2_with fail
          refine bodyPost_ret (results_tc rfl _ _ w.heap.size _ _ _ _ rfl (set4e (FIN.out X5.drew HU5.out.drew)) Tryz.underlying72 rfl (by kernel_rfl)) rfl ?_
          exact ⟨rfl, HUP.out _ _ _ _ _ HU5.out.drew⟩
        | false =>
          rw [if_neg (by rw [hgi]; simp)] at HV
          obtain ⟨rfl, rfl⟩ : 2 = vn ∧ _ = ve := Prod.mk.inj HV.out
          clear hgi
          go_wp2_with fail
          go_still_tail 2, (by kernel_rfl)
          change wpList _ _ _ _ _ X5.drew
          go_wp2_with fail
          refine bodyPost_ret (results_tc rfl _ _ w.heap.size _ _ _ _ rfl (set4e (FIN.out X5.drew HU5.out.drew)) Tryz.underlying72 rfl (by kernel_rfl)) rfl ?_
          exact ⟨rfl, HUP.out _ _ _ _ _ HU5.out.drew⟩
  · rw [if_pos her] at HV
    obtain ⟨rfl, rfl⟩ : 0 = vn ∧ _ = ve := Prod.mk.inj HV.out
    go_wp2_with fail
    with_reducible refine (PA _ ?_).out.mono ?_
    · exact HG.out.up HU0.out
    rintro e X1 ⟨rfl, hu1⟩
    have HU1 := Lib.hid (hu1.alloc (.cells #[.int .i64 z, .int .i64 x, .int .i64 y] 138))
    obtain ⟨z0, z1, z2, z3, g0, g1, g2, g3⟩ := blke4 (FIN.out _ HU1.out)
    clear hu1 hX
    go_wp2_with fail
    refine bodyPost_ret (results_tc rfl _ _ w.heap.size _ _ _ _ rfl (set4e (FIN.out _ HU1.out)) Tryz.underlying72 rfl (by kernel_rfl)) rfl ?_
    exact ⟨rfl, HUP.out _ _ _ _ _ HU1.out⟩
end Go.Proofs.YtcfmidmokciofaaGreatDoor
/- Walk: a meter's Ask, Kept, Total, Leaves. -/
namespace Go.Gz
/-- a path's way: how far, and which leaf -/
def wayW (R : Ents) (L : Items) (s : Bs) : Way := ((wayV R L s).1, ((wayV R L s).2.off, (wayV R L s).2.len))
theorem wayV_le (R : Ents) (L : Items) (s : Bs) : (wayV R L s).1 ≤ 4 := by
  unfold wayV
  split
  · simp
  · dsimp only
    split
    · simp
    · split
      · simp
      · split <;> simp
theorem wayV_ok {R : Ents} {L : Items} {s : Bs} (hok : ∀ e ∈ R, okE e) : okE (wayV R L s).2 := by
  have hz : okE zE := by unfold okE zE; simp
  unfold wayV
  split
  · exact hz
  · dsimp only
    generalize idV (rt s).1.1 (rt s).1.2.1 (rt s).1.2.2 = id
    have hf : okE (findE R id).1 := by
      cases h : (findE R id).2 with
      | true => exact hok _ (findE_mem R id h)
      | false =>
        unfold findE at h ⊢
        split
        · exact hz
        · split
          · exact hz
          · rename_i h1 h2; rw [if_neg h1, if_neg h2] at h; cases h
    split
    · exact hf
    · split
      · exact hf
      · split <;> exact hf
end Go.Gz
namespace Go.Proofs.YtcfmidmokciofaaGreatDoor
open Go.RowKit Go.Gz
set_option maxRecDepth 100000
set_option maxHeartbeats 8000000 in
theorem mask_any (BM : Nat) (A : Option Addr) (L : Items) (cc : Nat) (RA : Option Addr) (R : Ents) (rc : Nat) (kn : Bool) (B m most : Nat) (tot : Nat) (K : List NK) (s : Bs) (hs : s.length ≤ 1000000) (htot : tot ≤ 1000000)
    (hl : L.length ≤ 1000000) (hsr : Srt L) (hok : ∀ e ∈ R, okE e) (hrow : rowE R = 0) (hrl : R.length ≤ 1000000) (w : World) (hg : Gl w)
    (hM : w.heap[BM]? = some (.cells (mtC A L.length cc RA R.length rc kn B (tot : Int)) 41 (0, 0))) (h1 : BM ≠ B) (h2 : BM ≠ m) (hK : LruR w B m most K) (hn : (askL most kn K (wayW R L s)).2.2 ≤ 3) (h : MtOK w A L cc RA R rc) :
    Calls Tryz.prog 11 #[.pointer (some ⟨BM, 0, none⟩), .string ⟨s.toArray⟩] w fun e w' => e = .returned (.int .i64 ((askL most kn K (wayW R L s)).2.2 : Int)) ∧ LruR w' B m most (askL most kn K (wayW R L s)).2.1 ∧
      w'.heap[BM]? = some (.cells (mtC A L.length cc RA R.length rc (askL most kn K (wayW R L s)).1 B ((tot + (askL most kn K (wayW R L s)).2.2 : Nat) : Int)) 41 (0, 0)) ∧ Tw [BM, B, m] w w' := by
  have WY := fun w hg hM h => Lib.hid (mway_any BM A L cc RA R rc kn B (tot : Int) s hs hl hsr hok hrow hrl w hg hM h)
  have FI := fun w hM hK => Lib.hid (mfirst_any BM A L.length cc RA R.length rc kn B m most (tot : Int) K w hM h1 h2 hK)
  have LO := fun K k hk w hM hK => Lib.hid (mlook_any BM A L.length cc RA R.length rc true B m most (tot : Int) K k hk w hM h1 h2 hK)
  have hle := wayV_le R L s
  have hvo := wayV_ok (L := L) (s := s) hok
  unfold wayW at hn ⊢
  have HG := Lib.hid hg
  have HM := Lib.hid hM
  have HK := Lib.hid hK
  have H := Lib.hid h
  have hBl : B < w.heap.size := by obtain ⟨c, hc, _⟩ := hK; exact (Array.getElem?_eq_some_iff.1 hc.blk).1
  have hml : m < w.heap.size := by obtain ⟨c, hc, _⟩ := hK; exact mapN_lt hc.map
  have hMl : BM < w.heap.size := (Array.getElem?_eq_some_iff.1 hM).1
  obtain ⟨q0, q1, q2, q3, q4, qf⟩ := blk5 hM
  generalize wayV R L s = v at *
  obtain ⟨far, ⟨x0, x1, x2, x3⟩⟩ := v
  dsimp only at *
  obtain ⟨o1, o2, o3, o4⟩ := hvo
  dsimp only at o1 o2 o3 o4
  have hk : OkK (x1, x2) := ⟨o2, by show x2 < _; omega⟩
  clear hg hM hK h hsr hok hrow qf
  unfold entA at WY
  go_enter Tryz.func11, Tryz.ntmps11
  go_wp2_with fail
  with_reducible refine (WY _ ?_ ?_ ?_).out.mono ?_
  · exact HG.out
  · exact HM.out
  · exact H.out
  rintro e X1 ⟨rfl, hu1⟩
  have HU1 := Lib.hid hu1
  clear hu1 q0 q1 q2 q3 q4 WY
  obtain ⟨X2, hX2⟩ : ∃ Z, Z = X1.alloc (.cells #[.int .u64 (x0 : Int), .int .u64 (x1 : Int), .int .u32 (x2 : Int), .int .u32 (x3 : Int)] 72) := ⟨_, rfl⟩
  have HU2 := Lib.hid (show Up w X2 by rw [hX2]; exact HU1.out.alloc _)
  have HE2 := Lib.hid (show X2.heap[X1.heap.size]? = some (.cells #[.int .u64 (x0 : Int), .int .u64 (x1 : Int), .int .u32 (x2 : Int), .int .u32 (x3 : Int)] 72 (0, 0)) by rw [hX2]; exact heap_alloc_new _ _)
  have hes : w.heap.size ≤ X1.heap.size := HU1.out.size
  by_cases h0 : far = 0
  · subst h0
    go_wp2_with fail
    go_ret
    have e : askL most kn K (0, (x1, x2)) = (kn, K, 0) := rfl
    rw [e]
    rw [← hX2]
    refine ⟨rfl, HK.out.up HU2.out, ?_, Tw.up HU2.out⟩
    exact HU2.out.obj HM.out
  · have h0I : ¬ (far : Int) = 0 := by omega
    go_wp2_with fail
    rw [← hX2]
    clear hX2
    generalize X1.heap.size = EB at *
    with_reducible refine (FI _ ?_ ?_).out.mono ?_
    · exact HU2.out.obj HM.out
    · exact HK.out.up HU2.out
    rintro e X3 ⟨rfl, hl3, hm3, ht3⟩
    have HE3 := Lib.hid (ht3.obj HE2.out (by simp; omega))
    have HL3 := Lib.hid hl3
    have HM3 := Lib.hid hm3
    have HT3 := Lib.hid ((Tw.up HU2.out).trans ht3)
    clear hl3 hm3 ht3 FI
    obtain ⟨n1, hn1⟩ : ∃ n, (firstL most kn K).2 = n := ⟨_, rfl⟩
    obtain ⟨K1, hK1⟩ : ∃ l, (firstL most kn K).1 = l := ⟨_, rfl⟩
    rw [hK1] at HL3
    rw [hn1]
    have hle2 : far = 1 ∨ far = 2 ∨ far = 3 ∨ far = 4 := by omega
    have FIN : ∀ (W : World) (n : Nat) (KK : List NK), W.heap[BM]? = some (.cells (mtC A L.length cc RA R.length rc true B (tot : Int)) 41 (0, 0)) → LruR W B m most KK → Tw [BM, B, m] w W →
        LruR (W.setCell ⟨BM, 4, none⟩ (.int .i64 ((tot : Int) + (n : Int)))) B m most KK ∧ (W.setCell ⟨BM, 4, none⟩ (.int .i64 ((tot : Int) + (n : Int)))).heap[BM]? = some (.cells (mtC A L.length cc RA R.length rc true B ((tot + n : Nat) : Int)) 41 (0, 0)) ∧ Tw [BM, B, m] w (W.setCell ⟨BM, 4, none⟩ (.int .i64 ((tot : Int) + (n : Int)))) := fun W n KK hm hk ht => by
      refine ⟨hk.tw (S := [BM]) ((Tw.refl [BM] W).set (by simp) _ _) (by simp; exact fun e => h1 e.symm) (by simp; exact fun e => h2 e.symm), ?_, ht.set (by simp) _ _⟩
      rw [heap_setCell_same _ _ _ _ _ _ hm]
      simp [mtC]
    have FIN := Lib.hid FIN
    rcases hle2 with rfl | rfl | rfl | rfl
    · have e : askL most kn K (1, (x1, x2)) = (true, K1, n1) := by rw [← hn1, ← hK1]; rfl
      rw [e] at hn
      dsimp only at hn
      have w1 : IntKind.i64.wrap ((tot : Int) + (n1 : Int)) = (tot : Int) + (n1 : Int) := IntWalk.i64_in _ (by omega)
      obtain ⟨q0, q1, q2, q3, q4, qf⟩ := blk5 HM3.out
      have qf4 := qf 4
      have HE := Lib.hid e
      clear qf e
      go_wp2_with fail
      go_ret
      rw [HE.out]
      exact ⟨rfl, FIN.out _ _ _ HM3.out HL3.out HT3.out⟩
    · have e : askL most kn K (2, (x1, x2)) = (true, (lookL most K1 (x1, x2)).1, n1 + 0 + (lookL most K1 (x1, x2)).2) := by rw [← hn1, ← hK1]; rfl
      obtain ⟨⟨K2, n2⟩, hlk⟩ : ∃ lk, lookL most K1 (x1, x2) = lk := ⟨_, rfl⟩
      rw [e, hlk] at hn
      dsimp only at hn
      replace LO := LO K1 (x1, x2) hk
      unfold kV at LO
      rw [hlk] at LO
      dsimp only at LO
      have HE := Lib.hid e
      have HLK := Lib.hid hlk
      have w0 : IntKind.i64.wrap (((n1 + 0 : Nat) : Int) + (n2 : Int)) = ((n1 + 0 + n2 : Nat) : Int) := by rw [IntWalk.i64_in _ (by omega)]; omega
      have w1 : IntKind.i64.wrap ((tot : Int) + ((n1 + 0 + n2 : Nat) : Int)) = (tot : Int) + ((n1 + 0 + n2 : Nat) : Int) := IntWalk.i64_in _ (by omega)
      have w2 : IntKind.u64.wrap (x2 : Int) = (x2 : Int) := IntWalk.u64_in _ (by omega)
      obtain ⟨e0, e1, e2, e3, _, _, _, _⟩ := blke4 HE3.out
      try simp only [Nat.add_zero] at w0 w1
      clear e hlk
      go_wp2_with fail
      with_reducible refine (LO _ ?_ ?_).out.mono ?_
      · exact HM3.out
      · exact HL3.out
      rintro e X4 ⟨rfl, hl4, ht4⟩
      have HM4 := Lib.hid (ht4.obj HM3.out (by simp; exact ⟨h1, h2⟩))
      have HL4 := Lib.hid hl4
      have HT4 := Lib.hid (HT3.out.trans (ht4.mono (by simp)))
      obtain ⟨q0, q1, q2, q3, q4, qf⟩ := blk5 HM4.out
      have qf4 := qf 4
      clear qf hl4 ht4
      go_wp2_with fail
      go_ret
      rw [HE.out, HLK.out]
      exact ⟨rfl, FIN.out _ _ _ HM4.out HL4.out HT4.out⟩
    · have e : askL most kn K (3, (x1, x2)) = (true, K1, n1 + 1) := by rw [← hn1, ← hK1]; rfl
      rw [e] at hn
      dsimp only at hn
      have w0 : IntKind.i64.wrap ((n1 : Int) + 1) = ((n1 + 1 : Nat) : Int) := by rw [IntWalk.i64_in _ (by omega)]; omega
      have w1 : IntKind.i64.wrap ((tot : Int) + ((n1 + 1 : Nat) : Int)) = (tot : Int) + ((n1 + 1 : Nat) : Int) := IntWalk.i64_in _ (by omega)
      obtain ⟨q0, q1, q2, q3, q4, qf⟩ := blk5 HM3.out
      have qf4 := qf 4
      have HE := Lib.hid e
      clear qf e
      go_wp2_with fail
      go_ret
      rw [HE.out]

      exact ⟨rfl, FIN.out _ _ _ HM3.out HL3.out HT3.out⟩
    · have e : askL most kn K (4, (x1, x2)) = (true, (lookL most K1 (x1, x2)).1, n1 + 1 + (lookL most K1 (x1, x2)).2) := by rw [← hn1, ← hK1]; rfl
      obtain ⟨⟨K2, n2⟩, hlk⟩ : ∃ lk, lookL most K1 (x1, x2) = lk := ⟨_, rfl⟩
      rw [e, hlk] at hn
      dsimp only at hn
      replace LO := LO K1 (x1, x2) hk
      unfold kV at LO
      rw [hlk] at LO
      dsimp only at LO
      have HE := Lib.hid e
      have HLK := Lib.hid hlk
      have w0 : IntKind.i64.wrap (((n1 + 1 : Nat) : Int) + (n2 : Int)) = ((n1 + 1 + n2 : Nat) : Int) := by rw [IntWalk.i64_in _ (by omega)]; omega
      have w3 : IntKind.i64.wrap ((n1 : Int) + 1) = ((n1 + 1 : Nat) : Int) := by rw [IntWalk.i64_in _ (by omega)]; omega
      have w1 : IntKind.i64.wrap ((tot : Int) + ((n1 + 1 + n2 : Nat) : Int)) = (tot : Int) + ((n1 + 1 + n2 : Nat) : Int) := IntWalk.i64_in _ (by omega)
      have w2 : IntKind.u64.wrap (x2 : Int) = (x2 : Int) := IntWalk.u64_in _ (by omega)
      obtain ⟨e0, e1, e2, e3, _, _, _, _⟩ := blke4 HE3.out
      try simp only [Nat.add_zero] at w0 w1
      clear e hlk
      go_wp2_with fail
      with_reducible refine (LO _ ?_ ?_).out.mono ?_
      · exact HM3.out
      · exact HL3.out
      rintro e X4 ⟨rfl, hl4, ht4⟩
      have HM4 := Lib.hid (ht4.obj HM3.out (by simp; exact ⟨h1, h2⟩))
      have HL4 := Lib.hid hl4
      have HT4 := Lib.hid (HT3.out.trans (ht4.mono (by simp)))
      obtain ⟨q0, q1, q2, q3, q4, qf⟩ := blk5 HM4.out
      have qf4 := qf 4
      clear qf hl4 ht4
      go_wp2_with fail
      go_ret
      rw [HE.out, HLK.out]
      exact ⟨rfl, FIN.out _ _ _ HM4.out HL4.out HT4.out⟩
end Go.Proofs.YtcfmidmokciofaaGreatDoor
/- Walks: a meter's Kept, Total, Leaves; of no meter. -/
namespace Go.Proofs.YtcfmidmokciofaaGreatDoor
open Go.RowKit Go.Gz
set_option maxRecDepth 100000
set_option maxHeartbeats 2000000 in
theorem mkept_any (BM : Nat) (A : Option Addr) (cl cc : Nat) (RA : Option Addr) (rl rc : Nat) (kn : Bool) (B m most : Nat) (tot : Int) (K : List NK) (w : World)
    (hM : w.heap[BM]? = some (.cells (mtC A cl cc RA rl rc kn B tot) 41 (0, 0))) (h : LruR w B m most K) :
    Calls Tryz.prog 13 #[.pointer (some ⟨BM, 0, none⟩)] w fun e w' => e = .returned (.int .i64 (K.length : Int)) ∧ w' = w := by
  obtain ⟨c, hc, hr⟩ := h
  have LE := Lib.hid (lrulen_any B m most c w hc)
  rw [hr.len] at LE
  obtain ⟨q0, q1, q2, q3, q4, _⟩ := blk5 hM
  clear hc hr hM
  go_enter Tryz.func13, Tryz.ntmps13
  go_wp2_with fail
  with_reducible refine LE.out.mono ?_
  rintro e w' ⟨rfl, rfl⟩
  go_wp2_with fail
  go_ret
  exact ⟨rfl, rfl⟩
theorem mtotal_any (BM : Nat) (A : Option Addr) (cl cc : Nat) (RA : Option Addr) (rl rc : Nat) (kn : Bool) (B : Nat) (tot : Int) (w : World)
    (hM : w.heap[BM]? = some (.cells (mtC A cl cc RA rl rc kn B tot) 41 (0, 0))) :
    Calls Tryz.prog 14 #[.pointer (some ⟨BM, 0, none⟩)] w fun e w' => e = .returned (.int .i64 tot) ∧ w' = w := by
  obtain ⟨q0, q1, q2, q3, q4, _⟩ := blk5 hM
  clear hM
  go_enter Tryz.func14, Tryz.ntmps14
  go_wp2_with fail
  go_ret
  exact ⟨rfl, rfl⟩
theorem mleaves_any (BM : Nat) (A : Option Addr) (cl cc : Nat) (RA : Option Addr) (R : Ents) (rc : Nat) (kn : Bool) (B : Nat) (tot : Int) (hl : R.length ≤ 900000) (w : World)
    (hM : w.heap[BM]? = some (.cells (mtC A cl cc RA R.length rc kn B tot) 41 (0, 0))) (h : Rd w 4 RA R.length rc (entV R)) :
    Calls Tryz.prog 12 #[.pointer (some ⟨BM, 0, none⟩)] w fun e w' => e = .returned (.int .i64 ((R.filter fun e => e.run == 0).length : Int)) ∧ Up w w' := by
  have LE := Lib.hid (sleaves_any R hl RA rc w h)
  obtain ⟨q0, q1, q2, q3, q4, _⟩ := blk5 hM
  clear hM h
  go_enter Tryz.func12, Tryz.ntmps12
  go_wp2_with fail
  with_reducible refine LE.out.mono ?_
  rintro e w' ⟨⟨B, d, rfl⟩, hu⟩
  go_wp2_with fail
  go_ret
  exact ⟨rfl, hu⟩
/-- of no meter -/
theorem mask_nil (s : Bs) (w : World) : Calls Tryz.prog 11 #[.pointer none, .string ⟨s.toArray⟩] w fun e w' => e = .returned (.int .i64 0) ∧ w' = w := by
  go_enter Tryz.func11, Tryz.ntmps11
  go_wp2_with fail
  go_ret
  exact ⟨rfl, rfl⟩
theorem mtotal_nil (w : World) : Calls Tryz.prog 14 #[.pointer none] w fun e w' => e = .returned (.int .i64 0) ∧ w' = w := by
  go_enter Tryz.func14, Tryz.ntmps14
  go_wp2_with fail
  go_ret
  exact ⟨rfl, rfl⟩
theorem mleaves_nil (w : World) : Calls Tryz.prog 12 #[.pointer none] w fun e w' => e = .returned (.int .i64 0) ∧ w' = w := by
  go_enter Tryz.func12, Tryz.ntmps12
  go_wp2_with fail
  go_ret
  exact ⟨rfl, rfl⟩
/-- of the zero meter -/
def mtZ : Array Value := #[.slice none 0 0, .slice none 0 0, .bool false, .pointer none, .int .i64 0]
theorem mask_zero (BM : Nat) (s : Bs) (w : World) (hM : w.heap[BM]? = some (.cells mtZ 41 (0, 0))) : Calls Tryz.prog 11 #[.pointer (some ⟨BM, 0, none⟩), .string ⟨s.toArray⟩] w fun e w' => e = .returned (.int .i64 0) ∧ w' = w := by
  obtain ⟨q0, q1, q2, q3, q4, _⟩ := blk5 hM
  clear hM
  go_enter Tryz.func11, Tryz.ntmps11
  go_wp2_with fail
  go_ret
  exact ⟨rfl, rfl⟩
theorem lrulen_nil (w : World) : Calls Tryz.prog 30 #[.pointer none] w fun e w' => e = .returned (.int .i64 0) ∧ w' = w := by
  go_enter Tryz.func30, Tryz.ntmps30
  go_wp2_with fail
  go_ret
  exact ⟨rfl, rfl⟩
theorem mkept_zero (BM : Nat) (w : World) (hM : w.heap[BM]? = some (.cells mtZ 41 (0, 0))) : Calls Tryz.prog 13 #[.pointer (some ⟨BM, 0, none⟩)] w fun e w' => e = .returned (.int .i64 0) ∧ w' = w := by
  have LE := Lib.hid (lrulen_nil w)
  obtain ⟨q0, q1, q2, q3, q4, _⟩ := blk5 hM
  clear hM
  go_enter Tryz.func13, Tryz.ntmps13
  go_wp2_with fail
  with_reducible refine LE.out.mono ?_
  rintro e w' ⟨rfl, rfl⟩
  go_wp2_with fail
  go_ret
  exact ⟨rfl, rfl⟩
end Go.Proofs.YtcfmidmokciofaaGreatDoor
/- What a meter reads stays as it is behind its own call. -/
namespace Go.Proofs.YtcfmidmokciofaaGreatDoor
open Go.RowKit Go.Gz
set_option maxRecDepth 100000
/-- a list stays where the turned blocks hold no such cell -/
theorem Rd.tw {w w' : World} {S : List Nat} {size n c : Nat} {A : Option Addr} {xs : List Value} (h : Rd w size A n c xs) (t : Tw S w w') (j0 : Nat) (hj : 0 < n → ∃ v0, xs[j0]? = some v0 ∧ ∀ q ∈ S, ∀ o, w.cell? ⟨q, o, none⟩ ≠ some v0) : Rd w' size A n c xs := by
  refine ⟨h.1, h.2.1, h.2.2.1, h.2.2.2.1, fun hn => ?_⟩
  obtain ⟨b, o, e, hc⟩ := h.2.2.2.2 hn
  obtain ⟨v0, h1, h2⟩ := hj hn
  refine ⟨b, o, e, fun j u hu => ?_⟩
  have hcu := hc j u hu
  have hb : b ∉ S := fun hb => h2 b hb _ (hc j0 v0 h1)
  have hlt := World.block_lt_of_cell? _ _ hcu
  unfold World.cell? at hcu ⊢
  rw [t.block b hlt hb]
  exact hcu
/-- a meter's own blocks hold no entry, no item -/
theorem mt_no {w : World} {BM B m most : Nat} {A : Option Addr} {cl cc : Nat} {RA : Option Addr} {rl rc : Nat} {kn : Bool} {tot : Int} {K : List NK}
    (hM : w.heap[BM]? = some (.cells (mtC A cl cc RA rl rc kn B tot) 41 (0, 0))) (hK : LruR w B m most K) :
    ∀ q ∈ [BM, B, m], ∀ o, (∀ z, w.cell? ⟨q, o, none⟩ ≠ some (.int .u32 z)) ∧ (∀ z, w.cell? ⟨q, o, none⟩ ≠ some (.string z)) := by
  intro q hq o
  simp only [List.mem_cons, List.not_mem_nil, or_false] at hq
  obtain ⟨c, hc, _⟩ := hK
  rcases hq with rfl | rfl | rfl
  · have : w.cell? ⟨q, o, none⟩ = (mtC A cl cc RA rl rc kn B tot)[o]? := by simp [World.cell?, hM]
    rw [this]
    unfold mtC
    rcases o with _ | _ | _ | _ | _ | o <;> simp
  · have : w.cell? ⟨q, o, none⟩ = (caC most m c)[o]? := by simp [World.cell?, hc.blk]
    rw [this]
    unfold caC
    rcases o with _ | _ | _ | _ | _ | _ | o <;> simp
  · obtain ⟨es, clock, K', hb, _⟩ := hc.map
    have : w.cell? ⟨q, o, none⟩ = none := by simp [World.cell?, hb]
    rw [this]
    simp
theorem MtOK.tw {w w' : World} {A : Option Addr} {L : Items} {cc : Nat} {RA : Option Addr} {R : Ents} {rc : Nat} (h : MtOK w A L cc RA R rc) {BM B m most : Nat} {A' : Option Addr} {cl' cc' : Nat} {RA' : Option Addr} {rl' rc' : Nat} {kn : Bool} {tot : Int} {K : List NK}
    (hM : w.heap[BM]? = some (.cells (mtC A' cl' cc' RA' rl' rc' kn B tot) 41 (0, 0))) (hK : LruR w B m most K) (t : Tw [BM, B, m] w w') : MtOK w' A L cc RA R rc := by
  have hno := mt_no hM hK
  refine ⟨h.ch.tw t 1 (fun hn => ?_), h.rt.tw t 2 (fun hn => ?_)⟩
  · cases L with
    | nil => simp at hn
    | cons x l => exact ⟨_, rfl, fun q hq o => (hno q hq o).2 _⟩
  · cases R with
    | nil => simp at hn
    | cons x l => exact ⟨_, rfl, fun q hq o => (hno q hq o).1 _⟩
end Go.Proofs.YtcfmidmokciofaaGreatDoor
