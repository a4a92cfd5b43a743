/- MeterMore: the law's walk, given its small example. -/
import Derived.Test.YtcfmidmokciofaaGreatDoorKM38
import Derived.Test.YtcfmidmokciofaaGreatDoorKM37
import Derived.Test.YtcfmidmokciofaaGreatDoorKM20
import Derived.Test.YtcfmidmokciofaaGreatDoorKM39
namespace Go.Gz
/-- the places of a root's leaves -/
def leafK (R : Ents) : List NK := (R.filter fun e => e.run == 0).map fun e => (e.off, e.len)
theorem wayW_leaf {R : Ents} {L : Items} {s : Bs} (h : (wayW R L s).1 = 2 ∨ (wayW R L s).1 = 4) : (wayW R L s).2 ∈ leafK R := by
  obtain ⟨h1, h2⟩ := wayV_leaf h
  exact List.mem_map.2 ⟨_, List.mem_filter.2 ⟨h1, by simp [h2]⟩, rfl⟩
end Go.Gz
namespace Go.Proofs.YtcfmidmokciofaaGreatDoor
open Go.RowKit Go.Gz
set_option maxRecDepth 100000
def Hold (w : World) (BM : Nat) (A : Option Addr) (L : Items) (cc : Nat) (R : Ents) (kn : Bool) (B m most tot : Nat) (K : List NK) : Prop :=
  ∃ RA rc, w.heap[BM]? = some (.cells (mtC A L.length cc RA R.length rc kn B (tot : Int)) 41 (0, 0)) ∧ LruR w B m most K ∧ MtOK w A L cc RA R rc
theorem Hold.lt {w : World} {BM : Nat} {A : Option Addr} {L : Items} {cc : Nat} {R : Ents} {kn : Bool} {B m most tot : Nat} {K : List NK} (h : Hold w BM A L cc R kn B m most tot K) : BM < w.heap.size ∧ B < w.heap.size ∧ m < w.heap.size := by
  obtain ⟨RA, rc, h1, ⟨c, h2, _⟩, _⟩ := h
  exact ⟨(Array.getElem?_eq_some_iff.1 h1).1, (Array.getElem?_eq_some_iff.1 h2.blk).1, mapN_lt h2.map⟩
theorem Hold.up {w w' : World} {BM : Nat} {A : Option Addr} {L : Items} {cc : Nat} {R : Ents} {kn : Bool} {B m most tot : Nat} {K : List NK} (h : Hold w BM A L cc R kn B m most tot K) (u : Up w w') : Hold w' BM A L cc R kn B m most tot K := by
  obtain ⟨RA, rc, h1, h2, h3⟩ := h
  exact ⟨RA, rc, u.obj h1, h2.up u, h3.up u⟩
/-- another meter's call leaves a meter alone -/
theorem Hold.other {w w' : World} {BM BM2 : Nat} {A : Option Addr} {L : Items} {cc : Nat} {R : Ents} {kn kn2 : Bool} {B m most tot B2 m2 most2 tot2 : Nat} {K K2 : List NK} (h : Hold w BM A L cc R kn B m most tot K)
    (h2 : Hold w BM2 A L cc R kn2 B2 m2 most2 tot2 K2) (t : Tw [BM2, B2, m2] w w') (hd : ∀ p ∈ [BM, B, m], ∀ q ∈ [BM2, B2, m2], p ≠ q) : Hold w' BM A L cc R kn B m most tot K := by
  obtain ⟨RA, rc, a1, a2, a3⟩ := h
  obtain ⟨RA2, rc2, b1, b2, b3⟩ := h2
  have hn : ∀ p ∈ [BM, B, m], p ∉ [BM2, B2, m2] := fun p hp hq => hd p hp p hq rfl
  exact ⟨RA, rc, t.obj a1 (hn _ (by simp)), a2.tw t (hn _ (by simp)) (hn _ (by simp)), a3.tw b1 b2 t⟩
/-- a call of a meter -/
theorem hold_ask {w : World} {BM : Nat} {A : Option Addr} {L : Items} {cc : Nat} {R : Ents} {kn : Bool} {B m most tot : Nat} {K : List NK} (s : Bs) (hs : s.length ≤ 1000000) (htot : tot ≤ 1000000)
    (hl : L.length ≤ 1000000) (hsr : Srt L) (hok : ∀ e ∈ R, okE e) (hrow : rowE R = 0) (hrl : R.length ≤ 1000000) (hg : Gl w) (h1 : BM ≠ B) (h2 : BM ≠ m) (h : Hold w BM A L cc R kn B m most tot K) (hn : (askL most kn K (wayW R L s)).2.2 ≤ 3) :
    Calls Tryz.prog 11 #[.pointer (some ⟨BM, 0, none⟩), .string ⟨s.toArray⟩] w fun e w' => e = .returned (.int .i64 ((askL most kn K (wayW R L s)).2.2 : Int)) ∧
      Hold w' BM A L cc R (askL most kn K (wayW R L s)).1 B m most (tot + (askL most kn K (wayW R L s)).2.2) (askL most kn K (wayW R L s)).2.1 ∧ Tw [BM, B, m] w w' := by
  obtain ⟨RA, rc, a1, a2, a3⟩ := h
  refine (mask_any BM A L cc RA R rc kn B m most tot K s hs htot hl hsr hok hrow hrl w hg a1 h1 h2 a2 hn a3).mono ?_
  rintro e w' ⟨rfl, b1, b2, b3⟩
  exact ⟨rfl, ⟨RA, rc, b2, b1, a3.tw a1 a2 b3⟩, b3⟩
theorem hold_new {w w' : World} {A : Option Addr} {L : Items} {c b n : Nat} {e : Ending} (h : NewE w A L c b n e w') (hr : Rd w 2 A L.length c (itV L)) :
    ∃ BM B m, e = .returned (.tuple #[.pointer (some ⟨BM, 0, none⟩), .int .i64 0]) ∧ Hold w' BM A L c (rootV L b) false B m n 0 [] ∧ Up w w' ∧ BM ≠ B ∧ BM ≠ m ∧ w.heap.size ≤ BM ∧ w.heap.size ≤ B ∧ w.heap.size ≤ m := by
  obtain ⟨BM, RA, rc, B, m, h1, h2, h3, h4, h5, h6, h7, h8, h9, h10, _⟩ := h
  exact ⟨BM, B, m, h1, ⟨RA, rc, h2, h4, ⟨hr.up h5, h3⟩⟩, h5, h6, h7, h8, h9, h10⟩
/-- what the loop keeps -/
structure MoR (w : World) (ma mb : Nat × Nat × Nat) (A : Option Addr) (M : Items) (cc : Nat) (R : Ents) (moa k sum : Nat) (wr : World) : Prop where
  ex : ∃ kn La Lb tota cnt, Hold wr ma.1 A M cc R kn ma.2.1 ma.2.2 moa tota La ∧ Hold wr mb.1 A M cc R kn mb.2.1 mb.2.2 64 sum Lb ∧ MInv moa k kn La Lb sum cnt (leafK R) ∧ tota ≤ 3 * k
  up : Up w wr
/-- blocks that differ -/
def Apart (ma mb : Nat × Nat × Nat) : Prop := ∀ p ∈ [ma.1, ma.2.1, ma.2.2], ∀ q ∈ [mb.1, mb.2.1, mb.2.2], p ≠ q
def LawE (w : World) (e : Ending) (w' : World) : Prop := e = .returned (.bool true) ∧ Up w w'
set_option maxHeartbeats 32000000 in
theorem mmore_main (AWX : ∀ w, Gl w → Calls Tryz.prog 8 #[] w fun e w' => e = .returned (.bool true) ∧ Up w w')
    (l : Items) (hx : ∀ x ∈ l, x.2.length ≤ 9223372036854775807) (mo : Nat) (hmo : mo < 256) (ps : List Bs) (A : Option Addr) (c : Nat) (A2 : Option Addr) (c2 : Nat) (w : World) (hg : Gl w) (hr : Rd w 2 A l.length c (itV l)) (hr2 : Rd w 1 A2 ps.length c2 (ps.map strV)) :
    Calls Tryz.prog 3 #[.slice A l.length c, .int .u8 (mo : Int), .slice A2 ps.length c2] w (LawE w) := by
  have OV : ∀ w, Rd w 2 A l.length c (itV l) → Hid (Calls Tryz.prog 6 #[.slice A l.length c, .int .i64 80, .int .i64 4000] w (OverEnd (l.length ≤ 80 ∧ sumL l ≤ 4000) w)) := fun w hr => Lib.hid (over12_any l 80 4000 (by omega) hx A c w hr)
  have OP : ∀ w, Rd w 1 A2 ps.length c2 (ps.map strV) → Hid (Calls Tryz.prog 7 #[.slice A2 ps.length c2, .int .i64 15] w (OverEnd (ps.length ≤ 15 ∧ ∀ k (h : k < ps.length), ps[k].length ≤ 300) w)) := fun w hr => Lib.hid (over35_any ps 15 A2 c2 w hr)
  have AW := fun w hg => Lib.hid (AWX w hg)
  have HG := Lib.hid hg
  have HR := Lib.hid hr
  have HR2 := Lib.hid hr2
  clear hg hr hr2 hx AWX
  go_enter Tryz.func3, Tryz.ntmps3
  go_wp2_with fail
  with_reducible refine (OV _ HR.out).out.mono ?_
  rintro e w1 ⟨b1, rfl, hb, rfl⟩
  cases b1 with
  | true =>
    go_wp2_with fail
    with_reducible refine (AW _ HG.out).out.mono ?_
    rintro e w2 ⟨rfl, hu2⟩
    go_wp2_with fail
    go_ret
    exact ⟨rfl, hu2⟩
  | false =>
    obtain ⟨hl80, hsum⟩ := hb rfl
    clear hb OV
    go_wp2_with fail
    with_reducible refine (OP _ HR2.out).out.mono ?_
    rintro e w1 ⟨b1, rfl, hb, rfl⟩
    cases b1 with
    | true =>
      go_wp2_with fail
      with_reducible refine (AW _ HG.out).out.mono ?_
      rintro e w2 ⟨rfl, hu2⟩
      go_wp2_with fail
      go_ret
      exact ⟨rfl, hu2⟩
    | false =>
      obtain ⟨hp15, hp300⟩ := hb rfl
      clear hb OP
      have OW := fun w hr => Lib.hid (own12_any l (by omega) A c w hr)
      have hgood := good_own l (by omega)
      have htot := total_own l
      have hml := own_len l
      have hsrt := own_srt l
      generalize ownL l = M at *
      obtain ⟨r1, r2, r3⟩ := root_facts hgood (show M.length ≤ 1000 by omega) (show total M ≤ 400000 by omega) (b := 512) (by omega) (by omega)
      have hma : mo % 8 ≤ 7 := by omega
      have NA : ∀ A c w, Gl w → Rd w 2 A M.length c (itV M) → RowKit.Hid (Calls Tryz.prog 10 #[.agg #[.slice A M.length c], .int .i64 512, .int .i64 ((mo % 8 : Nat) : Int)] w (NewE w A M c 512 (mo % 8))) := fun A c w hg hr => Lib.hid (mnew_any M hgood (by omega) (by omega) A c 512 (by omega) (by omega) (mo % 8) (by omega) w hg hr)
      have NB : ∀ A c w, Gl w → Rd w 2 A M.length c (itV M) → RowKit.Hid (Calls Tryz.prog 10 #[.agg #[.slice A M.length c], .int .i64 512, .int .i64 64] w (NewE w A M c 512 64)) := fun A c w hg hr => Lib.hid (mnew_any M hgood (by omega) (by omega) A c 512 (by omega) (by omega) 64 (by omega) w hg hr)
      have HP3 := Lib.hid hp300
      have R1 := Lib.hid r1
      have R2 := Lib.hid r2
      have R3 := Lib.hid r3
      have HS := Lib.hid hsrt
      have hmI : ((mo : Int) % 8) = ((mo % 8 : Nat) : Int) := by omega
      have hmw : IntKind.i64.wrap (mo : Int) = (mo : Int) := IntWalk.i64_in _ (by omega)
      have hml80 : M.length ≤ 1000000 := by omega
      clear hgood htot hsum hp300 r1 r2 r3 hsrt
      generalize hmoa : mo % 8 = moa at *
      go_wp2_with fail
      with_reducible refine (OW _ HR.out).out.mono ?_
      rintro e w2 ⟨A1, c1, A3, c3, rfl, hr3, _, hu2⟩
      have HU2 := Lib.hid (hu2.alloc (.cells #[.slice A1 M.length c1] 29))
      have HR3 := Lib.hid (hr3.up ((Up.refl w2).alloc (.cells #[.slice A1 M.length c1] 29)))
      clear hr3 hu2 OW
      have q2 := heap_alloc_new w2 (.cells #[.slice A1 M.length c1] 29)
      have Q2 := Lib.hid q2
      clear q2
      go_wp2_with fail
      with_reducible refine (NA _ _ _ ?_ ?_).out.mono ?_
      · exact HG.out.up HU2.out
      · exact HR3.out
      rintro e w3 hn3
      obtain ⟨BMa, Ba, ma, rfl, ha3, hu3, na1, na2, na3, na4, na5⟩ := hold_new hn3 HR3.out
      have c3 := (blk_onec (hu3.obj Q2.out)).1
      have HA3 := Lib.hid ha3
      have HU3 := Lib.hid (HU2.out.trans hu3)
      have HR4 := Lib.hid (HR3.out.up hu3)
      clear hn3 ha3 hu3 HR3
      go_wp2_with fail
      with_reducible refine (NB _ _ _ ?_ ?_).out.mono ?_
      · exact HG.out.up HU3.out
      · exact HR4.out
      rintro e w4 hn4
      obtain ⟨BMb, Bb, mb, rfl, hb4, hu4, nb1, nb2, nb3, nb4, nb5⟩ := hold_new hn4 HR4.out
      obtain ⟨la1, la2, la3⟩ := HA3.out.lt
      have HA4 := Lib.hid (HA3.out.up hu4)
      have HB4 := Lib.hid hb4
      have HU4 := Lib.hid (HU3.out.trans hu4)
      clear hn4 hb4 hu4 HA3 c3 NA NB
      have hws := HU2.out.size
      have hws2 : w.heap.size ≤ w2.heap.size + 1 := by simpa using hws
      have HAP : Hid (∀ p ∈ [BMa, Ba, ma], ∀ q ∈ [BMb, Bb, mb], p ≠ q) := Lib.hid (by
        intro p hp q hq
        simp only [List.mem_cons, List.not_mem_nil, or_false] at hp hq
        rcases hp with rfl | rfl | rfl <;> rcases hq with rfl | rfl | rfl <;> omega)
      generalize hRR : rootV M 512 = R at *
      clear hRR
      go_wp2_with fail
      go_loopg [13, 14] ps.length (fun gk f i wr => ∃ k sum : Nat, k + gk = ps.length ∧ f = .int .i64 (sum : Int) ∧ i = .int .i64 (k : Int) ∧ MoR w (BMa, Ba, ma) (BMb, Bb, mb) A1 M c1 R moa k sum wr)
      case atStart => exact ⟨0, 0, by omega, rfl, rfl, ⟨false, [], [], 0, 0, HA4.out, HB4.out, mInv_0 _ _, Nat.zero_le _⟩, HU4.out⟩
      case round =>
        obtain ⟨k, sum, hk, rfl, rfl, ⟨kn, La, Lb, tota, cnt, ha, hb, hi, ht⟩, hup⟩ := hrel
        have HA := Lib.hid ha
        have HB := Lib.hid hb
        have HI := Lib.hid hi
        have HU := Lib.hid hup
        have hs1 := hi.s
        have hs2 := hi.c
        have hs3 := hi.lb
        have hklt : k ≤ 15 := by omega
        have hsb : sum ≤ 60 := by omega
        clear ha hb hi hup HA4 HB4 hs1 hs2 hs3
        dsimp only at HA HB
        by_cases hlt : k < ps.length
        · have hltI : (k : Int) < (ps.length : Int) := by omega
          obtain ⟨g, rfl⟩ : ∃ g, gk = g + 1 := ⟨gk - 1, by omega⟩
          obtain ⟨PB, po, u, rfl, hu, hc1⟩ := (HR2.out.up HU.out).one hlt
          obtain ⟨s, hs⟩ : ∃ s, ps[k]'hlt = s := ⟨_, rfl⟩
          have hs300 := HP3.out k hlt
          rw [hs] at hs300
          rw [List.getElem?_map, List.getElem?_eq_getElem hlt, hs] at hu
          simp only [Option.map_some, strV, Option.some.injEq] at hu
          subst hu
          clear hs
          obtain ⟨cnt', j1, j2, j3, j4⟩ := ask_step HI.out (show k ≤ 20 by omega) (wayW R M s) (fun h => wayW_leaf h)
          have LA := fun w hg h => Lib.hid (hold_ask (w := w) (tot := tota) (A := A1) (cc := c1) s (by omega) (by omega) hml80 HS.out R2.out R1.out (by have := R3.out; omega) hg na1 na2 h j4)
          have LB := fun w hg h => Lib.hid (hold_ask (w := w) (tot := sum) (A := A1) (cc := c1) s (by omega) (by omega) hml80 HS.out R2.out R1.out (by have := R3.out; omega) hg nb1 nb2 h (Nat.le_trans j3 j4))
          obtain ⟨⟨kna, La', n⟩, hla⟩ : ∃ x, askL moa kn La (wayW R M s) = x := ⟨_, rfl⟩
          obtain ⟨⟨knb, Lb', q⟩, hlb⟩ : ∃ x, askL 64 kn Lb (wayW R M s) = x := ⟨_, rfl⟩
          rw [hla] at LA j1 j2 j3 j4
          rw [hlb] at LB j1 j2 j3
          dsimp only at LA LB j1 j2 j3 j4
          subst j2
          have J1 := Lib.hid j1
          have hla2 := j1.la
          clear j1 hla hlb
          have hPBw : PB < w.heap.size := (HR2.out.1 |> fun _ => by
            obtain ⟨b, o, e, hcc⟩ := HR2.out.2.2.2.2 (by omega)
            injection e with e
            injection e with e1 e2
            subst e1
            obtain ⟨v, hv⟩ : ∃ v, (ps.map strV)[0]? = some v := ⟨_, List.getElem?_eq_getElem (by rw [List.length_map]; omega)⟩
            exact World.block_lt_of_cell? _ _ (hcc 0 v hv))
          have HKP : Hid (∀ X S, Tw S wr X → PB ∉ S → X.cell? ⟨PB, po + k, none⟩ = some (.string ⟨s.toArray⟩)) := Lib.hid (fun X S t hS => by
            have hlt2 := World.block_lt_of_cell? _ _ hc1
            unfold World.cell? at hc1 ⊢
            rw [t.block PB hlt2 hS]
            exact hc1)
          go_wp2_with fail
          obtain ⟨la1', la2', la3'⟩ := HA.out.lt
          have hPS : PB ∉ [BMa, Ba, ma] := by simp; omega
          have hPS2 : PB ∉ [BMb, Bb, mb] := by simp; omega
          have HW0 := HKP.out _ [] (Tw.refl _ wr).drew (by simp)
          go_region_held3 (fun w' => w'.cell? ⟨PB, po + k, none⟩ = some (.string ⟨s.toArray⟩))
            (first | assumption | exact HKP.out _ [] (Tw.refl _ wr).drew (by simp) | exact HKP.out _ _ (by assumption) hPS | exact HKP.out _ _ (by assumption) (by simp; omega))
            (first
              | (go_simp
                 go_at_call 11
                 with_reducible refine (LA _ (HG.out.up (HU.out.trans (Up.refl _).drew)) (HA.out.up (Up.refl wr).drew)).out.mono ?_
                 rintro e wa ⟨rfl, ha5, ta5⟩
                 have ta6 : Tw [BMa, Ba, ma] wr wa := (Tw.refl _ wr).drew.trans ta5
                 have hb5 := (HB.out.up (Up.refl wr).drew).other (HA.out.up (Up.refl wr).drew) ta5 (fun p hp q hq e => HAP.out q hq p hp e.symm)
                 have hua := Up.tw HU.out ta6 (by simp; omega))
              | (go_simp
                 go_at_call 11
                 with_reducible refine (LB _ (HG.out.up hua) hb5).out.mono ?_
                 rintro e wb ⟨rfl, hb6, tb6⟩
                 have ha6 := ha5.other hb5 tb6 HAP.out
                 have hub := Up.tw hua tb6 (by simp; omega)
                 have hc6 : wb.cell? ⟨PB, po + k, none⟩ = some (.string ⟨s.toArray⟩) := HKP.out wb [BMa, Ba, ma, BMb, Bb, mb] ((ta6.mono (by intro q hq; simp at hq ⊢; omega)).trans (tb6.mono (by intro q hq; simp at hq ⊢; omega))) (by simp; omega)))
          have HA6 := Lib.hid ha6
          have HB6 := Lib.hid hb6
          have HUB := Lib.hid hub
          obtain ⟨RA, rc, e1, e2, _⟩ := ha6
          have KP := Lib.hid (mkept_any _ _ _ _ _ _ _ _ _ _ _ _ _ wb e1 e2)
          have hqn : (q : Int) ≤ (n : Int) := by omega
          have hn3 : (n : Int) ≤ 3 := by omega
          have hn0 : (0 : Int) ≤ (n : Int) := by omega
          have hlk : (La'.length : Int) ≤ (moa : Int) := by omega
          have wsum : IntKind.i64.wrap ((sum : Int) + (q : Int)) = (sum : Int) + (q : Int) := IntWalk.i64_in _ (by omega)
          have HTT := Lib.hid (show tota + n ≤ 3 * (k + 1) by omega)
          clear e1 e2 ha5 hb5 hb6 ta5 ta6 tb6 hua hub hc6 HW0 LA LB HKP
          go_wp2_with fail
          with_reducible refine KP.out.mono ?_
          rintro e w' ⟨rfl, rfl⟩
          go_wp2_with fail
          go_roundg g
          case measure => omega
          case rel => exact ⟨k + 1, sum + q, by omega, by go_num, by go_num, ⟨kna, La', Lb', tota + n, cnt', HA6.out, HB6.out, J1.out, HTT.out⟩, HUB.out⟩
        · obtain rfl : k = ps.length := by omega
          have hfound := mInv_found HI.out
          have hKl : (leafK R).length = (R.filter fun e => e.run == 0).length := by unfold leafK; rw [List.length_map]
          rw [hKl] at hfound
          have hltI : (ps.length : Int) ≤ (ps.length : Int) := by omega
          obtain ⟨RA, rc, e1, e2, e3⟩ := HB.out
          obtain ⟨X, hX⟩ : ∃ Z, Z = wr.alloc (.cells mtZ 41) := ⟨_, rfl⟩
          have hu : Up wr X := by rw [hX]; exact (Up.refl _).alloc _
          have hz : X.heap[wr.heap.size]? = some (.cells mtZ 41 (0, 0)) := by rw [hX]; exact heap_alloc_new _ _
          have hlv : (R.filter fun e => e.run == 0).length ≤ 4096 := Nat.le_trans (List.length_filter_le _ _) R3.out
          have TT := Lib.hid (mtotal_any _ _ _ _ _ _ _ _ _ _ _ (hu.obj e1))
          have LV := Lib.hid (mleaves_any _ _ _ _ _ _ _ _ _ _ (by have := R3.out; omega) _ (hu.obj e1) (e3.rt.up hu))
          have HZ := Lib.hid hz
          have HUX := Lib.hid (HU.out.trans hu)
          have AN := fun w => Lib.hid (mask_nil [47, 48, 47, 48, 47, 48] w)
          have AZ := fun w h => Lib.hid (mask_zero wr.heap.size [47, 48, 47, 48, 47, 48] w h)
          have TN := fun w => Lib.hid (mtotal_nil w)
          have KZ := fun w h => Lib.hid (mkept_zero wr.heap.size w h)
          have LN := fun w => Lib.hid (mleaves_nil w)
          generalize (R.filter fun e => e.run == 0).length = lv at *
          have v1 : IntKind.i64.wrap ((ps.length : Int) + 1) = (ps.length : Int) + 1 := IntWalk.i64_in _ (by omega)
          have v2 : IntKind.i64.wrap ((ps.length : Int) + 1 + (lv : Int)) = (ps.length : Int) + 1 + (lv : Int) := IntWalk.i64_in _ (by omega)
          have v3 : (sum : Int) ≤ (ps.length : Int) + 1 + (lv : Int) := by omega
          unfold mtZ at hX
          clear e1 e2 e3 hu hz
          go_wp2_with fail
          rw [← hX]
          clear hX
          with_reducible refine TT.out.mono ?_
          rintro e w' ⟨rfl, rfl⟩
          go_wp2_with fail
          with_reducible refine LV.out.mono ?_
          rintro e V ⟨rfl, huV⟩
          have HZV := Lib.hid (huV.obj HZ.out)
          have HUV := Lib.hid (HUX.out.trans huV)
          clear huV
          go_wp2_with fail
          with_reducible refine (AN _).out.mono ?_
          rintro e w' ⟨rfl, rfl⟩
          go_wp2_with fail
          with_reducible refine (AZ _ HZV.out).out.mono ?_
          rintro e w' ⟨rfl, rfl⟩
          go_wp2_with fail
          with_reducible refine (TN _).out.mono ?_
          rintro e w' ⟨rfl, rfl⟩
          go_wp2_with fail
          with_reducible refine (KZ _ HZV.out).out.mono ?_
          rintro e w' ⟨rfl, rfl⟩
          go_wp2_with fail
          with_reducible refine (LN _).out.mono ?_
          rintro e w' ⟨rfl, rfl⟩
          go_wp2_with fail
          with_reducible refine (AW _ (HG.out.up HUV.out)).out.mono ?_
          rintro e w9 ⟨rfl, hu9⟩
          go_wp2_with fail
          go_ret
          exact ⟨rfl, HUV.out.trans hu9⟩
end Go.Proofs.YtcfmidmokciofaaGreatDoor
