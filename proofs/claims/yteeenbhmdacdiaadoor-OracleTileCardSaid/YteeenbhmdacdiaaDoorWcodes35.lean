/- Walk: the law OracleCodes. -/
import Derived.Test.YteeenbhmdacdiaaDoorWawake35
import Derived.Test.YteeenbhmdacdiaaDoorPans35
namespace Go.Proofs.YteeenbhmdacdiaaDoor
open Go.RowKit Go.Gz Go.Maps

set_option maxRecDepth 100000
theorem told_n {w : World} {T : Tolds} {n : Nat} {A : Option Addr} {c : Nat} (hn : T.length = n) (h : Rd w 2 A n c (tdV T)) {k : Nat} (hk : k < T.length) : ∃ b o, A = some ⟨b, o, none⟩ ∧ w.cell? ⟨b, o + k * 2, none⟩ = some (.int .i64 T[k].1) ∧ w.cell? ⟨b, o + k * 2 + 1, none⟩ = some (.string ⟨T[k].2.toArray⟩) := by
  subst hn; exact h.told hk
set_option maxHeartbeats 16000000 in
theorem codes35 (l m : Items) (hxl : ∀ x ∈ l, x.2.length ≤ 9223372036854775807) (hxm : ∀ x ∈ m, x.2.length ≤ 9223372036854775807) (ps : List Bs) (A1 A2 A3 : Option Addr) (c1 c2 c3 : Nat) (w : World) (hg : Gl w)
    (hr1 : Rd w 2 A1 l.length c1 (itV l)) (hr2 : Rd w 2 A2 m.length c2 (itV m)) (hr3 : Rd w 1 A3 ps.length c3 (ps.map strV)) :
    Calls Tryd.prog 11 #[.slice A1 l.length c1, .slice A2 m.length c2, .slice A3 ps.length c3] w fun e w' => e = .returned (.bool true) ∧ Up w w' := by
  have AW := fun w hg => Lib.hid (awake35 w hg)
  have O1 := Lib.hid (over12_any l 60 3000 (by decide) hxl A1 c1 w hr1)
  have O2 := Lib.hid (over12_any m 60 3000 (by decide) hxm A2 c2 w hr2)
  have O3 := Lib.hid (over35_any ps 40 A3 c3 w hr3)
  have HR1 := Lib.hid hr1
  have HR2 := Lib.hid hr2
  have HR3 := Lib.hid hr3
  clear hr1 hr2 hr3 hxl hxm
  go_enter Tryd.func11, Tryd.ntmps11
  go_wp2_with fail
  refine O1.out.mono ?_
  rintro e w1 ⟨b1, rfl, hb1, rfl⟩
  cases b1
  rotate_left
  · clear hb1
    go_wp2_with fail
    refine (AW _ hg).out.mono ?_
    rintro e w1 ⟨rfl, hu⟩
    go_wp2_with fail
    go_ret
    exact ⟨rfl, hu⟩
  obtain ⟨hl, _⟩ := hb1 rfl
  clear hb1 
  go_wp2_with fail
  refine O2.out.mono ?_
  rintro e w1 ⟨b1, rfl, hb1, rfl⟩
  cases b1
  rotate_left
  · clear hb1
    go_wp2_with fail
    refine (AW _ hg).out.mono ?_
    rintro e w1 ⟨rfl, hu⟩
    go_wp2_with fail
    go_ret
    exact ⟨rfl, hu⟩
  obtain ⟨hm, _⟩ := hb1 rfl
  clear hb1
  go_wp2_with fail
  refine O3.out.mono ?_
  rintro e w1 ⟨b1, rfl, hb1, rfl⟩
  cases b1
  rotate_left
  · clear hb1
    go_wp2_with fail
    refine (AW _ hg).out.mono ?_
    rintro e w1 ⟨rfl, hu⟩
    go_wp2_with fail
    go_ret
    exact ⟨rfl, hu⟩
  obtain ⟨hps, hpl⟩ := hb1 rfl
  clear hb1 O1 O2 O3
  have HPL := Lib.hid hpl
  clear hpl
  have OW1 := fun w hr => Lib.hid (own12_any l (by omega) A1 c1 w hr)
  have OW2 := fun w hr => Lib.hid (own12_any m (by omega) A2 c2 w hr)
  have HS1 := Lib.hid (own_srt l)
  have HS2 := Lib.hid (own_srt m)
  have hq1 := own_len l
  have hq2 := own_len m
  have HT := Lib.hid (fun p => ans_two (M := ownL m) (own_ne l) p)
  generalize ownL l = L at *
  generalize ownL m = M at *
  have PL1 := fun A c w hg hr hp => Lib.hid (play_any L (by omega) HS1.out A c ps (by omega) HPL.out A3 c3 w hg hr hp)
  have PL2 := fun A c w hg hr hp => Lib.hid (play_any M (by omega) HS2.out A c ps (by omega) HPL.out A3 c3 w hg hr hp)
  go_wp2_with fail
  refine (OW1 _ HR1.out).out.mono ?_
  rintro e w1 ⟨B1, d1, B1', d1', rfl, k1, _, hu1⟩
  have n1 := new1 w1 69 (.slice B1 L.length d1)
  have HU1 := Lib.hid (hu1.trans n1.1)
  have HK1 := Lib.hid (k1.up n1.1)
  have HC1 := Lib.hid n1.2.1
  clear n1 hu1 k1
  go_wp2_with fail
  refine (OW2 _ (HR2.out.up HU1.out)).out.mono ?_
  rintro e w2 ⟨B2, d2, B2', d2', rfl, k2, _, hu2⟩
  have n2 := new1 w2 69 (.slice B2 M.length d2)
  have HU2 := Lib.hid (HU1.out.trans (hu2.trans n2.1))
  have HK2 := Lib.hid (k2.up n2.1)
  have HK12 := Lib.hid (HK1.out.up (hu2.trans n2.1))
  have hc1 := (hu2.trans n2.1).cell HC1.out
  have hc2 := n2.2.1
  clear n2 hu2 k2
  go_wp2_with fail
  generalize hW : w2.alloc (.cells #[.slice B2 M.length d2] 69) = W at *
  have MK := Lib.hid (fun w' (h : Up W w') => (⟨h, h.cell hc1, h.cell hc2⟩ : Up W w' ∧ w'.cell? ⟨w1.heap.size, 0, none⟩ = some (.slice B1 L.length d1) ∧ w'.cell? ⟨w2.heap.size, 0, none⟩ = some (.slice B2 M.length d2)))
  have hgw := hg.up HU2.out
  have HRW := Lib.hid (HR3.out.up HU2.out)
  clear hW
  go_region_held3 (fun w' => Up W w' ∧ w'.cell? ⟨w1.heap.size, 0, none⟩ = some (.slice B1 L.length d1) ∧ w'.cell? ⟨w2.heap.size, 0, none⟩ = some (.slice B2 M.length d2))
    (first
      | assumption
      | exact MK.out _ (Up.refl _).drew
      | exact MK.out _ (Up.trans (And.left (by assumption)) (by assumption)))
    (first
      | (go_at_call 40; (with_reducible refine (PL1 B1 d1 _ (hgw.up (And.left (by assumption))) (HK12.out.up (And.left (by assumption))) (HRW.out.up (And.left (by assumption)))).out.mono ?_); rintro e w8 ⟨E1, e1, rfl, q1, hu8⟩; have Q1 := Lib.hid q1; clear q1)
      | (go_at_call 40; (with_reducible refine (PL2 B2 d2 _ (hgw.up (And.left (by assumption))) (HK2.out.up (And.left (by assumption))) (HRW.out.up (And.left (by assumption)))).out.mono ?_); rintro e w9 ⟨E2, e2, rfl, q2, hu9⟩; have Q2 := Lib.hid q2; clear q2))
  have HU9 := Lib.hid (HU2.out.trans ((Up.refl W).drew.trans (hu8.trans hu9)))
  have Q1' := Lib.hid (Q1.out.up hu9)
  have H3 := Lib.hid (three_map L ps)
  have HA := Lib.hid (fun k (h : k < (ps.map (ansV L)).length) (h2 : k < (ps.map (ansV M)).length) => (by rw [List.getElem_map, List.getElem_map]; exact HT.out _ : Ans2 (ps.map (ansV L))[k] (ps.map (ansV M))[k]))
  have hl1 : (ps.map (ansV L)).length = ps.length := List.length_map _
  have hl2 : (ps.map (ansV M)).length = ps.length := List.length_map _
  clear hu8 hu9 Q1 HT PL1 PL2 OW1 OW2 MK hc1 hc2 HPL
  generalize ps.map (ansV L) = T at *
  generalize ps.map (ansV M) = S at *
  have HL1 := Lib.hid hl1
  have HL2 := Lib.hid hl2
  have hwf := Lib.hid (fun k (h : k < T.length) => (by rcases H3.out _ (List.getElem_mem h) with e | e | e <;> rw [e] <;> decide : (Lit.int .i64 T[k].1).wf = true))
  have TL := fun w hr => Lib.hid (tally_any T (by omega) hwf.out E1 e1 w hr)
  rw [hl1] at Q1' TL
  rw [hl2] at Q2
  have HQ1 := Q1'
  have hnp : T.length ≤ 40 := by omega
  clear hl1 hl2 Q1'
  go_wp2_with fail
  go_loopg [13] ps.length (fun gk i wr => ∃ k : Nat, k + gk = ps.length ∧ i = .int .i64 k ∧ w9 = wr)
  case atStart => exact ⟨0, by omega, rfl, rfl⟩
  case round =>
    obtain ⟨k, hk, rfl, rfl⟩ := hrel
    by_cases hlt : k < ps.length
    · obtain ⟨g, rfl⟩ : ∃ g, gk = g + 1 := ⟨gk - 1, by omega⟩
      have hk1 : k < T.length := by rw [HL1.out]; exact hlt
      have hk2 : k < S.length := by rw [HL2.out]; exact hlt
      obtain ⟨b, o, rfl, x0, x1⟩ := told_n HL1.out HQ1.out hk1
      obtain ⟨b', o', rfl, y0, y1⟩ := told_n HL2.out Q2.out hk2
      have ha := HA.out k hk1 hk2
      obtain ⟨⟨tc, tb⟩, ht⟩ : ∃ t, T[k]'hk1 = t := ⟨_, rfl⟩
      obtain ⟨⟨sc, sb⟩, hs⟩ : ∃ t, S[k]'hk2 = t := ⟨_, rfl⟩
      rw [ht] at x0 x1 ha
      rw [hs] at y0 y1 ha
      simp only at x0 x1 y0 y1
      have hltI : (k : Int) < (ps.length : Int) := by omega
      unfold Ans2 at ha
      simp only at ha
      clear ht hs hk1 hk2
      rcases ha with ⟨rfl, hne, hn4⟩ | ⟨rfl, rfl, rfl⟩ | ⟨rfl, rfl, hn4⟩
      case' inl => have hbb : (tb == []) = false := by rw [beq_eq_false_iff_ne]; exact hne
      case' inl => have hbn : (tb != []) = true := by rw [bne_iff_ne]; exact hne
      case' inl => have hb4 : (sc == 400) = false := by rw [beq_eq_false_iff_ne]; exact hn4
      case' inl => clear hne hn4
      case' inr.inr => have hb4 : (sc == 400) = false := by rw [beq_eq_false_iff_ne]; exact hn4
      case' inr.inr => clear hn4
      all_goals
        go_wp2_with fail
        go_roundg g
        case measure => omega
        case rel => exact ⟨k + 1, by omega, by go_num, rfl⟩
    · obtain rfl : k = ps.length := by omega
      clear hlt
      go_wp2_with fail
      with_reducible refine (TL _ HQ1.out).out.mono ?_
      rintro e w10 ⟨D0, D, rfl, hown, htal, hu10⟩
      have HU10 := Lib.hid (HU9.out.trans hu10)
      have q2 := looks hown htal 200 (by decide)
      have q4 := looks hown htal 400 (by decide)
      have q5 := looks hown htal 404 (by decide)
      have hsum := cnt_sum T H3.out
      rw [HL1.out] at hsum
      generalize cntT T 200 = a2 at *
      generalize cntT T 400 = a4 at *
      generalize cntT T 404 = a5 at *
      have hb : ((a2 : Int) + (a4 : Int) + (a5 : Int) == (ps.length : Int)) = true := by rw [beq_iff_eq]; omega
      have e1 : IntKind.i64.wrap ((a2 : Int) + (a4 : Int)) = (a2 : Int) + (a4 : Int) := IntWalk.i64_in _ (by omega)
      have e2 : IntKind.i64.wrap ((a2 : Int) + (a4 : Int) + (a5 : Int)) = (a2 : Int) + (a4 : Int) + (a5 : Int) := IntWalk.i64_in _ (by omega)
      clear hsum hown htal hu10
      go_wp2_with fail
      refine (AW _ (hg.up HU10.out)).out.mono ?_
      rintro e w11 ⟨rfl, hu11⟩
      go_wp2_with fail
      go_ret
      exact ⟨rfl, HU10.out.trans hu11⟩
end Go.Proofs.YteeenbhmdacdiaaDoor
