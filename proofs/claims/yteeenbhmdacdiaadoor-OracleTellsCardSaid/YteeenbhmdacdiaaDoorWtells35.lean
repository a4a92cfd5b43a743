/- Walk: the law OracleTells. -/
import Derived.Test.YteeenbhmdacdiaaDoorWcodes35
namespace Go.Proofs.YteeenbhmdacdiaaDoor
open Go.RowKit Go.Gz Go.Maps

set_option maxRecDepth 100000
theorem infoRT : (Tryd.prog.info? 76).map (fun i => (i.zero, i.size, i.bytes)) = some (some (.agg #[.int .i64 0, .string ⟨#[]⟩]), 2, 24) := by kernel_rfl
set_option maxHeartbeats 16000000 in
theorem tells35 (l : Items) (hxl : ∀ x ∈ l, x.2.length ≤ 9223372036854775807) (ps : List Bs) (A1 A3 : Option Addr) (c1 c3 : Nat) (w : World) (hg : Gl w)
    (hr1 : Rd w 2 A1 l.length c1 (itV l)) (hr3 : Rd w 1 A3 ps.length c3 (ps.map strV)) :
    Calls Tryd.prog 10 #[.slice A1 l.length c1, .slice A3 ps.length c3] w fun e w' => e = .returned (.bool true) ∧ Up w w' := by
  have AW := fun w hg => Lib.hid (awake35 w hg)
  have O1 := Lib.hid (over12_any l 60 3000 (by decide) hxl A1 c1 w hr1)
  have O3 := Lib.hid (over35_any ps 40 A3 c3 w hr3)
  obtain ⟨i0, hi, hz0, hz1, hz2⟩ := info_parts infoRT
  have HR1 := Lib.hid hr1
  have HR3 := Lib.hid hr3
  clear hr1 hr3 hxl
  go_enter Tryd.func10, Tryd.ntmps10
  go_wp2_with fail
  refine O1.out.mono ?_
  rintro e w1 ⟨b1, rfl, hb1, rfl⟩
  cases b1
  rotate_left
  · clear hb1
    go_wp2_with fail
    refine (AW _ hg).out.mono ?_
    rintro e w1 ⟨rfl, hu⟩
    go_wp2_with fail
    go_ret
    exact ⟨rfl, hu⟩
  obtain ⟨hl, _⟩ := hb1 rfl
  clear hb1
  go_wp2_with fail
  refine O3.out.mono ?_
  rintro e w1 ⟨b1, rfl, hb1, rfl⟩
  cases b1
  rotate_left
  · clear hb1
    go_wp2_with fail
    refine (AW _ hg).out.mono ?_
    rintro e w1 ⟨rfl, hu⟩
    go_wp2_with fail
    go_ret
    exact ⟨rfl, hu⟩
  obtain ⟨hps, hpl⟩ := hb1 rfl
  clear hb1 O1 O3
  have HPL := Lib.hid hpl
  clear hpl
  have OW1 := fun w hr => Lib.hid (own12_any l (by omega) A1 c1 w hr)
  have HS1 := Lib.hid (own_srt l)
  have hq1 := own_len l
  generalize ownL l = L at *
  have PL1 := fun A c w hg hr hp => Lib.hid (play_any L (by omega) HS1.out A c ps (by omega) HPL.out A3 c3 w hg hr hp)
  have H3 := Lib.hid (three_map L ps)
  have hl1 : (ps.map (ansV L)).length = ps.length := List.length_map _
  have HL1 := Lib.hid hl1
  go_wp2_with fail
  refine (OW1 _ HR1.out).out.mono ?_
  rintro e w1 ⟨B1, d1, B2, d2, rfl, k1, k2, hu1⟩
  have n1 := new1 w1 69 (.slice B1 L.length d1)
  have HU1 := Lib.hid (hu1.trans n1.1)
  have HK1 := Lib.hid (k1.up n1.1)
  have HK2 := Lib.hid (k2.up n1.1)
  have HC1 := Lib.hid n1.2.1
  have v0 := n1.2.1
  clear n1 hu1 k1 k2
  go_wp2_with fail
  refine (PL1 B1 d1 _ (hg.up HU1.out) HK1.out (HR3.out.up HU1.out)).out.mono ?_
  rintro e w2 ⟨E1, e1, rfl, q1, hu2⟩
  rw [hl1] at q1
  clear hl1
  have HU2 := Lib.hid (HU1.out.trans hu2)
  have HQ1 := Lib.hid q1
  have HC2 := Lib.hid (hu2.cell HC1.out)
  have HK12 := Lib.hid (HK1.out.up hu2)
  have HK22 := Lib.hid (HK2.out.up hu2)
  have HR32 := Lib.hid (HR3.out.up HU2.out)
  clear hu2 q1 v0 PL1 OW1
  go_wp2_with fail
  go_loopg [8, 9] ps.length (fun gk v i wr => ∃ k : Nat, k + gk = ps.length ∧ i = .int .i64 k ∧ wr.ownsRow w2.heap.size 76 2 v k (tdV ((ps.take k).map (ansV L))) ∧ Up w2 wr)
  case atStart => exact ⟨0, by omega, rfl, World.ownsRow_nil _ _ _ _, Up.refl w2⟩
  case round =>
    obtain ⟨k, hk, rfl, ho, hu⟩ := hrel
    have HO := Lib.hid ho
    have HU := Lib.hid hu
    by_cases hlt : k < ps.length
    · obtain ⟨g, rfl⟩ : ∃ g, gk = g + 1 := ⟨gk - 1, by omega⟩
      have hpx := HPL.out k hlt
      obtain ⟨b, o, rfl, hw1⟩ := HR32.out.text hlt
      obtain ⟨p, hx⟩ : ∃ p, ps[k]'hlt = p := ⟨_, rfl⟩
      rw [hx] at hw1 hpx
      have hc1 := hu.cell hw1
      have HX := Lib.hid hx
      have hltI : (k : Int) < (ps.length : Int) := by omega
      have RA := fun w hr => Lib.hid (rans_any L (by omega) p (by omega) B2 d2 w hr)
      clear hx ho hw1 hu
      obtain ⟨⟨ac, ab⟩, hav⟩ : ∃ a, ansV L p = a := ⟨_, rfl⟩
      rw [hav] at RA
      simp only at RA
      have HAV := Lib.hid hav
      clear hav
      go_wp2_with fail
      refine (RA _ (HK22.out.up HU.out)).out.mono ?_
      rintro e w3 ⟨rfl, hu1⟩
      have HU1 := Lib.hid (HU.out.trans hu1)
      have HO1 := Lib.hid (own_up HO.out hu1)
      clear hu1 hc1
      go_wp2_with (at_builtin; refine app_one w3 rfl _ _ 74 rfl w2.heap.size 76 i0 _ 2 24 Tryd.underlying74 hi hz0 hz1 hz2 rfl (by decide) _ _ _ HO1.out rfl #[.int .i64 ac, .string ⟨ab.toArray⟩] rfl rfl (by simp [Value.oneCell']) (by omega) (by omega) HU1.out.le ?_; intro v4 w4 ho4 hg4 hb4)
      go_roundg g
      case measure => omega
      case rel =>
        refine ⟨k + 1, by omega, by go_num, ?_, Up.of (Below.trans HU1.out.below hb4)⟩
        have e : (ps.take (k + 1)).map (ansV L) = (ps.take k).map (ansV L) ++ [(ac, ab)] := by
          rw [List.take_succ_eq_append_getElem hlt, List.map_append, HX.out]
          simp only [List.map_cons, List.map_nil, HAV.out]
        rw [e, tdV_app]
        exact ho4
    · obtain rfl : k = ps.length := by omega
      rw [List.take_length] at HO ho
      clear hlt hu ho
      obtain ⟨F, f, rfl, r2⟩ := Rd.of_own HO.out
      have HF := Lib.hid r2
      have HQ3 := Lib.hid (HQ1.out.up HU.out)
      have HC3 := Lib.hid (HU.out.cell HC2.out)
      have HK13 := Lib.hid (HK12.out.up HU.out)
      have HR33 := Lib.hid (HR32.out.up HU.out)
      have HU3 := Lib.hid (HU2.out.trans HU.out)
      have HAT := Lib.hid (fun k (h : k < ps.length) => (by intro h2; rw [List.getElem_map] : ∀ h2, (ps.map (ansV L))[k]'h2 = ansV L (ps[k]'h)))
      clear r2 HO HU HK22 HR32 HQ1 HC2
      obtain ⟨w3, hw3⟩ : ∃ W, W = wr := ⟨_, rfl⟩
      subst hw3
      generalize ps.map (ansV L) = T at *
      go_wp2_with fail
      go_loopg [10] ps.length (fun gk i wr => ∃ k : Nat, k + gk = ps.length ∧ i = .int .i64 k ∧ Up w3 wr)
      case atStart => exact ⟨0, by omega, rfl, Up.refl w3⟩
      case round =>
        obtain ⟨k, hk, rfl, hu⟩ := hrel
        have HU := Lib.hid hu
        by_cases hlt : k < ps.length
        · obtain ⟨g, rfl⟩ : ∃ g, gk = g + 1 := ⟨gk - 1, by omega⟩
          have hpx := HPL.out k hlt
          have hk1 : k < T.length := by rw [HL1.out]; exact hlt
          obtain ⟨b1, o1, rfl, x0, x1⟩ := told_n HL1.out (HQ3.out.up hu) hk1
          obtain ⟨b2, o2, rfl, y0, y1⟩ := told_n HL1.out (HF.out.up hu) hk1
          obtain ⟨b3, o3, rfl, z0⟩ := (HR33.out.up hu).text hlt
          have v0 := hu.cell HC3.out
          have hat := HAT.out k hlt hk1
          obtain ⟨p, hx⟩ : ∃ p, ps[k]'hlt = p := ⟨_, rfl⟩
          obtain ⟨⟨tc, tb⟩, ht⟩ : ∃ t, T[k]'hk1 = t := ⟨_, rfl⟩
          rw [ht] at x0 x1 y0 y1 hat
          rw [hx] at z0 hpx hat
          simp only at x0 x1 y0 y1
          have AN := fun w hg hr => Lib.hid (ans_any L (by omega) HS1.out p (by omega) B1 d1 w hg hr)
          rw [← hat] at AN
          simp only at AN
          have hltI : (k : Int) < (ps.length : Int) := by omega
          have hgw := hg.up (HU3.out.trans hu)
          have HKw := Lib.hid (HK13.out.up hu)
          have MK := Lib.hid (fun w' (h : Up wr w') => (⟨h, h.cell x0, h.cell x1, h.cell y0, h.cell y1, h.cell z0, h.cell v0⟩ : Up wr w' ∧ w'.cell? ⟨b1, o1 + k * 2, none⟩ = some (.int .i64 tc) ∧ w'.cell? ⟨b1, o1 + k * 2 + 1, none⟩ = some (.string ⟨tb.toArray⟩) ∧ w'.cell? ⟨b2, o2 + k * 2, none⟩ = some (.int .i64 tc) ∧ w'.cell? ⟨b2, o2 + k * 2 + 1, none⟩ = some (.string ⟨tb.toArray⟩) ∧ w'.cell? ⟨b3, o3 + k, none⟩ = some (.string ⟨p.toArray⟩) ∧ w'.cell? ⟨w1.heap.size, 0, none⟩ = some (.slice B1 L.length d1)))
          clear hx ht hat hk1 hu
          go_wp2_with fail
          go_region_held3 (fun w' => Up wr w' ∧ w'.cell? ⟨b1, o1 + k * 2, none⟩ = some (.int .i64 tc) ∧ w'.cell? ⟨b1, o1 + k * 2 + 1, none⟩ = some (.string ⟨tb.toArray⟩) ∧ w'.cell? ⟨b2, o2 + k * 2, none⟩ = some (.int .i64 tc) ∧ w'.cell? ⟨b2, o2 + k * 2 + 1, none⟩ = some (.string ⟨tb.toArray⟩) ∧ w'.cell? ⟨b3, o3 + k, none⟩ = some (.string ⟨p.toArray⟩) ∧ w'.cell? ⟨w1.heap.size, 0, none⟩ = some (.slice B1 L.length d1))
            (first
              | assumption
              | exact MK.out _ (Up.refl _).drew
              | exact MK.out _ (Up.trans (And.left (by assumption)) (by assumption)))
            ((go_at_call 42; (with_reducible refine (AN _ (hgw.up (And.left (by assumption))) (HKw.out.up (And.left (by assumption)))).out.mono ?_); rintro e w8 ⟨rfl, hu8⟩))
          have HU8 := Lib.hid (HU.out.trans ((Up.refl wr).drew.trans hu8))
          clear hu8 x0 x1 y0 y1 z0 v0 MK
          go_wp2_with fail
          go_roundg g
          case measure => omega
          case rel => exact ⟨k + 1, by omega, by go_num, HU8.out⟩
        · obtain rfl : k = ps.length := by omega
          have HQw := Lib.hid (HQ3.out.up hu)
          have HFw := Lib.hid (HF.out.up hu)
          have HUw := Lib.hid (HU3.out.trans hu)
          have hwf := Lib.hid (fun k (h : k < T.length) => (by rcases H3.out _ (List.getElem_mem h) with e | e | e <;> rw [e] <;> decide : (Lit.int .i64 T[k].1).wf = true))
          have hnp : T.length ≤ 40 := by rw [HL1.out]; omega
          have TL := fun w hr => Lib.hid (tally_any T (by omega) hwf.out E1 e1 w hr)
          rw [HL1.out] at TL
          clear hlt hu
          go_wp2_with fail
          with_reducible refine (TL _ HQw.out).out.mono ?_
          rintro e w10 ⟨D0, D, rfl, hown, htal, hu10⟩
          have HO := Lib.hid hown
          have HT := Lib.hid htal
          have HU10 := Lib.hid (HUw.out.trans hu10)
          have HF10 := Lib.hid (HFw.out.up hu10)
          have CT := fun code w hr => Lib.hid (count_any T (by omega) code F f w hr)
          rw [HL1.out] at CT
          clear hown htal hu10 TL
          go_wp2_with fail
          go_loopg [12, 13] 500 (fun gk m i wr => ∃ k : Nat, k + gk = 500 ∧ i = .int .i64 (100 + (k : Int)) ∧ m = .int .i64 (sumC T k) ∧ Up w10 wr)
          case atStart => exact ⟨0, by omega, rfl, rfl, Up.refl w10⟩
          case round =>
            obtain ⟨k, hk, rfl, rfl, hu⟩ := hrel
            have HU := Lib.hid hu
            by_cases hlt : k < 500
            · obtain ⟨g, rfl⟩ : ∃ g, gk = g + 1 := ⟨gk - 1, by omega⟩
              have hltI : (100 : Int) + (k : Int) < 600 := by omega
              have hwc : (Lit.int .i64 (100 + (k : Int))).wf = true := wf_small (by omega)
              have hle := cnt_le T (100 + (k : Int))
              have hsl := sumC_le T k
              have hss : sumC T (k + 1) = sumC T k + pos1 (cntT T (100 + (k : Int))) := rfl
              have hlook := looks (map_up HO.out hu) HT.out (100 + (k : Int)) hwc
              have hlook' := looks (map_up HO.out hu.drew) HT.out (100 + (k : Int)) hwc
              have C := fun w hr => CT (100 + (k : Int)) w hr
              have LK := Lib.hid (fun w' (h : Up wr w') => looks (map_up HO.out (HU.out.trans h)) HT.out (100 + (k : Int)) hwc)
              generalize cntT T (100 + (k : Int)) = cc at *
              generalize sumC T k = sk at *
              have HSS := Lib.hid hss
              have hkk : (k : Int) ≤ 500 := by omega
              have e1 : IntKind.i64.wrap ((sk : Int) + 1) = (sk : Int) + 1 := IntWalk.i64_in _ (by omega)
              clear hss hu
              go_wp2_with fail
              go_region_held3 (fun w' => Up wr w' ∧ (Instr.lookup 80 (.map (some D0)) (.int .i64 (100 + (k : Int))) false).run Tryd.prog w' = .ok (.int .i64 cc) w')
                (first
                  | assumption
                  | exact ⟨(Up.refl _).drew, LK.out _ (Up.refl _).drew⟩)
                ((go_at_call 44; (with_reducible refine (C _ (HF10.out.up (HU.out.trans (And.left (by assumption))))).out.mono ?_); rintro e w8 ⟨rfl, rfl⟩))
              all_goals
                by_cases hz : 0 < cc
                · have hzI : (0 : Int) < (cc : Int) := by omega
                  go_wp2_with fail
                  go_roundg g
                  case measure => omega
                  case rel => exact ⟨k + 1, by omega, by go_num, by rw [HSS.out]; unfold pos1; rw [if_pos hz]; go_num, HU.out.drew⟩
                · have hzI : ¬ (0 : Int) < (cc : Int) := by omega
                  go_wp2_with fail
                  go_roundg g
                  case measure => omega
                  case rel => exact ⟨k + 1, by omega, by go_num, by rw [HSS.out]; unfold pos1; rw [if_neg hz]; rfl, HU.out.drew⟩
            · obtain rfl : k = 500 := by omega
              have HUe := Lib.hid (HU10.out.trans hu)
              have hlen := World.ownsMap.len (map_up HO.out hu) Tryd.underlying80 3
              have hsz : Maps.size D = sumC T 500 := by rw [HT.out.2.2.2, sum_all H3.out]
              rw [hsz] at hlen
              generalize sumC T 500 = sk at *
              clear hsz hlt hu
              go_wp2_with fail
              refine (AW _ (hg.up HUe.out)).out.mono ?_
              rintro e w11 ⟨rfl, hu11⟩
              go_wp2_with fail
              go_ret
              exact ⟨rfl, HUe.out.trans hu11⟩
end Go.Proofs.YteeenbhmdacdiaaDoor
