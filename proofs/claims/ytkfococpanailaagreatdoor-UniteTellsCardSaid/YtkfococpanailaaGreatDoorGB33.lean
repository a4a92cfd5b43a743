/- Walk: gazetteerlaw48.UniteTells. -/
import Derived.Test.YtkfococpanailaaGreatDoorGB31
import Derived.Test.YtkfococpanailaaGreatDoorGB32
import Derived.Test.YtkfococpanailaaGreatDoorGB08
namespace Go.Proofs.YtkfococpanailaaGreatDoor
open Go.RowKit Go.Gz Go.Shelf

set_option maxRecDepth 100000
set_option maxHeartbeats 16000000 in
theorem utells48 (a b : Items) (hxa : ∀ x ∈ a, x.2.length ≤ 9223372036854775807) (hxb : ∀ x ∈ b, x.2.length ≤ 9223372036854775807) (Aa : Option Addr) (ca : Nat) (Ab : Option Addr) (cb : Nat) (w : World) (hra : Rd w 2 Aa a.length ca (itV a)) (hrb : Rd w 2 Ab b.length cb (itV b)) :
    Calls Tryz.prog 4 #[.slice Aa a.length ca, .slice Ab b.length cb] w fun e w' => e = .returned (.bool true) ∧ Up w w' := by
  have OVa : ∀ w, Rd w 2 Aa a.length ca (itV a) → Hid (Calls Tryz.prog 18 #[.slice Aa a.length ca, .int .i64 60, .int .i64 3000] w (OverEnd (a.length ≤ 60 ∧ sumL a ≤ 3000) w)) := fun w hr => Lib.hid (over12_any a 60 3000 (by decide) hxa Aa ca w hr)
  have OVb : ∀ w, Rd w 2 Ab b.length cb (itV b) → Hid (Calls Tryz.prog 18 #[.slice Ab b.length cb, .int .i64 60, .int .i64 3000] w (OverEnd (b.length ≤ 60 ∧ sumL b ≤ 3000) w)) := fun w hr => Lib.hid (over12_any b 60 3000 (by decide) hxb Ab cb w hr)
  have AW := fun w => Lib.hid (awake48 w)
  have HRA := Lib.hid hra
  have HRB := Lib.hid hrb
  have HU := Lib.hid (Up.refl w)
  clear hra hrb hxa hxb
  go_enter Tryz.func4, Tryz.ntmps4
  go_wp2_with fail
  with_reducible refine (OVa _ HRA.out).out.mono ?_
  rintro e w1 ⟨b1, rfl, hb, rfl⟩
  cases b1 with
  | true =>
    go_wp2_with fail
    with_reducible refine (AW _).out.mono ?_
    rintro e w2 ⟨rfl, hu2⟩
    go_wp2_with fail
    go_ret
    exact ⟨rfl, HU.out.trans hu2⟩
  | false =>
  obtain ⟨hla, _⟩ := hb rfl
  clear hb OVa
  go_wp2_with fail
  with_reducible refine (OVb _ HRB.out).out.mono ?_
  rintro e w1 ⟨b1, rfl, hb, rfl⟩
  cases b1 with
  | true =>
    go_wp2_with fail
    with_reducible refine (AW _).out.mono ?_
    rintro e w2 ⟨rfl, hu2⟩
    go_wp2_with fail
    go_ret
    exact ⟨rfl, HU.out.trans hu2⟩
  | false =>
  obtain ⟨hlb, _⟩ := hb rfl
  clear hb OVb
  have OWa := fun w hr => Lib.hid (own12_any a (by omega) Aa ca w hr)
  have OWb := fun w hr => Lib.hid (own12_any b (by omega) Ab cb w hr)
  unfold OwnEnd at OWa OWb
  have ga := good_own a (by omega)
  have gb := good_own b (by omega)
  have la := own_len a
  have lb := own_len b
  generalize ownL a = L at *
  generalize ownL b = M at *
  have sl := some_len L M false
  have sl2 := some_len L M true
  have ol := over_len_le L M
  have OV := fun A1 c1 A2 c2 w h1 h2 => Lib.hid (over48_ok L M ga gb (by omega) A1 c1 A2 c2 w h1 h2)
  have RO := fun A1 c1 A2 c2 w h1 h2 => Lib.hid (rover48_any L M (good_fit gb).ok (by omega) A1 c1 A2 c2 w h1 h2)
  have ON := fun A1 c1 A2 c2 w h1 h2 => Lib.hid (only48_any L M ga ga.len gb.srt (by omega) A1 c1 A2 c2 w h1 h2)
  have BO := fun A1 c1 A2 c2 w h1 h2 => Lib.hid (both48_any L M ga ga.len gb.srt (by omega) A1 c1 A2 c2 w h1 h2)
  have RN := fun A1 c1 A2 c2 w h1 h2 => Lib.hid (ronly48_any L M (by omega) (by omega) A1 c1 A2 c2 w h1 h2)
  have RB := fun A1 c1 A2 c2 w h1 h2 => Lib.hid (rboth48_any L M (by omega) (by omega) A1 c1 A2 c2 w h1 h2)
  have IT := fun (S : Items) (hS : S.length ≤ 100000) A c w hr => Lib.hid (items_any S hS A c w hr)
  have BK := fun (S : Items) (hS : S.length ≤ 100000) A c w hr => Lib.hid (back12_any S hS A c w hr)
  have SM := fun (S : Items) (hS : S.length ≤ 1000000) A1 c1 A2 c2 w h1 h2 => Lib.hid (rsame12_any S hS A1 c1 A2 c2 w h1 h2)
  unfold OfEnd at OV
  unfold PutEnd at RO
  unfold ChaE at ON BO
  unfold DelEnd OwnR at RN RB BK
  unfold OwnE at IT
  generalize overL L M = V at *
  generalize someL L M false = S at *
  generalize someL L M true = T at *
  go_wp2_with fail
  with_reducible refine (OWa _ HRA.out).out.mono ?_
  rintro e y1 ⟨A1, c1, B1, d1, rfl, r1, s1, hu⟩
  have hn := new1 y1 26 (.slice A1 L.length c1)
  have hv := hu.trans hn.1
  replace HRA := Lib.hid (HRA.out.up hv)
  replace HRB := Lib.hid (HRB.out.up hv)
  replace HU := Lib.hid (HU.out.trans hv)
  have kc := hn.2.1
  have HC := Lib.hid (r1.up hn.1)
  have HX := Lib.hid (s1.up hn.1)
  clear hu hv hn r1 s1 OWa
  go_wp2_with fail
  with_reducible refine (OWb _ HRB.out).out.mono ?_
  rintro e y2 ⟨A2, c2, B2, d2, rfl, r1, s1, hu⟩
  have hn := new1 y2 26 (.slice A2 M.length c2)
  have hv := hu.trans hn.1
  replace kc := hv.cell kc
  replace HRA := Lib.hid (HRA.out.up hv)
  replace HRB := Lib.hid (HRB.out.up hv)
  replace HC := Lib.hid (HC.out.up hv)
  replace HX := Lib.hid (HX.out.up hv)
  replace HU := Lib.hid (HU.out.trans hv)
  have kd := hn.2.1
  have HD := Lib.hid (r1.up hn.1)
  have HY := Lib.hid (s1.up hn.1)
  clear hu hv hn r1 s1 OWb
  clear HRA HRB
  go_wp2_with fail
  with_reducible refine (OV _ _ _ _ _ HC.out HD.out).out.mono ?_
  rintro e y3 ⟨A3, c3, rfl, r3, hu⟩
  have hn := new1 y3 26 (.slice A3 V.length c3)
  have hv := hu.trans hn.1
  replace kc := hv.cell kc
  replace kd := hv.cell kd
  replace HC := Lib.hid (HC.out.up hv)
  replace HX := Lib.hid (HX.out.up hv)
  replace HD := Lib.hid (HD.out.up hv)
  replace HY := Lib.hid (HY.out.up hv)
  replace HU := Lib.hid (HU.out.trans hv)
  have ku := hn.2.1
  have HV := Lib.hid (r3.up hn.1)
  clear hu hn hv r3 OV
  go_wp2_with fail
  with_reducible refine (RO _ _ _ _ _ HX.out HY.out).out.mono ?_
  rintro e y4 ⟨A4, c4, rfl, r4, hu⟩
  replace kc := hu.cell kc
  replace kd := hu.cell kd
  replace ku := hu.cell ku
  replace HC := Lib.hid (HC.out.up hu)
  replace HX := Lib.hid (HX.out.up hu)
  replace HD := Lib.hid (HD.out.up hu)
  replace HY := Lib.hid (HY.out.up hu)
  replace HV := Lib.hid (HV.out.up hu)
  replace HU := Lib.hid (HU.out.trans hu)
  have HW := Lib.hid (r4)
  clear hu r4 RO
  go_wp2_with fail
  with_reducible refine (IT V (by omega) _ _ _ HV.out).out.mono ?_
  rintro e y5 ⟨v5, rfl, o5, hu⟩
  replace kc := hu.cell kc
  replace kd := hu.cell kd
  replace ku := hu.cell ku
  replace HC := Lib.hid (HC.out.up hu)
  replace HX := Lib.hid (HX.out.up hu)
  replace HD := Lib.hid (HD.out.up hu)
  replace HY := Lib.hid (HY.out.up hu)
  replace HV := Lib.hid (HV.out.up hu)
  replace HW := Lib.hid (HW.out.up hu)
  replace HU := Lib.hid (HU.out.trans hu)
  clear hu
  obtain ⟨E5, e5, rfl, p5⟩ := Rd.of_own o5
  clear o5
  have HI := Lib.hid p5
  clear p5
  go_wp2_with fail
  with_reducible refine (BK V (by omega) _ _ _ HI.out).out.mono ?_
  rintro e y6 ⟨v5, rfl, o5, hu⟩
  replace kc := hu.cell kc
  replace kd := hu.cell kd
  replace ku := hu.cell ku
  replace HC := Lib.hid (HC.out.up hu)
  replace HX := Lib.hid (HX.out.up hu)
  replace HD := Lib.hid (HD.out.up hu)
  replace HY := Lib.hid (HY.out.up hu)
  replace HV := Lib.hid (HV.out.up hu)
  replace HW := Lib.hid (HW.out.up hu)
  replace HI := Lib.hid (HI.out.up hu)
  replace HU := Lib.hid (HU.out.trans hu)
  clear hu
  obtain ⟨F5, f5, rfl, p5⟩ := Rd.of_own o5
  clear o5 HI
  have HB := Lib.hid p5
  clear p5
  go_wp2_with fail
  with_reducible refine (SM V (by omega) _ _ _ _ _ HB.out HW.out).out.mono ?_
  rintro e y7 ⟨rfl, hu⟩
  replace kc := hu.cell kc
  replace kd := hu.cell kd
  replace ku := hu.cell ku
  replace HC := Lib.hid (HC.out.up hu)
  replace HX := Lib.hid (HX.out.up hu)
  replace HD := Lib.hid (HD.out.up hu)
  replace HY := Lib.hid (HY.out.up hu)
  replace HV := Lib.hid (HV.out.up hu)
  replace HW := Lib.hid (HW.out.up hu)
  replace HB := Lib.hid (HB.out.up hu)
  replace HU := Lib.hid (HU.out.trans hu)
  clear hu
  clear HB HW HV ku
  go_wp2_with fail
  with_reducible refine (ON _ _ _ _ _ HC.out HD.out).out.mono ?_
  rintro e y8 ⟨A6, c6, rfl, r6, hu⟩
  replace kc := hu.cell kc
  replace kd := hu.cell kd
  replace HC := Lib.hid (HC.out.up hu)
  replace HX := Lib.hid (HX.out.up hu)
  replace HD := Lib.hid (HD.out.up hu)
  replace HY := Lib.hid (HY.out.up hu)
  replace HU := Lib.hid (HU.out.trans hu)
  have HO := Lib.hid (r6)
  clear hu r6 ON
  go_wp2_with fail
  with_reducible refine (IT S (by omega) _ _ _ HO.out).out.mono ?_
  rintro e y9 ⟨v6, rfl, o6, hu⟩
  replace kc := hu.cell kc
  replace kd := hu.cell kd
  replace HC := Lib.hid (HC.out.up hu)
  replace HX := Lib.hid (HX.out.up hu)
  replace HD := Lib.hid (HD.out.up hu)
  replace HY := Lib.hid (HY.out.up hu)
  replace HO := Lib.hid (HO.out.up hu)
  replace HU := Lib.hid (HU.out.trans hu)
  clear hu
  obtain ⟨E6, e6, rfl, p6⟩ := Rd.of_own o6
  clear o6
  have HI := Lib.hid p6
  clear p6
  go_wp2_with fail
  with_reducible refine (BK S (by omega) _ _ _ HI.out).out.mono ?_
  rintro e y10 ⟨v6, rfl, o6, hu⟩
  replace kc := hu.cell kc
  replace kd := hu.cell kd
  replace HC := Lib.hid (HC.out.up hu)
  replace HX := Lib.hid (HX.out.up hu)
  replace HD := Lib.hid (HD.out.up hu)
  replace HY := Lib.hid (HY.out.up hu)
  replace HO := Lib.hid (HO.out.up hu)
  replace HI := Lib.hid (HI.out.up hu)
  replace HU := Lib.hid (HU.out.trans hu)
  clear hu
  obtain ⟨F6, f6, rfl, p6⟩ := Rd.of_own o6
  clear o6 HI
  have HB := Lib.hid p6
  clear p6
  go_wp2_with fail
  with_reducible refine (RN _ _ _ _ _ HX.out HY.out).out.mono ?_
  rintro e y11 ⟨x6, rfl, o6, hu⟩
  replace kc := hu.cell kc
  replace kd := hu.cell kd
  replace HC := Lib.hid (HC.out.up hu)
  replace HX := Lib.hid (HX.out.up hu)
  replace HD := Lib.hid (HD.out.up hu)
  replace HY := Lib.hid (HY.out.up hu)
  replace HO := Lib.hid (HO.out.up hu)
  replace HB := Lib.hid (HB.out.up hu)
  replace HU := Lib.hid (HU.out.trans hu)
  clear hu RN
  obtain ⟨G6, g6, rfl, p6⟩ := Rd.of_own o6
  clear o6
  have HQ := Lib.hid p6
  clear p6
  go_wp2_with fail
  with_reducible refine (SM S (by omega) _ _ _ _ _ HB.out HQ.out).out.mono ?_
  rintro e y12 ⟨rfl, hu⟩
  replace kc := hu.cell kc
  replace kd := hu.cell kd
  replace HC := Lib.hid (HC.out.up hu)
  replace HX := Lib.hid (HX.out.up hu)
  replace HD := Lib.hid (HD.out.up hu)
  replace HY := Lib.hid (HY.out.up hu)
  replace HO := Lib.hid (HO.out.up hu)
  replace HB := Lib.hid (HB.out.up hu)
  replace HQ := Lib.hid (HQ.out.up hu)
  replace HU := Lib.hid (HU.out.trans hu)
  clear hu
  clear HB HQ HO
  go_wp2_with fail
  with_reducible refine (BO _ _ _ _ _ HC.out HD.out).out.mono ?_
  rintro e y13 ⟨A7, c7, rfl, r7, hu⟩
  replace kc := hu.cell kc
  replace kd := hu.cell kd
  replace HC := Lib.hid (HC.out.up hu)
  replace HX := Lib.hid (HX.out.up hu)
  replace HD := Lib.hid (HD.out.up hu)
  replace HY := Lib.hid (HY.out.up hu)
  replace HU := Lib.hid (HU.out.trans hu)
  have HO := Lib.hid (r7)
  clear hu r7 BO
  go_wp2_with fail
  with_reducible refine (IT T (by omega) _ _ _ HO.out).out.mono ?_
  rintro e y14 ⟨v7, rfl, o7, hu⟩
  replace kc := hu.cell kc
  replace kd := hu.cell kd
  replace HC := Lib.hid (HC.out.up hu)
  replace HX := Lib.hid (HX.out.up hu)
  replace HD := Lib.hid (HD.out.up hu)
  replace HY := Lib.hid (HY.out.up hu)
  replace HO := Lib.hid (HO.out.up hu)
  replace HU := Lib.hid (HU.out.trans hu)
  clear hu
  obtain ⟨E7, e7, rfl, p7⟩ := Rd.of_own o7
  clear o7
  have HI := Lib.hid p7
  clear p7
  go_wp2_with fail
  with_reducible refine (BK T (by omega) _ _ _ HI.out).out.mono ?_
  rintro e y15 ⟨v7, rfl, o7, hu⟩
  replace kc := hu.cell kc
  replace kd := hu.cell kd
  replace HC := Lib.hid (HC.out.up hu)
  replace HX := Lib.hid (HX.out.up hu)
  replace HD := Lib.hid (HD.out.up hu)
  replace HY := Lib.hid (HY.out.up hu)
  replace HO := Lib.hid (HO.out.up hu)
  replace HI := Lib.hid (HI.out.up hu)
  replace HU := Lib.hid (HU.out.trans hu)
  clear hu
  obtain ⟨F7, f7, rfl, p7⟩ := Rd.of_own o7
  clear o7 HI
  have HB := Lib.hid p7
  clear p7
  go_wp2_with fail
  with_reducible refine (RB _ _ _ _ _ HX.out HY.out).out.mono ?_
  rintro e y16 ⟨x7, rfl, o7, hu⟩
  replace kc := hu.cell kc
  replace kd := hu.cell kd
  replace HC := Lib.hid (HC.out.up hu)
  replace HX := Lib.hid (HX.out.up hu)
  replace HD := Lib.hid (HD.out.up hu)
  replace HY := Lib.hid (HY.out.up hu)
  replace HO := Lib.hid (HO.out.up hu)
  replace HB := Lib.hid (HB.out.up hu)
  replace HU := Lib.hid (HU.out.trans hu)
  clear hu RB
  obtain ⟨G7, g7, rfl, p7⟩ := Rd.of_own o7
  clear o7
  have HQ := Lib.hid p7
  clear p7
  go_wp2_with fail
  with_reducible refine (SM T (by omega) _ _ _ _ _ HB.out HQ.out).out.mono ?_
  rintro e y17 ⟨rfl, hu⟩
  replace kc := hu.cell kc
  replace kd := hu.cell kd
  replace HC := Lib.hid (HC.out.up hu)
  replace HX := Lib.hid (HX.out.up hu)
  replace HD := Lib.hid (HD.out.up hu)
  replace HY := Lib.hid (HY.out.up hu)
  replace HO := Lib.hid (HO.out.up hu)
  replace HB := Lib.hid (HB.out.up hu)
  replace HQ := Lib.hid (HQ.out.up hu)
  replace HU := Lib.hid (HU.out.trans hu)
  clear hu
  clear HB HQ HO
  go_wp2_with fail
  with_reducible refine (AW _).out.mono ?_
  rintro e w2 ⟨rfl, hu2⟩
  go_wp2_with fail
  go_ret
  exact ⟨rfl, HU.out.trans hu2⟩
end Go.Proofs.YtkfococpanailaaGreatDoor
