/- Walk: gazetteerlaw19.awake. -/
import Derived.Test.YtcfmidmokciofaaGreatDoorKR34
import Derived.Test.YtcfmidmokciofaaGreatDoorKR40
import Derived.Test.YtcfmidmokciofaaGreatDoorKR43
namespace Go.Proofs.YtcfmidmokciofaaGreatDoor
open Go.RowKit Go.Gz
set_option maxRecDepth 100000
theorem plan1 : planN ((512 : Nat) : Int) 0 [123, 125] = 0 := by decide +kernel
theorem root5 : (dirB (splitV (rowsL L1).1 512).2.1).length = 5 := by decide +kernel
set_option maxHeartbeats 16000000 in
theorem awake19 (w : World) (hg : Gl w) :
    Calls Tryz.prog 15 #[] w fun e w' => e = .returned (.bool true) ∧ Up w w' := by
  have OF := fun b w h => Lib.hid (of1_any b w h);have PG : ∀ A c w, Gl w → Rd w 2 A 1 c (itV L1) → RowKit.Hid (Calls Tryz.prog 17 #[.agg #[.slice A 1 c], .agg #[.int .i64 512, .int .u8 0, .string ⟨#[123, 125]⟩]] w (PressE w (pressV L1 512 0 [123, 125]).2 0)) := fun A c w hg hr => Lib.hid (press_good L1 good1 (by decide) (by decide) A c 512 (by decide) (by decide) 0 (by decide) [123, 125] (by decide) (fun w hg => Lib.hid (pcheck_all ((512 : Nat) : Int) 0 [123, 125] (by decide) w hg)) w hg hr);obtain ⟨H, T, hT, hP, hTl⟩ := press_aud good1 (by decide) (by decide) (b := 512) (kind := 0) (note := [123, 125]) plan1;rw [hT] at PG;unfold PressE at PG;have h5 : H.r1 = 5 := by rw [hP.froot]; exact root5
  have C1 : ∀ w, Gl w → RowKit.Hid (Calls Tryz.prog 16 #[.string ⟨(hdrB H ++ (T ++ [120])).toArray⟩, .int .i64 512] w (AchE w [3])) := fun w hg => Lib.hid (acheck_pressed hP hTl [120] (by decide) 512 (by decide) (by decide) [3] (by decide) (found_three H [120] (by decide) 512 ⟨by decide, by omega⟩) w hg);have C2 : ∀ w, Gl w → RowKit.Hid (Calls Tryz.prog 16 #[.string ⟨(hdrB H ++ (T ++ [])).toArray⟩, .int .i64 4] w (AchE w [6])) := fun w hg => Lib.hid (acheck_pressed hP hTl [] (by decide) 4 (by decide) (by decide) [6] (by decide) (found_six H 4 (by omega)) w hg);have C4 : ∀ w, Gl w → RowKit.Hid (Calls Tryz.prog 16 #[.string ⟨(hdrB H ++ (T ++ [])).toArray⟩, .int .i64 512] w (AchE w [])) := fun w hg => Lib.hid (acheck_pressed hP hTl [] (by decide) 512 (by decide) (by decide) [] (by decide) (found_nil H 512 ⟨by decide, by omega⟩) w hg);have C3 : ∀ w, RowKit.Hid (Calls Tryz.prog 16 #[.string ⟨#[]⟩, .int .i64 512] w (AchE w [1])) := fun w => Lib.hid (acheck_short [] (by decide) 512 w);have G1 : ∀ w, Gl w → RowKit.Hid (Calls Tryz.prog 18 #[.string ⟨(hdrB H ++ (T ++ [])).toArray⟩, .int .i64 512] w fun e w' => e = .returned (.bool true) ∧ Up w w') := fun w hg => Lib.hid (agood_of _ 512 [] C4 w hg);have G2 : ∀ w, Gl w → RowKit.Hid (Calls Tryz.prog 18 #[.string ⟨#[]⟩, .int .i64 512] w fun e w' => e = .returned (.bool false) ∧ Up w w') := fun w hg => Lib.hid (agood_of [] 512 [1] (fun w _ => C3 w) w hg);rw [List.append_nil] at C2 C4 G1;rw [← List.append_assoc] at C1;have hSl : (hdrB H ++ T).length ≤ 1000000000 := by rw [List.length_append, hdrB_len]; omega
  generalize hdrB H ++ T = S at *;rw [← ba_app] at C1;have hcat : ¬ (9223372036854775807 < S.length + 1) := by omega
  unfold AchE at C1 C2 C3 C4;clear hT hP h5 hTl;have HG := Lib.hid hg;clear hg;go_enter Tryz.func15, Tryz.ntmps15;go_wp2_with fail;with_reducible refine (OF _ _ (heap_alloc_new w (.cells #[.int .u64 0, .string ⟨#[120]⟩] 59))).out.mono ?_
  rintro e w1 ⟨A, c, rfl, hr, hu⟩;have HU1 := Lib.hid ((((Up.refl w).alloc (.cells #[.int .u64 0, .string ⟨#[120]⟩] 59)).trans hu).alloc (.cells #[.slice A 1 c] 29));have HR1 := Lib.hid (hr.up ((Up.refl w1).alloc (.cells #[.slice A 1 c] 29)));have Q1 := Lib.hid (heap_alloc_new w1 (.cells #[.slice A 1 c] 29));clear hr hu OF;go_wp2_with fail;with_reducible refine (PG _ _ _ (HG.out.up HU1.out) HR1.out).out.mono ?_
  rintro e w2 ⟨rfl, hu2⟩;have HU2 := Lib.hid (HU1.out.trans hu2);clear hu2 HU1 HR1 Q1 PG;go_wp2_with fail;with_reducible refine (C1 _ (HG.out.up HU2.out)).out.mono ?_
  rintro e w3 ⟨A3, c3, rfl, r3, hu3⟩;have HU3 := Lib.hid (HU2.out.trans hu3);obtain ⟨P3, o3, u3, rfl, hv3, h3⟩ := r3.one (show 0 < 1 by decide);obtain rfl : u3 = .int .u8 3 := by simpa [u8V] using hv3.symm
  rw [Nat.add_zero] at h3;clear hu3 r3 hv3 HU2 C1;go_wp2_with fail;with_reducible refine (C2 _ (HG.out.up HU3.out)).out.mono ?_
  rintro e w4 ⟨A4, c4, rfl, r4, hu4⟩;have HU4 := Lib.hid (HU3.out.trans hu4);obtain ⟨P4, o4, u4, rfl, hv4, h4⟩ := r4.one (show 0 < 1 by decide);obtain rfl : u4 = .int .u8 6 := by simpa [u8V] using hv4.symm
  replace h3 := hu4.cell h3;rw [Nat.add_zero] at h4;clear hu4 r4 hv4 HU3 C2;go_wp2_with fail;with_reducible refine (C3 _).out.mono ?_
  rintro e w5 ⟨A5, c5, rfl, r5, hu5⟩;have HU5 := Lib.hid (HU4.out.trans hu5);obtain ⟨P5, o5, u5, rfl, hv5, h5⟩ := r5.one (show 0 < 1 by decide);obtain rfl : u5 = .int .u8 1 := by simpa [u8V] using hv5.symm
  replace h3 := hu5.cell h3;replace h4 := hu5.cell h4;rw [Nat.add_zero] at h5;clear hu5 r5 hv5 HU4 C3;go_wp2_with fail;with_reducible refine (G1 _ (HG.out.up HU5.out)).out.mono ?_
  rintro e w6 ⟨rfl, hu6⟩;have HU6 := Lib.hid (HU5.out.trans hu6);replace h3 := hu6.cell h3;replace h4 := hu6.cell h4;replace h5 := hu6.cell h5;clear hu6 HU5 G1;go_wp2_with fail;with_reducible refine (C4 _ (HG.out.up HU6.out)).out.mono ?_
  rintro e w7 ⟨A7, c7, rfl, _, hu7⟩;have HU7 := Lib.hid (HU6.out.trans hu7);replace h3 := hu7.cell h3;replace h4 := hu7.cell h4;replace h5 := hu7.cell h5;clear hu7 HU6 C4;go_wp2_with fail;with_reducible refine (G2 _ (HG.out.up HU7.out)).out.mono ?_
  rintro e w8 ⟨rfl, hu8⟩;have HU8 := Lib.hid (HU7.out.trans hu8);clear hu8 HU7 G2 h3 h4 h5;go_wp2_with fail;go_ret;exact ⟨rfl, HU8.out⟩
end Go.Proofs.YtcfmidmokciofaaGreatDoor
