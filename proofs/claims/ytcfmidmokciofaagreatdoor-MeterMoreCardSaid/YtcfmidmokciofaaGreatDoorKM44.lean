/- Walk: gazetteerlaw47.awake. -/
import Derived.Test.YtcfmidmokciofaaGreatDoorKM38
import Derived.Test.YtcfmidmokciofaaGreatDoorKM37
import Derived.Test.YtcfmidmokciofaaGreatDoorKM43
namespace Go.Proofs.YtcfmidmokciofaaGreatDoor
open Go.RowKit Go.Gz
set_option maxRecDepth 100000
theorem plan_low : planN 511 0 [123, 125] = 15 := by unfold planN; rw [if_pos (by omega)]
set_option maxHeartbeats 2000000 in
theorem mnew_low (A : Option Addr) (cl c : Nat) (n : Int) (w : World) (hg : Gl w) :
    Calls Tryz.prog 10 #[.agg #[.slice A cl c], .int .i64 511, .int .i64 n] w fun e w' => e = .returned (.tuple #[.pointer none, .int .i64 15]) ∧ Up w w' := by
  have CK := fun w hg => Lib.hid (pcheck_all 511 0 [123, 125] (by simp) w hg)
  rw [plan_low] at CK
  replace CK : ∀ w, Gl w → RowKit.Hid (Calls Tryz.prog 22 #[.agg #[.int .i64 511, .int .u8 0, .string ⟨#[123, 125]⟩]] w fun e w' => e = .returned (.int .i64 15) ∧ Up w w') := CK
  have HG := Lib.hid hg
  clear hg
  go_enter Tryz.func10, Tryz.ntmps10
  go_wp2_with fail
  with_reducible refine (CK _ (HG.out.up ((Up.refl w).alloc _))).out.mono ?_
  rintro e w1 ⟨rfl, hu1⟩
  go_wp2_with fail
  go_ret2
  exact ⟨rfl, ((Up.refl w).alloc _).trans hu1⟩
theorem lrunew_bad (w : World) :
    Calls Tryz.prog 25 #[.int .i64 65] w fun e w' => e = .returned (.tuple #[.pointer none, .int .i64 2]) ∧ w' = w := by
  go_enter Tryz.func25, Tryz.ntmps25
  go_wp2_with fail
  go_ret2
  exact ⟨rfl, rfl⟩
set_option maxHeartbeats 4000000 in
/-- no room for so many -/
theorem mnew_room (L : Items) (hg : Gz.Good L) (hl : L.length ≤ 1000) (ht : total L ≤ 400000) (A : Option Addr) (c : Nat) (w : World) (hgl : Gl w) (hr : Rd w 2 A L.length c (itV L)) :
    Calls Tryz.prog 10 #[.agg #[.slice A L.length c], .int .i64 512, .int .i64 65] w fun e w' => e = .returned (.tuple #[.pointer none, .int .i64 2]) ∧ Up w w' := by
  obtain ⟨i1, i2, i3, i4, i5, i6, i7, i8⟩ := rows_inv L hg (by omega)
  have hrow1 := rows_row hg (by omega)
  have hok1 := rows_ok hg (by omega)
  have hrun : ∀ e ∈ (rowsL L).1, 1 ≤ e.run := fun e he => (i6 e he).2.1
  have CK := fun w hg => Lib.hid (pcheck_all ((512 : Nat) : Int) 0 [123, 125] (by simp) w hg)
  rw [plan_braces 512 (by omega) (by omega)] at CK
  replace CK : ∀ w, Gl w → RowKit.Hid (Calls Tryz.prog 22 #[.agg #[.int .i64 512, .int .u8 0, .string ⟨#[123, 125]⟩]] w fun e w' => e = .returned (.int .i64 0) ∧ Up w w') := CK
  have RW := fun w hr => Lib.hid (rows_any L hg hl ht A c w hr)
  have SP : ∀ A c w, Rd w 4 A (rowsL L).1.length c (entV (rowsL L).1) → RowKit.Hid (Calls Tryz.prog 24 #[.slice A (rowsL L).1.length c, .int .i64 512] w (SplitE w (splitV (rowsL L).1 512).2.1 (splitV (rowsL L).1 512).2.2.1 (splitV (rowsL L).1 512).2.2.2)) := fun A c w hr => Lib.hid (split_any (rowsL L).1 hok1 (by omega) hrow1 hrun 512 (by omega) (by omega) A c w hr)
  have NL := fun w => Lib.hid (lrunew_bad w)
  unfold RowsE at RW
  unfold SplitE at SP
  have HG := Lib.hid hgl
  have HR := Lib.hid hr
  clear i1 i2 i3 i4 i5 i6 i7 i8 hrow1 hok1 hrun hg ht hgl hr
  generalize (splitV (rowsL L).1 512).2.2.2 = sn at *
  generalize (splitV (rowsL L).1 512).2.2.1 = st at *
  generalize (splitV (rowsL L).1 512).2.1 = R at *
  generalize (rowsL L).2.flatten = rt at *
  generalize (rowsL L).1 = l at *
  go_enter Tryz.func10, Tryz.ntmps10
  go_wp2_with fail
  have HU0 := Lib.hid ((Up.refl w).alloc (.cells #[.slice A L.length c] 29))
  with_reducible refine (CK _ ?_).out.mono ?_
  · exact HG.out.up HU0.out
  rintro e w1 ⟨rfl, hu1⟩
  have HU1 := Lib.hid (HU0.out.trans hu1)
  have q1 := hu1.obj (heap_alloc_new w (.cells #[.slice A L.length c] 29))
  have c1 := (blk_onec q1).1
  clear hu1 q1
  go_wp2_with fail
  with_reducible refine (RW _ ?_).out.mono ?_
  · exact HR.out.up HU1.out
  rintro e w2 ⟨A2, d2, rfl, hr2, hu2⟩
  have HU2 := Lib.hid (HU1.out.trans hu2)
  have HR2 := Lib.hid hr2
  clear hr2 hu2 c1
  go_wp2_with fail
  with_reducible refine (SP _ _ _ ?_).out.mono ?_
  · exact HR2.out
  rintro e w3 ⟨A3, d3, rfl, hr3, hu3⟩
  have HU3 := Lib.hid (HU2.out.trans hu3)
  clear hr3 hu3
  go_wp2_with fail
  with_reducible refine (NL _).out.mono ?_
  rintro e w4 ⟨rfl, rfl⟩
  go_wp2_with fail
  go_ret2
  exact ⟨rfl, HU3.out⟩
def R1m : Ents := [⟨0, 0, 1, 1⟩]
theorem root1 : rootV L1 512 = R1m := by decide +kernel
theorem way1 : wayW R1m L1 [47, 48, 47, 48, 47, 48] = (3, (0, 1)) := by decide +kernel
theorem way2 : wayW R1m L1 [47, 49, 47, 48, 47, 48] = (1, (0, 0)) := by decide +kernel
theorem way3 : wayW R1m L1 [120] = (0, (0, 0)) := by decide +kernel
end Go.Proofs.YtcfmidmokciofaaGreatDoor
