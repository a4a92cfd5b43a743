/- Walks: tileid.Zoom; chart.Len, Items, Zooms. -/
import Derived.Test.YtkfococpanailaaGreatDoorGB24
import Derived.Test.YtkfococpanailaaGreatDoorGB16
import Derived.Test.YtkfococpanailaaGreatDoorShelf
namespace Go.Proofs.YtkfococpanailaaGreatDoor
open Go.RowKit Go.Gz Go.Shelf

set_option maxRecDepth 100000
theorem zoom_any (id : Nat) (h : id < 6004799503160661) (w : World) :
    Calls Tryz.prog 163 #[.int .u64 (id : Int)] w fun e w' => e = .returned (.int .i64 (zoomV id)) ∧ Up w w' := by
  have h1 : ¬ (6004799503160661 : Int) ≤ (id : Int) := by omega
  have e1 : IntKind.u64.wrap (3 * (id : Int)) = ((3 * id : Nat) : Int) := by rw [IntWalk.u64_in _ (by omega)]; omega
  obtain ⟨x, hx⟩ : ∃ x, 3 * id + 1 = x := ⟨_, rfl⟩
  have e2 : IntKind.u64.wrap (((3 * id : Nat) : Int) + 1) = (x : Int) := by rw [IntWalk.u64_in _ (by omega)]; omega
  have hz : zoomV id = (((Lib.bitLen x - 1) / 2 : Nat) : Int) := by unfold zoomV; rw [if_neg (by omega), hx]
  have BL := fun w => Lib.hid (Tryz.bits_Len64 (x : Int) w (by omega) (by omega))
  rw [Int.toNat_natCast] at BL
  have hb := Lib.bitLen_le x 54 (by omega) (by omega)
  have hp := bitLen_mono (a := 1) (b := x) (by omega) (by omega) (by omega)
  have hp1 : Lib.bitLen 1 = 1 := by decide
  rw [hp1] at hp
  rw [hz]
  generalize Lib.bitLen x = bl at *
  have e3 : IntKind.i64.wrap ((bl : Int) - 1) = ((bl - 1 : Nat) : Int) := by rw [IntWalk.i64_in _ (by omega)]; omega
  generalize 3 * id = y at *
  obtain ⟨z, hz2⟩ : ∃ z, bl - 1 = z := ⟨_, rfl⟩
  rw [hz2] at e3 ⊢
  have e4 : IntKind.i64.wrap ((z : Int).tdiv 2) = ((z / 2 : Nat) : Int) := by
    rw [show (z : Int).tdiv 2 = ((z / 2 : Nat) : Int) from rfl]
    exact IntWalk.i64_in _ (by omega)
  have hzl : z ≤ 54 := by omega
  clear hx hb hp hp1 hz hz2
  go_enter Tryz.func163, Tryz.ntmps163
  go_wp2_with fail
  refine (BL _).out.mono ?_
  rintro e w1 ⟨rfl, rfl⟩
  go_wp2_with fail
  go_ret
  exact ⟨ret_int (by omega), Up.refl _⟩
theorem len_any (A : Option Addr) (n c : Nat) (w : World) :
    Calls Tryz.prog 14 #[.agg #[.slice A n c]] w fun e w' => e = .returned (.int .i64 (n : Int)) ∧ Up w w' := by
  go_enter Tryz.func14, Tryz.ntmps14
  go_wp2_with fail
  go_ret
  exact ⟨rfl, (Up.refl w).alloc _⟩
theorem items_any (L : Items) (hl : L.length ≤ 100000) (A : Option Addr) (c : Nat) (w : World) (hr : Rd w 2 A L.length c (itV L)) :
    Calls Tryz.prog 17 #[.agg #[.slice A L.length c]] w (OwnE w 37 2 L.length (itV L)) := by
  have CL := fun w hr => Lib.hid (cloneCh_any A L.length c (itV L) (itV_one _) (by omega) w hr)
  have HR := Lib.hid hr
  clear hr
  generalize L.length = n at *
  go_enter Tryz.func17, Tryz.ntmps17
  go_wp2_with fail
  refine (CL _ (HR.out.up ((Up.refl w).alloc _))).out.mono ?_
  rintro e w1 ⟨v1, rfl, ho1, hu1⟩
  go_wp2_with fail
  go_ret
  exact ⟨_, rfl, own_low' ho1 (by simp), ((Up.refl w).alloc _).trans hu1⟩
end Go.Proofs.YtkfococpanailaaGreatDoor
