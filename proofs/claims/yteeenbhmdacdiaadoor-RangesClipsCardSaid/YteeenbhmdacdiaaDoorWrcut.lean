/- Walk: the reference's cut. -/
import Derived.Test.YteeenbhmdacdiaaDoorWrtold
import Derived.OwnWalk
namespace Go.Proofs.YteeenbhmdacdiaaDoor
open Go.RowKit Go.Gz

def CRel (l : Bs) (c : UInt8) (i : Value) : Prop := ∃ k : Nat, k ≤ l.length ∧ i = .int .i64 k ∧ ∀ j (h : j < l.length), j < k → l[j] ≠ c
set_option maxHeartbeats 1000000 in
theorem rcut_any (l : Bs) (hl : l.length ≤ 1000000) (c : UInt8) (w : World) :
    Calls Tryd.prog 59 #[.string ⟨l.toArray⟩, .int .u8 (c.toNat : Int)] w fun e w' => e = .returned (.tuple #[.string ⟨(rcutV c l).1.toArray⟩, .string ⟨(rcutV c l).2.1.toArray⟩, .bool (rcutV c l).2.2]) ∧ Up w w' := by
  go_enter Tryd.func59, Tryd.ntmps59
  go_wp2
  go_loop [7] (fun i => CRel l c i) (fun i => l.length - (intOf i).toNat)
  case atStart => exact ⟨0, by omega, rfl, fun j _ hj => absurd hj (by omega)⟩
  case round =>
    obtain ⟨k, hk, rfl, hall⟩ := hrel
    have ALL := Lib.hid hall
    clear hall
    by_cases hlt : k < l.length
    · obtain ⟨b, hb⟩ : ∃ b, (⟨l.toArray⟩ : ByteArray)[k]'(by rw [size_mk]; exact hlt) = b := ⟨_, rfl⟩
      have hbk : Hid (l[k] = b) := hb
      by_cases he : b = c
      · subst he
        have HC := Lib.hid (cutC_at b l k hlt hbk.out ALL.out)
        have x1 := extract_take l k
        have x2 := extract_mk l (k + 1)
        have b1 : (0 : Int) ≤ (k : Int) := by omega
        have b2 : (k : Int) ≤ (l.length : Int) := by omega
        have b3 : (k : Int) + 1 ≤ (l.length : Int) := by omega
        have b4 : (0 : Int) ≤ (k : Int) + 1 := by omega
        go_wp2_with fail
        go_quiet (fail)
        go_wp2_with fail
        go_ret3
        refine ⟨?_, (Up.refl _).drewN _⟩
        unfold rcutV; rw [HC.out]; rfl
      · have hne : (((b.toNat : Int)) == (c.toNat : Int)) = false := by
          rw [beq_eq_false_iff_ne]; intro e; exact he (UInt8.toNat.inj (by omega))
        have HB := Lib.hid he
        clear he
        go_wp2
        go_round
        case rel =>
          refine ⟨k + 1, by omega, by go_num, fun j h hj => ?_⟩
          by_cases e : j < k
          · exact ALL.out j h e
          · obtain rfl : j = k := by omega
            rw [hbk.out]; exact HB.out
        case measure => simp [intOf]; omega
    · have HC := Lib.hid (cutC_none c l (fun j h => ALL.out j h (by omega)))
      go_wp2
      go_ret3
      refine ⟨?_, Up.refl _⟩
      unfold rcutV; rw [HC.out]; rfl
end Go.Proofs.YteeenbhmdacdiaaDoor
