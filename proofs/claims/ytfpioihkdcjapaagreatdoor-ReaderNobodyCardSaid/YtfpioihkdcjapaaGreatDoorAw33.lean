/- The law's awake, by what is known. -/
import Derived.Test.YtfpioihkdcjapaaGreatDoorAw33a
import Derived.Test.YtfpioihkdcjapaaGreatDoorAw33b
import Derived.Test.YtfpioihkdcjapaaGreatDoorAw33c
namespace Go.Proofs.YtfpioihkdcjapaaGreatDoor
open Go.Ev
set_option maxRecDepth 100000
def Aw33tb : List Memo := [Aw33M0, Aw33M1, Aw33M2, Aw33M3, Aw33M4, Aw33M5]
theorem Aw33tb_ok : ∀ m ∈ Aw33tb, MemoOK Tryz.prog gv m := by
  intro m hm
  simp only [Aw33tb, List.mem_cons, List.not_mem_nil, or_false] at hm
  rcases hm with rfl | rfl | rfl | rfl | rfl | rfl
  · exact Aw33k0
  · exact Aw33k1
  · exact Aw33k2
  · exact Aw33k3
  · exact Aw33k4
  · exact Aw33k5
theorem awake33 {w : World} (hg : GlobW Tryz.prog gv w) : Calls Tryz.prog 9 #[] w (fun e w' => e = .returned (.bool true) ∧ Kept w w') :=
  known (m := ⟨9, [], .bool true⟩) Aw33tb_ok (by kernel_rfl) w hg
end Go.Proofs.YtfpioihkdcjapaaGreatDoor
