/- The law's awake, by what is known. -/
import Derived.Test.YtongfkckenahnaaGreatDoorRep
import Derived.Test.YtongfkckenahnaaGreatDoorAw40a
import Derived.Test.YtongfkckenahnaaGreatDoorAw40b
import Derived.Test.YtongfkckenahnaaGreatDoorAw40c
namespace Go.Proofs.YtongfkckenahnaaGreatDoor
open Go.Ev
set_option maxRecDepth 100000
def Aw40tb : List Memo := [MRep, Aw40M0, Aw40M1, Aw40M2, Aw40M3, Aw40M4, Aw40M5]
theorem Aw40tb_ok : ∀ m ∈ Aw40tb, MemoOK Tryz.prog gv m := by
  intro m hm
  simp only [Aw40tb, List.mem_cons, List.not_mem_nil, or_false] at hm
  rcases hm with rfl | rfl | rfl | rfl | rfl | rfl | rfl
  · exact MRep_ok
  · exact Aw40k0
  · exact Aw40k1
  · exact Aw40k2
  · exact Aw40k3
  · exact Aw40k4
  · exact Aw40k5
theorem awake40 {w : World} (hg : GlobW Tryz.prog gv w) : Calls Tryz.prog 4 #[] w (fun e w' => e = .returned (.bool true) ∧ Kept w w') :=
  known (m := ⟨4, [], .bool true⟩) Aw40tb_ok (by kernel_rfl) w hg
end Go.Proofs.YtongfkckenahnaaGreatDoor
