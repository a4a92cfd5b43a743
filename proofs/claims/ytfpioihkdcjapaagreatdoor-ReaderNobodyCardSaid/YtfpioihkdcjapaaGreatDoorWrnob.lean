/- ReaderNobody: the law's call, at any identifier. -/
import Derived.Test.YtfpioihkdcjapaaGreatDoorAw33
import Derived.Test.YtfpioihkdcjapaaGreatDoorBase
import Derived.Test.YtfpioihkdcjapaaGreatDoorFrs
namespace Go.Proofs.YtfpioihkdcjapaaGreatDoor
open Go.Ev
set_option maxRecDepth 100000
def Maw33 : Memo := ⟨9, [], .bool true⟩
theorem aw33_ok : MemoOK Tryz.prog gv Maw33 := fun _ hg => awake33 hg
theorem rnob33 (id : Int) (w : World) (hg : GlobW Tryz.prog gv w) : Calls Tryz.prog 3 #[.int .u64 id] w (fun e w' => e = .returned (.bool true) ∧ Up w w') :=
  (known (tb := [Maw33]) (fun m hm => by obtain rfl := List.mem_singleton.1 hm; exact aw33_ok) (m := ⟨3, [.int .u64 id], .bool true⟩) (by kernel_rfl) w hg).mono fun _ _ h => ⟨h.1, up_kept h.2⟩
end Go.Proofs.YtfpioihkdcjapaaGreatDoor
