/- script.path at the bytes from 32 on. -/
import Derived.Test.YtongfkckenahnaaGreatDoorTab
namespace Go.Proofs.YtongfkckenahnaaGreatDoor
set_option maxRecDepth 100000
theorem path_okb : ((List.range' 32 32).all fun n => isStr (pathR n)) = true := by kernel_rfl
end Go.Proofs.YtongfkckenahnaaGreatDoor
