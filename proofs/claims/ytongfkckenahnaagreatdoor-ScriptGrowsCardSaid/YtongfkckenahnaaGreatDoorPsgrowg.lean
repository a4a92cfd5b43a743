/- Toward the card of 'gazetteerlaw40.ScriptGrows': the law's call starts no goroutine: a closed fact, in a text of its own for the memory that it takes. -/
import Derived.KernelRfl
import Derived.Seven
import Derived.Test.YtongfkckenahnaaGreatDoorChecked
import Derived.Test.YtongfkckenahnaaGreatDoorRows
namespace Go.Proofs.YtongfkckenahnaaGreatDoor.scriptGrows
set_option maxRecDepth 100000
theorem goes : false = Rows.scriptGrowsRow.goesBy Tryz.pinned.checked.prog := by kernel_rfl
end Go.Proofs.YtongfkckenahnaaGreatDoor.scriptGrows
