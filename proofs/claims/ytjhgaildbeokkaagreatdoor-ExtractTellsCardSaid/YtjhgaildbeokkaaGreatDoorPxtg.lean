/- Toward the card of 'gazetteerlaw38.ExtractTells': the law's call starts no goroutine: a closed fact, in a text of its own for the memory that it takes. -/
import Derived.KernelRfl
import Derived.Seven
import Derived.Test.YtjhgaildbeokkaaGreatDoorChecked
import Derived.Test.YtjhgaildbeokkaaGreatDoorRows
namespace Go.Proofs.YtjhgaildbeokkaaGreatDoor.extractTells
set_option maxRecDepth 100000
theorem goes : false = Rows.extractTellsRow.goesBy Tryz.pinned.checked.prog := by kernel_rfl
end Go.Proofs.YtjhgaildbeokkaaGreatDoor.extractTells
