/- Toward the card of 'gazetteerlaw33.ReaderNobody': the law's call starts no goroutine: a closed fact, in a text of its own for the memory that it takes. -/
import Derived.KernelRfl
import Derived.Seven
import Derived.Test.YtfpioihkdcjapaaGreatDoorChecked
import Derived.Test.YtfpioihkdcjapaaGreatDoorRows
namespace Go.Proofs.YtfpioihkdcjapaaGreatDoor.readerNobody
set_option maxRecDepth 100000
theorem goes : false = Rows.readerNobodyRow.goesBy Tryz.pinned.checked.prog := by kernel_rfl
end Go.Proofs.YtfpioihkdcjapaaGreatDoor.readerNobody
