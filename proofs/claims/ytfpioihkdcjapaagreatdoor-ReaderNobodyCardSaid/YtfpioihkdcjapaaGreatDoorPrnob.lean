/- PROVED HERE: the card of 'gazetteerlaw33.ReaderNobody': for every identifier the law returns true. Nothing is asked beyond what the row itself says. -/
import Derived.Test.YtfpioihkdcjapaaGreatDoorPrnoba
import Derived.Test.YtfpioihkdcjapaaGreatDoorPrnobg
namespace Go.Proofs.YtfpioihkdcjapaaGreatDoor.readerNobody
open Go.ChangeShapes Go.WideShapes Go.ChangeAt Go.RowKit Go.Lib Go.Gz
open Go.ChangeMaps (open_string shut_string)

set_option maxRecDepth 100000
/-- THE CARD -/
theorem card : Rows.ReaderNobodyCardSaid :=
  Claim7.holds_tied_plain_at .later [] _ _ _ _ said (fun _ h => by cases h) (by kernel_rfl) (fun _ h => by cases h) readerNobody_row_tie rfl ⟨rfl, rfl⟩ (by kernel_rfl) rfl plain goes
end Go.Proofs.YtfpioihkdcjapaaGreatDoor.readerNobody
