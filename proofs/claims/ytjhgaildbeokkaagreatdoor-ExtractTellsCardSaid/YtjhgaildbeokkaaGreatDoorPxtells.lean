/- PROVED HERE: the card of 'gazetteerlaw38.ExtractTells': for all items, all rectangles and any two zooms the law returns true. Nothing is asked beyond what the row itself says. -/
import Derived.Test.YtjhgaildbeokkaaGreatDoorPxta
import Derived.Test.YtjhgaildbeokkaaGreatDoorPxtg
namespace Go.Proofs.YtjhgaildbeokkaaGreatDoor.extractTells
open Go.ChangeShapes Go.WideShapes Go.ChangeAt Go.RowKit Go.Lib Go.Gz

set_option maxRecDepth 100000
/-- THE CARD -/
theorem card : Rows.ExtractTellsCardSaid :=
  Claim7.holds_tied_plain_at .later [] _ _ _ _ said (fun _ h => by cases h) (by kernel_rfl) (fun _ h => by cases h) extractTells_row_tie rfl ⟨rfl, rfl⟩ (by kernel_rfl) rfl plain goes
end Go.Proofs.YtjhgaildbeokkaaGreatDoor.extractTells
