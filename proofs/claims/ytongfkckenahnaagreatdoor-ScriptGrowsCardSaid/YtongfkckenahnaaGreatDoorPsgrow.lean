/- PROVED HERE: the card of 'gazetteerlaw40.ScriptGrows': for any two texts the law returns true. Nothing is asked beyond what the row itself says. -/
import Derived.Test.YtongfkckenahnaaGreatDoorPsgrowa
import Derived.Test.YtongfkckenahnaaGreatDoorPsgrowg
namespace Go.Proofs.YtongfkckenahnaaGreatDoor.scriptGrows
open Go.ChangeShapes Go.WideShapes Go.ChangeAt Go.RowKit Go.Lib Go.Gz
open Go.ChangeMaps (open_string shut_string)

set_option maxRecDepth 100000
/-- THE CARD -/
theorem card : Rows.ScriptGrowsCardSaid :=
  Claim7.holds_tied_plain_at .later [] _ _ _ _ said (fun _ h => by cases h) (by kernel_rfl) (fun _ h => by cases h) scriptGrows_row_tie rfl ⟨rfl, rfl⟩ (by kernel_rfl) rfl plain goes
end Go.Proofs.YtongfkckenahnaaGreatDoor.scriptGrows
