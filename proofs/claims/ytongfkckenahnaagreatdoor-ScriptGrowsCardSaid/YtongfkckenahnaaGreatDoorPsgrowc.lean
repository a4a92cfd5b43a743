/- Toward the card of 'gazetteerlaw40.ScriptGrows': its closed facts. -/
import Derived.Test.YtongfkckenahnaaGreatDoorFrt
namespace Go.Proofs.YtongfkckenahnaaGreatDoor.scriptGrows
open Go.ChangeShapes Go.WideShapes Go.ChangeAt Go.RowKit Go.Lib Go.Gz
open Go.ChangeMaps (open_string shut_string)

set_option maxRecDepth 100000
set_option maxHeartbeats 64000000 in
theorem closed : joinedFacts Tryz.pinned.checked.prog 3 Tryz.f3 (OpenSpec.ofChange Rows.scriptGrowsSpec).bare Rows.scriptGrowsRow = true := by
  simp only [joinedFacts, Bool.and_eq_true]
  repeat' apply And.intro
  all_goals as_aux_lemma => kernel_rfl
end Go.Proofs.YtongfkckenahnaaGreatDoor.scriptGrows
