/- The package variables stay as they are behind a call that turns nothing old. -/
import Derived.Test.YtongfkckenahnaaGreatDoorAwb
import Derived.Test.YtongfkckenahnaaGreatDoorBase
namespace Go.Proofs.YtongfkckenahnaaGreatDoor
open Go.RowKit Go.Gz
open Go.Ev (GlobW Kept GVar)
theorem globW_up {gs : List GVar} {w w' : World} (h : GlobW Tryz.prog gs w) (hu : Up w w') : GlobW Tryz.prog gs w' := fun q hq =>
  let ⟨f1, f2, e, r⟩ := h q hq
  ⟨f1, f2, hu.obj e, r⟩
theorem kept_up {w w' : World} (h : Kept w w') : Up w w' := ⟨h.os, h.tape, h.output, h.le, h.same⟩
end Go.Proofs.YtongfkckenahnaaGreatDoor
