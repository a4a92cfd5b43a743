/- ScriptGrows at any two texts: the law's call returns true. -/
import Derived.Test.YtongfkckenahnaaGreatDoorWsgrow
import Derived.Test.YtongfkckenahnaaGreatDoorWsread
import Derived.Test.YtongfkckenahnaaGreatDoorTabz
import Derived.Test.YtongfkckenahnaaGreatDoorAw40
namespace Go.Proofs.YtongfkckenahnaaGreatDoor
open Go.RowKit Go.Gz
open Go.Ev (GlobW Kept GVar)
set_option maxRecDepth 100000
set_option maxHeartbeats 4000000 in
/-- a text that is too long: the small example alone -/
theorem sgrow_long (AWX : ∀ w, GlobW Tryz.prog gv w → Calls Tryz.prog 4 #[] w (fun e w' => e = .returned (.bool true) ∧ Kept w w'))
    (l m : Bs) (h : 200 < l.length ∨ 200 < m.length) (w : World) (hg : GlobW Tryz.prog gv w) :
    Calls Tryz.prog 3 #[.string ⟨l.toArray⟩, .string ⟨m.toArray⟩] w fun e w' => e = .returned (.bool true) ∧ Up w w' := by
  have AW := fun w (hg : GlobW Tryz.prog gv w) => Lib.hid (AWX w hg)
  clear AWX
  by_cases hl : 200 < l.length
  · have hlI : (200 : Int) < (l.length : Int) := by omega
    go_enter Tryz.func3, Tryz.ntmps3
    go_wp2_with fail
    with_reducible refine (AW _ ?_).out.mono ?_
    · exact hg
    rintro e w9 ⟨rfl, hk9⟩
    go_wp2_with fail
    go_ret
    exact ⟨rfl, kept_up hk9⟩
  · have hlI : (l.length : Int) ≤ 200 := by omega
    have hmI : (200 : Int) < (m.length : Int) := by omega
    go_enter Tryz.func3, Tryz.ntmps3
    go_wp2_with fail
    with_reducible refine (AW _ ?_).out.mono ?_
    · exact hg
    rintro e w9 ⟨rfl, hk9⟩
    go_wp2_with fail
    go_ret
    exact ⟨rfl, kept_up hk9⟩
/-- SCRIPTGROWS -/
theorem sgrow40 (l m : Bs) (w : World) (hg : GlobW Tryz.prog gv w) :
    Calls Tryz.prog 3 #[.string ⟨l.toArray⟩, .string ⟨m.toArray⟩] w fun e w' => e = .returned (.bool true) ∧ Up w w' := by
  by_cases h : 200 < l.length ∨ 200 < m.length
  · exact sgrow_long (fun w hg => awake40 hg) l m h w hg
  · exact sgrow_main (fun w hg => awake40 hg) (fun l hl w hg => read_any path_any l hl w hg) l m (by omega) (by omega) w hg
end Go.Proofs.YtongfkckenahnaaGreatDoor
