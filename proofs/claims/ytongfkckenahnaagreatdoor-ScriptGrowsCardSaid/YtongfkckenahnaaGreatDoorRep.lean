/- strings.Repeat of one byte, by the shelf. -/
import Derived.Test.YtongfkckenahnaaGreatDoorShelf
import Derived.Test.YtongfkckenahnaaGreatDoorKup
namespace Go.Proofs.YtongfkckenahnaaGreatDoor
open Go.RowKit Go.Gz
open Go.Ev (GlobW Kept GVar Memo MemoOK)
set_option maxRecDepth 100000
theorem rep_any (b : UInt8) (c : Nat) (hc : c ≤ 1000) (w : World) : Calls Tryz.prog 10 #[.string ⟨#[b]⟩, .int .i64 (c : Int)] w fun e w' => (∃ s, e = .returned (.string s)) ∧ Up w w' :=
  (Tryz.strings_Repeat ⟨#[b]⟩ c w (by omega) (by show 1 * c ≤ _; omega)).mono fun _ _ h => ⟨⟨_, h.1⟩, Up.of h.2⟩
def MRep : Memo := ⟨10, [.string ⟨#[65]⟩, .int .i64 3], .string ⟨#[65, 65, 65]⟩⟩
theorem MRep_ok : MemoOK Tryz.prog gv MRep := fun w _ => (Tryz.strings_Repeat ⟨#[65]⟩ 3 w (by omega) (by decide)).mono fun _ _ h => ⟨h.1, ⟨h.2.os, h.2.tape, h.2.output, h.2.size, h.2.block⟩⟩
end Go.Proofs.YtongfkckenahnaaGreatDoor
