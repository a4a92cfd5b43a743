/-
  DERIVED. GIVEN WITH THE SEED: THE CARDS: each row of YtongfkckenahnaaGreatDoorRows.lean that lists a variable, with what it lists TIED to the program's text (the seventh form; the later family's looks); each row that meets fmt, with fmt's text TOLD by the authors' own Lean function (tested against real Go, not proved from fmt's source: count such statements apart). THE CARD IS WHAT COUNTS. Prove the row's statement (the work); the ties are given (YtongfkckenahnaaGreatDoorTie.lean); close each card by the builder's one call (the guide's Derived/Test/ToyasCard.lean, 'card_holds'). Laid BY PROGRAM, IN A SANDBOX (cutbox-door.mjs). By AI agents, Wed Nov 11 2026. No macro, syntax, notation, axiom, sorry.
-/
import Derived.Test.YtongfkckenahnaaGreatDoorRows
import GoSem.ClaimSeven
namespace Go.Proofs.YtongfkckenahnaaGreatDoor
namespace Rows

/-- THE TIED CARD OF 'gazetteerlaw40.ScriptGrows'. -/
def scriptGrowsCard : Claim7 := { stood := { row := scriptGrowsRow, standIns := [], harness := (true, "cbac4804fff562d0f37a7a0b9d90e84846cc235c5f9a3eca604a4b11473ef847"), looks := true }, kinds := [], alts := [], laidByText := true, laidKinds := [.data, .data, .data, .data, .sentinel, .sentinel, .pinned], laidTests := true, laidLooks := .later }
def ScriptGrowsCardSaid : Prop := Claim7.holds Tryz.pinned (.plain (OpenSpec.ofChange scriptGrowsSpec)) scriptGrowsCard

/-- THE SECOND FORM's CARD OF 'gazetteerlaw40.ScriptGrows'. -/
def scriptGrowsUptoCard : Claim7 := { stood := { row := scriptGrowsUptoRow, standIns := [], harness := (true, "cbac4804fff562d0f37a7a0b9d90e84846cc235c5f9a3eca604a4b11473ef847"), looks := true }, kinds := [], alts := [], laidByText := true, laidKinds := [.data, .data, .data, .data, .sentinel, .sentinel, .pinned], laidTests := true, laidLooks := .later }
def ScriptGrowsUptoCardSaid : Prop := Claim7.holds Tryz.pinned (.plain (OpenSpec.upto scriptGrowsSpec)) scriptGrowsUptoCard
end Rows
end Go.Proofs.YtongfkckenahnaaGreatDoor
