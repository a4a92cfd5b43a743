/-
  DERIVED. GIVEN WITH THE SEED: THE CARDS: each row of YtfpioihkdcjapaaGreatDoorRows.lean that lists a variable, with what it lists TIED to the program's text (the seventh form; the later family's looks); each row that meets fmt, with fmt's text TOLD by the authors' own Lean function (tested against real Go, not proved from fmt's source: count such statements apart). THE CARD IS WHAT COUNTS. Prove the row's statement (the work); the ties are given (YtfpioihkdcjapaaGreatDoorTie.lean); close each card by the builder's one call (the guide's Derived/Test/ToyasCard.lean, 'card_holds'). Laid BY PROGRAM, IN A SANDBOX (cutbox-door.mjs). By AI agents, Wed Nov 11 2026. No macro, syntax, notation, axiom, sorry.
-/
import Derived.Test.YtfpioihkdcjapaaGreatDoorRows
import GoSem.ClaimSeven
namespace Go.Proofs.YtfpioihkdcjapaaGreatDoor
namespace Rows

/-- THE TIED CARD OF 'gazetteerlaw33.ReaderNobody'. -/
def readerNobodyCard : Claim7 := { stood := { row := readerNobodyRow, standIns := [], harness := (true, "c256601c3b0c78cab33a54a14b97a005e09510ff2f5e8c6cae39144d0711287a"), looks := true }, kinds := [], alts := [], laidByText := true, laidKinds := [.data, .data, .data, .data, .handle, .sentinel, .sentinel, .pinned], laidTests := true, laidLooks := .later }
def ReaderNobodyCardSaid : Prop := Claim7.holds Tryz.pinned (.plain (OpenSpec.ofChange readerNobodySpec)) readerNobodyCard

/-- THE SECOND FORM's CARD OF 'gazetteerlaw33.ReaderNobody'. -/
def readerNobodyUptoCard : Claim7 := { stood := { row := readerNobodyUptoRow, standIns := [], harness := (true, "c256601c3b0c78cab33a54a14b97a005e09510ff2f5e8c6cae39144d0711287a"), looks := true }, kinds := [], alts := [], laidByText := true, laidKinds := [.data, .data, .data, .data, .handle, .sentinel, .sentinel, .pinned], laidTests := true, laidLooks := .later }
def ReaderNobodyUptoCardSaid : Prop := Claim7.holds Tryz.pinned (.plain (OpenSpec.upto readerNobodySpec)) readerNobodyUptoCard
end Rows
end Go.Proofs.YtfpioihkdcjapaaGreatDoor
