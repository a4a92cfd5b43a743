/-
  DERIVED. GIVEN WITH THE SEED: THE CARDS: each row of YtkfococpanailaaGreatDoorRows.lean that lists a variable, with what it lists TIED to the program's text (the seventh form; the later family's looks); each row that meets fmt, with fmt's text TOLD by the authors' own Lean function (tested against real Go, not proved from fmt's source: count such statements apart). THE CARD IS WHAT COUNTS. Prove the row's statement (the work); the ties are given (YtkfococpanailaaGreatDoorTie.lean); close each card by the builder's one call (the guide's Derived/Test/ToyasCard.lean, 'card_holds'). Laid BY PROGRAM, IN A SANDBOX (cutbox-door.mjs). By AI agents, Wed Nov 11 2026. No macro, syntax, notation, axiom, sorry.
-/
import Derived.Test.YtkfococpanailaaGreatDoorRows
import GoSem.ClaimSeven
namespace Go.Proofs.YtkfococpanailaaGreatDoor
namespace Rows

/-- THE TIED CARD OF 'gazetteerlaw20.NaiveTiles'. -/
def naiveTilesCard : Claim7 := { stood := { row := naiveTilesRow, standIns := [], harness := (true, "7e9a65420dcc9b9d392f14b96be92bc02b6512cfbb43e252704ae706b5e2639b"), looks := true }, kinds := [], alts := [], laidByText := true, laidKinds := [.data, .data, .data, .data, .sentinel, .sentinel, .pinned], laidTests := true, laidLooks := .later }
def NaiveTilesCardSaid : Prop := Claim7.holds Tryz.pinned (.plain (OpenSpec.ofChange naiveTilesSpec)) naiveTilesCard

/-- THE TIED CARD OF 'gazetteerlaw48.UniteTells'. -/
def uniteTellsCard : Claim7 := { stood := { row := uniteTellsRow, standIns := [], harness := (true, "7e9a65420dcc9b9d392f14b96be92bc02b6512cfbb43e252704ae706b5e2639b"), looks := true }, kinds := [], alts := [], laidByText := true, laidKinds := [.data, .data, .data, .data, .sentinel, .sentinel, .pinned], laidTests := true, laidLooks := .later }
def UniteTellsCardSaid : Prop := Claim7.holds Tryz.pinned (.plain (OpenSpec.ofChange uniteTellsSpec)) uniteTellsCard

/-- THE TIED CARD OF 'gazetteerlaw48.UniteParts'. -/
def unitePartsCard : Claim7 := { stood := { row := unitePartsRow, standIns := [], harness := (true, "7e9a65420dcc9b9d392f14b96be92bc02b6512cfbb43e252704ae706b5e2639b"), looks := true }, kinds := [], alts := [], laidByText := true, laidKinds := [.data, .data, .data, .data, .sentinel, .sentinel, .pinned], laidTests := true, laidLooks := .later }
def UnitePartsCardSaid : Prop := Claim7.holds Tryz.pinned (.plain (OpenSpec.ofChange unitePartsSpec)) unitePartsCard

/-- THE TIED CARD OF 'gazetteerlaw48.UniteBack'. -/
def uniteBackCard : Claim7 := { stood := { row := uniteBackRow, standIns := [], harness := (true, "7e9a65420dcc9b9d392f14b96be92bc02b6512cfbb43e252704ae706b5e2639b"), looks := true }, kinds := [], alts := [], laidByText := true, laidKinds := [.data, .data, .data, .data, .sentinel, .sentinel, .pinned], laidTests := true, laidLooks := .later }
def UniteBackCardSaid : Prop := Claim7.holds Tryz.pinned (.plain (OpenSpec.ofChange uniteBackSpec)) uniteBackCard

/-- THE TIED CARD OF 'gazetteerlaw48.UniteRoom'. -/
def uniteRoomCard : Claim7 := { stood := { row := uniteRoomRow, standIns := [], harness := (true, "7e9a65420dcc9b9d392f14b96be92bc02b6512cfbb43e252704ae706b5e2639b"), looks := true }, kinds := [], alts := [], laidByText := true, laidKinds := [.data, .data, .data, .data, .sentinel, .sentinel, .pinned], laidTests := true, laidLooks := .later }
def UniteRoomCardSaid : Prop := Claim7.holds Tryz.pinned (.plain (OpenSpec.ofChange uniteRoomSpec)) uniteRoomCard

/-- THE TIED CARD OF 'gazetteerlaw38.ExtractTells'. -/
def extractTellsCard : Claim7 := { stood := { row := extractTellsRow, standIns := [], harness := (true, "7e9a65420dcc9b9d392f14b96be92bc02b6512cfbb43e252704ae706b5e2639b"), looks := true }, kinds := [], alts := [], laidByText := true, laidKinds := [.data, .data, .data, .data, .sentinel, .sentinel, .pinned], laidTests := true, laidLooks := .later }
def ExtractTellsCardSaid : Prop := Claim7.holds Tryz.pinned (.plain (OpenSpec.ofChange extractTellsSpec)) extractTellsCard

/-- THE TIED CARD OF 'gazetteerlaw38.ExtractSpans'. -/
def extractSpansCard : Claim7 := { stood := { row := extractSpansRow, standIns := [], harness := (true, "7e9a65420dcc9b9d392f14b96be92bc02b6512cfbb43e252704ae706b5e2639b"), looks := true }, kinds := [], alts := [], laidByText := true, laidKinds := [.data, .data, .data, .data, .sentinel, .sentinel, .pinned], laidTests := true, laidLooks := .later }
def ExtractSpansCardSaid : Prop := Claim7.holds Tryz.pinned (.plain (OpenSpec.ofChange extractSpansSpec)) extractSpansCard

/-- THE TIED CARD OF 'gazetteerlaw38.ExtractBack'. -/
def extractBackCard : Claim7 := { stood := { row := extractBackRow, standIns := [], harness := (true, "7e9a65420dcc9b9d392f14b96be92bc02b6512cfbb43e252704ae706b5e2639b"), looks := true }, kinds := [], alts := [], laidByText := true, laidKinds := [.data, .data, .data, .data, .sentinel, .sentinel, .pinned], laidTests := true, laidLooks := .later }
def ExtractBackCardSaid : Prop := Claim7.holds Tryz.pinned (.plain (OpenSpec.ofChange extractBackSpec)) extractBackCard

/-- THE TIED CARD OF 'gazetteerlaw38.ExtractParts'. -/
def extractPartsCard : Claim7 := { stood := { row := extractPartsRow, standIns := [], harness := (true, "7e9a65420dcc9b9d392f14b96be92bc02b6512cfbb43e252704ae706b5e2639b"), looks := true }, kinds := [], alts := [], laidByText := true, laidKinds := [.data, .data, .data, .data, .sentinel, .sentinel, .pinned], laidTests := true, laidLooks := .later }
def ExtractPartsCardSaid : Prop := Claim7.holds Tryz.pinned (.plain (OpenSpec.ofChange extractPartsSpec)) extractPartsCard

/-- THE SECOND FORM's CARD OF 'gazetteerlaw20.NaiveTiles'. -/
def naiveTilesUptoCard : Claim7 := { stood := { row := naiveTilesUptoRow, standIns := [], harness := (true, "7e9a65420dcc9b9d392f14b96be92bc02b6512cfbb43e252704ae706b5e2639b"), looks := true }, kinds := [], alts := [], laidByText := true, laidKinds := [.data, .data, .data, .data, .sentinel, .sentinel, .pinned], laidTests := true, laidLooks := .later }
def NaiveTilesUptoCardSaid : Prop := Claim7.holds Tryz.pinned (.plain (OpenSpec.upto naiveTilesSpec)) naiveTilesUptoCard

/-- THE SECOND FORM's CARD OF 'gazetteerlaw48.UniteTells'. -/
def uniteTellsUptoCard : Claim7 := { stood := { row := uniteTellsUptoRow, standIns := [], harness := (true, "7e9a65420dcc9b9d392f14b96be92bc02b6512cfbb43e252704ae706b5e2639b"), looks := true }, kinds := [], alts := [], laidByText := true, laidKinds := [.data, .data, .data, .data, .sentinel, .sentinel, .pinned], laidTests := true, laidLooks := .later }
def UniteTellsUptoCardSaid : Prop := Claim7.holds Tryz.pinned (.plain (OpenSpec.upto uniteTellsSpec)) uniteTellsUptoCard

/-- THE SECOND FORM's CARD OF 'gazetteerlaw48.UniteParts'. -/
def unitePartsUptoCard : Claim7 := { stood := { row := unitePartsUptoRow, standIns := [], harness := (true, "7e9a65420dcc9b9d392f14b96be92bc02b6512cfbb43e252704ae706b5e2639b"), looks := true }, kinds := [], alts := [], laidByText := true, laidKinds := [.data, .data, .data, .data, .sentinel, .sentinel, .pinned], laidTests := true, laidLooks := .later }
def UnitePartsUptoCardSaid : Prop := Claim7.holds Tryz.pinned (.plain (OpenSpec.upto unitePartsSpec)) unitePartsUptoCard

/-- THE SECOND FORM's CARD OF 'gazetteerlaw48.UniteBack'. -/
def uniteBackUptoCard : Claim7 := { stood := { row := uniteBackUptoRow, standIns := [], harness := (true, "7e9a65420dcc9b9d392f14b96be92bc02b6512cfbb43e252704ae706b5e2639b"), looks := true }, kinds := [], alts := [], laidByText := true, laidKinds := [.data, .data, .data, .data, .sentinel, .sentinel, .pinned], laidTests := true, laidLooks := .later }
def UniteBackUptoCardSaid : Prop := Claim7.holds Tryz.pinned (.plain (OpenSpec.upto uniteBackSpec)) uniteBackUptoCard

/-- THE SECOND FORM's CARD OF 'gazetteerlaw48.UniteRoom'. -/
def uniteRoomUptoCard : Claim7 := { stood := { row := uniteRoomUptoRow, standIns := [], harness := (true, "7e9a65420dcc9b9d392f14b96be92bc02b6512cfbb43e252704ae706b5e2639b"), looks := true }, kinds := [], alts := [], laidByText := true, laidKinds := [.data, .data, .data, .data, .sentinel, .sentinel, .pinned], laidTests := true, laidLooks := .later }
def UniteRoomUptoCardSaid : Prop := Claim7.holds Tryz.pinned (.plain (OpenSpec.upto uniteRoomSpec)) uniteRoomUptoCard

/-- THE SECOND FORM's CARD OF 'gazetteerlaw38.ExtractTells'. -/
def extractTellsUptoCard : Claim7 := { stood := { row := extractTellsUptoRow, standIns := [], harness := (true, "7e9a65420dcc9b9d392f14b96be92bc02b6512cfbb43e252704ae706b5e2639b"), looks := true }, kinds := [], alts := [], laidByText := true, laidKinds := [.data, .data, .data, .data, .sentinel, .sentinel, .pinned], laidTests := true, laidLooks := .later }
def ExtractTellsUptoCardSaid : Prop := Claim7.holds Tryz.pinned (.plain (OpenSpec.upto extractTellsSpec)) extractTellsUptoCard

/-- THE SECOND FORM's CARD OF 'gazetteerlaw38.ExtractSpans'. -/
def extractSpansUptoCard : Claim7 := { stood := { row := extractSpansUptoRow, standIns := [], harness := (true, "7e9a65420dcc9b9d392f14b96be92bc02b6512cfbb43e252704ae706b5e2639b"), looks := true }, kinds := [], alts := [], laidByText := true, laidKinds := [.data, .data, .data, .data, .sentinel, .sentinel, .pinned], laidTests := true, laidLooks := .later }
def ExtractSpansUptoCardSaid : Prop := Claim7.holds Tryz.pinned (.plain (OpenSpec.upto extractSpansSpec)) extractSpansUptoCard

/-- THE SECOND FORM's CARD OF 'gazetteerlaw38.ExtractBack'. -/
def extractBackUptoCard : Claim7 := { stood := { row := extractBackUptoRow, standIns := [], harness := (true, "7e9a65420dcc9b9d392f14b96be92bc02b6512cfbb43e252704ae706b5e2639b"), looks := true }, kinds := [], alts := [], laidByText := true, laidKinds := [.data, .data, .data, .data, .sentinel, .sentinel, .pinned], laidTests := true, laidLooks := .later }
def ExtractBackUptoCardSaid : Prop := Claim7.holds Tryz.pinned (.plain (OpenSpec.upto extractBackSpec)) extractBackUptoCard

/-- THE SECOND FORM's CARD OF 'gazetteerlaw38.ExtractParts'. -/
def extractPartsUptoCard : Claim7 := { stood := { row := extractPartsUptoRow, standIns := [], harness := (true, "7e9a65420dcc9b9d392f14b96be92bc02b6512cfbb43e252704ae706b5e2639b"), looks := true }, kinds := [], alts := [], laidByText := true, laidKinds := [.data, .data, .data, .data, .sentinel, .sentinel, .pinned], laidTests := true, laidLooks := .later }
def ExtractPartsUptoCardSaid : Prop := Claim7.holds Tryz.pinned (.plain (OpenSpec.upto extractPartsSpec)) extractPartsUptoCard
end Rows
end Go.Proofs.YtkfococpanailaaGreatDoor
