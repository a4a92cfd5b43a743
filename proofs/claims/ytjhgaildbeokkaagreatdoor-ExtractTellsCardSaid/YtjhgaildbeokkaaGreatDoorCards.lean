/-
  DERIVED. GIVEN WITH THE SEED: THE CARDS: each row of YtjhgaildbeokkaaGreatDoorRows.lean that lists a variable, with what it lists TIED to the program's text (the seventh form; the later family's looks); each row that meets fmt, with fmt's text TOLD by the authors' own Lean function (tested against real Go, not proved from fmt's source: count such statements apart). THE CARD IS WHAT COUNTS. Prove the row's statement (the work); the ties are given (YtjhgaildbeokkaaGreatDoorTie.lean); close each card by the builder's one call (the guide's Derived/Test/ToyasCard.lean, 'card_holds'). Laid BY PROGRAM, IN A SANDBOX (cutbox-door.mjs). By AI agents, Wed Nov 11 2026. No macro, syntax, notation, axiom, sorry.
-/
import Derived.Test.YtjhgaildbeokkaaGreatDoorRows
import GoSem.ClaimSeven
namespace Go.Proofs.YtjhgaildbeokkaaGreatDoor
namespace Rows

/-- THE TIED CARD OF 'gazetteerlaw18.PressTells'. -/
def pressTellsCard : Claim7 := { stood := { row := pressTellsRow, standIns := [], harness := (true, "bae4275bbbf2b499eaf9ed900dafd3fc4f5a8902487b555574fe8c649542e3f0"), looks := true }, kinds := [], alts := [], laidByText := true, laidKinds := [.data, .data, .data, .data, .sentinel, .sentinel, .pinned], laidTests := true, laidLooks := .later }
def PressTellsCardSaid : Prop := Claim7.holds Tryz.pinned (.plain (OpenSpec.ofChange pressTellsSpec)) pressTellsCard

/-- THE TIED CARD OF 'gazetteerlaw20.NaiveTells'. -/
def naiveTellsCard : Claim7 := { stood := { row := naiveTellsRow, standIns := [], harness := (true, "bae4275bbbf2b499eaf9ed900dafd3fc4f5a8902487b555574fe8c649542e3f0"), looks := true }, kinds := [], alts := [], laidByText := true, laidKinds := [.data, .data, .data, .data, .sentinel, .sentinel, .pinned], laidTests := true, laidLooks := .later }
def NaiveTellsCardSaid : Prop := Claim7.holds Tryz.pinned (.plain (OpenSpec.ofChange naiveTellsSpec)) naiveTellsCard

/-- THE TIED CARD OF 'gazetteerlaw48.UniteFiles'. -/
def uniteFilesCard : Claim7 := { stood := { row := uniteFilesRow, standIns := [], harness := (true, "bae4275bbbf2b499eaf9ed900dafd3fc4f5a8902487b555574fe8c649542e3f0"), looks := true }, kinds := [], alts := [], laidByText := true, laidKinds := [.data, .data, .data, .data, .sentinel, .sentinel, .pinned], laidTests := true, laidLooks := .later }
def UniteFilesCardSaid : Prop := Claim7.holds Tryz.pinned (.plain (OpenSpec.ofChange uniteFilesSpec)) uniteFilesCard

/-- THE TIED CARD OF 'gazetteerlaw38.ExtractFiles'. -/
def extractFilesCard : Claim7 := { stood := { row := extractFilesRow, standIns := [], harness := (true, "bae4275bbbf2b499eaf9ed900dafd3fc4f5a8902487b555574fe8c649542e3f0"), looks := true }, kinds := [], alts := [], laidByText := true, laidKinds := [.data, .data, .data, .data, .sentinel, .sentinel, .pinned], laidTests := true, laidLooks := .later }
def ExtractFilesCardSaid : Prop := Claim7.holds Tryz.pinned (.plain (OpenSpec.ofChange extractFilesSpec)) extractFilesCard

/-- THE TIED CARD OF 'gazetteerlaw38.ExtractTells'. -/
def extractTellsCard : Claim7 := { stood := { row := extractTellsRow, standIns := [], harness := (true, "bae4275bbbf2b499eaf9ed900dafd3fc4f5a8902487b555574fe8c649542e3f0"), looks := true }, kinds := [], alts := [], laidByText := true, laidKinds := [.data, .data, .data, .data, .sentinel, .sentinel, .pinned], laidTests := true, laidLooks := .later }
def ExtractTellsCardSaid : Prop := Claim7.holds Tryz.pinned (.plain (OpenSpec.ofChange extractTellsSpec)) extractTellsCard

/-- THE SECOND FORM's CARD OF 'gazetteerlaw18.PressTells'. -/
def pressTellsUptoCard : Claim7 := { stood := { row := pressTellsUptoRow, standIns := [], harness := (true, "bae4275bbbf2b499eaf9ed900dafd3fc4f5a8902487b555574fe8c649542e3f0"), looks := true }, kinds := [], alts := [], laidByText := true, laidKinds := [.data, .data, .data, .data, .sentinel, .sentinel, .pinned], laidTests := true, laidLooks := .later }
def PressTellsUptoCardSaid : Prop := Claim7.holds Tryz.pinned (.plain (OpenSpec.upto pressTellsSpec)) pressTellsUptoCard

/-- THE SECOND FORM's CARD OF 'gazetteerlaw20.NaiveTells'. -/
def naiveTellsUptoCard : Claim7 := { stood := { row := naiveTellsUptoRow, standIns := [], harness := (true, "bae4275bbbf2b499eaf9ed900dafd3fc4f5a8902487b555574fe8c649542e3f0"), looks := true }, kinds := [], alts := [], laidByText := true, laidKinds := [.data, .data, .data, .data, .sentinel, .sentinel, .pinned], laidTests := true, laidLooks := .later }
def NaiveTellsUptoCardSaid : Prop := Claim7.holds Tryz.pinned (.plain (OpenSpec.upto naiveTellsSpec)) naiveTellsUptoCard

/-- THE SECOND FORM's CARD OF 'gazetteerlaw48.UniteFiles'. -/
def uniteFilesUptoCard : Claim7 := { stood := { row := uniteFilesUptoRow, standIns := [], harness := (true, "bae4275bbbf2b499eaf9ed900dafd3fc4f5a8902487b555574fe8c649542e3f0"), looks := true }, kinds := [], alts := [], laidByText := true, laidKinds := [.data, .data, .data, .data, .sentinel, .sentinel, .pinned], laidTests := true, laidLooks := .later }
def UniteFilesUptoCardSaid : Prop := Claim7.holds Tryz.pinned (.plain (OpenSpec.upto uniteFilesSpec)) uniteFilesUptoCard

/-- THE SECOND FORM's CARD OF 'gazetteerlaw38.ExtractFiles'. -/
def extractFilesUptoCard : Claim7 := { stood := { row := extractFilesUptoRow, standIns := [], harness := (true, "bae4275bbbf2b499eaf9ed900dafd3fc4f5a8902487b555574fe8c649542e3f0"), looks := true }, kinds := [], alts := [], laidByText := true, laidKinds := [.data, .data, .data, .data, .sentinel, .sentinel, .pinned], laidTests := true, laidLooks := .later }
def ExtractFilesUptoCardSaid : Prop := Claim7.holds Tryz.pinned (.plain (OpenSpec.upto extractFilesSpec)) extractFilesUptoCard

/-- THE SECOND FORM's CARD OF 'gazetteerlaw38.ExtractTells'. -/
def extractTellsUptoCard : Claim7 := { stood := { row := extractTellsUptoRow, standIns := [], harness := (true, "bae4275bbbf2b499eaf9ed900dafd3fc4f5a8902487b555574fe8c649542e3f0"), looks := true }, kinds := [], alts := [], laidByText := true, laidKinds := [.data, .data, .data, .data, .sentinel, .sentinel, .pinned], laidTests := true, laidLooks := .later }
def ExtractTellsUptoCardSaid : Prop := Claim7.holds Tryz.pinned (.plain (OpenSpec.upto extractTellsSpec)) extractTellsUptoCard
end Rows
end Go.Proofs.YtjhgaildbeokkaaGreatDoor
