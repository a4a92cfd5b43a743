/-
  DERIVED. GIVEN WITH THE SEED: THE CARDS: each row of YtgoelpjkfofbbaaGreatDoorRows.lean that lists a variable, with what it lists TIED to the program's text (the seventh form; the later family's looks); each row that meets fmt, with fmt's text TOLD by the authors' own Lean function (tested against real Go, not proved from fmt's source: count such statements apart). THE CARD IS WHAT COUNTS. Prove the row's statement (the work); the ties are given (YtgoelpjkfofbbaaGreatDoorTie.lean); close each card by the builder's one call (the guide's Derived/Test/ToyasCard.lean, 'card_holds'). Laid BY PROGRAM, IN A SANDBOX (cutbox-door.mjs). By AI agents, Wed Nov 11 2026. No macro, syntax, notation, axiom, sorry.
-/
import Derived.Test.YtgoelpjkfofbbaaGreatDoorRows
import GoSem.ClaimSeven
namespace Go.Proofs.YtgoelpjkfofbbaaGreatDoor
namespace Rows

/-- THE TIED CARD OF 'gazetteerlaw18.PressOne'. -/
def pressOneCard : Claim7 := { stood := { row := pressOneRow, standIns := [], harness := (true, "cb59ad358bc40924558f25e3976b3245aa030ab9bd7cfc6551904cb034ec4bd1"), looks := true }, kinds := [], alts := [], laidByText := true, laidKinds := [.data, .data, .data, .data, .sentinel, .sentinel, .pinned], laidTests := true, laidLooks := .later }
def PressOneCardSaid : Prop := Claim7.holds Tryz.pinned (.plain (OpenSpec.ofChange pressOneSpec)) pressOneCard

/-- THE TIED CARD OF 'gazetteerlaw18.PressOnce'. -/
def pressOnceCard : Claim7 := { stood := { row := pressOnceRow, standIns := [], harness := (true, "cb59ad358bc40924558f25e3976b3245aa030ab9bd7cfc6551904cb034ec4bd1"), looks := true }, kinds := [], alts := [], laidByText := true, laidKinds := [.data, .data, .data, .data, .sentinel, .sentinel, .pinned], laidTests := true, laidLooks := .later }
def PressOnceCardSaid : Prop := Claim7.holds Tryz.pinned (.plain (OpenSpec.ofChange pressOnceSpec)) pressOnceCard

/-- THE TIED CARD OF 'gazetteerlaw18.PressWhole'. -/
def pressWholeCard : Claim7 := { stood := { row := pressWholeRow, standIns := [], harness := (true, "cb59ad358bc40924558f25e3976b3245aa030ab9bd7cfc6551904cb034ec4bd1"), looks := true }, kinds := [], alts := [], laidByText := true, laidKinds := [.data, .data, .data, .data, .sentinel, .sentinel, .pinned], laidTests := true, laidLooks := .later }
def PressWholeCardSaid : Prop := Claim7.holds Tryz.pinned (.plain (OpenSpec.ofChange pressWholeSpec)) pressWholeCard

/-- THE TIED CARD OF 'gazetteerlaw20.NaiveTiles'. -/
def naiveTilesCard : Claim7 := { stood := { row := naiveTilesRow, standIns := [], harness := (true, "cb59ad358bc40924558f25e3976b3245aa030ab9bd7cfc6551904cb034ec4bd1"), looks := true }, kinds := [], alts := [], laidByText := true, laidKinds := [.data, .data, .data, .data, .sentinel, .sentinel, .pinned], laidTests := true, laidLooks := .later }
def NaiveTilesCardSaid : Prop := Claim7.holds Tryz.pinned (.plain (OpenSpec.ofChange naiveTilesSpec)) naiveTilesCard

/-- THE TIED CARD OF 'gazetteerlaw20.NaiveBack'. -/
def naiveBackCard : Claim7 := { stood := { row := naiveBackRow, standIns := [], harness := (true, "cb59ad358bc40924558f25e3976b3245aa030ab9bd7cfc6551904cb034ec4bd1"), looks := true }, kinds := [], alts := [], laidByText := true, laidKinds := [.data, .data, .data, .data, .sentinel, .sentinel, .pinned], laidTests := true, laidLooks := .later }
def NaiveBackCardSaid : Prop := Claim7.holds Tryz.pinned (.plain (OpenSpec.ofChange naiveBackSpec)) naiveBackCard

/-- THE SECOND FORM's CARD OF 'gazetteerlaw18.PressOne'. -/
def pressOneUptoCard : Claim7 := { stood := { row := pressOneUptoRow, standIns := [], harness := (true, "cb59ad358bc40924558f25e3976b3245aa030ab9bd7cfc6551904cb034ec4bd1"), looks := true }, kinds := [], alts := [], laidByText := true, laidKinds := [.data, .data, .data, .data, .sentinel, .sentinel, .pinned], laidTests := true, laidLooks := .later }
def PressOneUptoCardSaid : Prop := Claim7.holds Tryz.pinned (.plain (OpenSpec.upto pressOneSpec)) pressOneUptoCard

/-- THE SECOND FORM's CARD OF 'gazetteerlaw18.PressOnce'. -/
def pressOnceUptoCard : Claim7 := { stood := { row := pressOnceUptoRow, standIns := [], harness := (true, "cb59ad358bc40924558f25e3976b3245aa030ab9bd7cfc6551904cb034ec4bd1"), looks := true }, kinds := [], alts := [], laidByText := true, laidKinds := [.data, .data, .data, .data, .sentinel, .sentinel, .pinned], laidTests := true, laidLooks := .later }
def PressOnceUptoCardSaid : Prop := Claim7.holds Tryz.pinned (.plain (OpenSpec.upto pressOnceSpec)) pressOnceUptoCard

/-- THE SECOND FORM's CARD OF 'gazetteerlaw18.PressWhole'. -/
def pressWholeUptoCard : Claim7 := { stood := { row := pressWholeUptoRow, standIns := [], harness := (true, "cb59ad358bc40924558f25e3976b3245aa030ab9bd7cfc6551904cb034ec4bd1"), looks := true }, kinds := [], alts := [], laidByText := true, laidKinds := [.data, .data, .data, .data, .sentinel, .sentinel, .pinned], laidTests := true, laidLooks := .later }
def PressWholeUptoCardSaid : Prop := Claim7.holds Tryz.pinned (.plain (OpenSpec.upto pressWholeSpec)) pressWholeUptoCard

/-- THE SECOND FORM's CARD OF 'gazetteerlaw20.NaiveTiles'. -/
def naiveTilesUptoCard : Claim7 := { stood := { row := naiveTilesUptoRow, standIns := [], harness := (true, "cb59ad358bc40924558f25e3976b3245aa030ab9bd7cfc6551904cb034ec4bd1"), looks := true }, kinds := [], alts := [], laidByText := true, laidKinds := [.data, .data, .data, .data, .sentinel, .sentinel, .pinned], laidTests := true, laidLooks := .later }
def NaiveTilesUptoCardSaid : Prop := Claim7.holds Tryz.pinned (.plain (OpenSpec.upto naiveTilesSpec)) naiveTilesUptoCard

/-- THE SECOND FORM's CARD OF 'gazetteerlaw20.NaiveBack'. -/
def naiveBackUptoCard : Claim7 := { stood := { row := naiveBackUptoRow, standIns := [], harness := (true, "cb59ad358bc40924558f25e3976b3245aa030ab9bd7cfc6551904cb034ec4bd1"), looks := true }, kinds := [], alts := [], laidByText := true, laidKinds := [.data, .data, .data, .data, .sentinel, .sentinel, .pinned], laidTests := true, laidLooks := .later }
def NaiveBackUptoCardSaid : Prop := Claim7.holds Tryz.pinned (.plain (OpenSpec.upto naiveBackSpec)) naiveBackUptoCard
end Rows
end Go.Proofs.YtgoelpjkfofbbaaGreatDoor
