/-
  DERIVED. GIVEN WITH THE SEED: THE CARDS: each row of YtbfieomjobbhoaaGreatDoorRows.lean that lists a variable, with what it lists TIED to the program's text (the seventh form; the later family's looks); each row that meets fmt, with fmt's text TOLD by the authors' own Lean function (tested against real Go, not proved from fmt's source: count such statements apart). THE CARD IS WHAT COUNTS. Prove the row's statement (the work); the ties are given (YtbfieomjobbhoaaGreatDoorTie.lean); close each card by the builder's one call (the guide's Derived/Test/ToyasCard.lean, 'card_holds'). Laid BY PROGRAM, IN A SANDBOX (cutbox-door.mjs). By AI agents, Wed Nov 11 2026. No macro, syntax, notation, axiom, sorry.
-/
import Derived.Test.YtbfieomjobbhoaaGreatDoorRows
import GoSem.ClaimSeven
namespace Go.Proofs.YtbfieomjobbhoaaGreatDoor
namespace Rows

/-- THE TIED CARD OF 'gazetteerlaw20.NaiveTells'. -/
def naiveTellsCard : Claim7 := { stood := { row := naiveTellsRow, standIns := [], harness := (true, "7a36af034fa95d4f64accd1153f770f2411a0743ae699d2f40aa467e3aa108de"), looks := true }, kinds := [], alts := [], laidByText := true, laidKinds := [.data, .data, .data, .data, .sentinel, .sentinel, .pinned], laidTests := true, laidLooks := .later }
def NaiveTellsCardSaid : Prop := Claim7.holds Tryz.pinned (.plain (OpenSpec.ofChange naiveTellsSpec)) naiveTellsCard

/-- THE TIED CARD OF 'gazetteerlaw19.AuditTells'. -/
def auditTellsCard : Claim7 := { stood := { row := auditTellsRow, standIns := [], harness := (true, "7a36af034fa95d4f64accd1153f770f2411a0743ae699d2f40aa467e3aa108de"), looks := true }, kinds := [], alts := [], laidByText := true, laidKinds := [.data, .data, .data, .data, .sentinel, .sentinel, .pinned], laidTests := true, laidLooks := .later }
def AuditTellsCardSaid : Prop := Claim7.holds Tryz.pinned (.plain (OpenSpec.ofChange auditTellsSpec)) auditTellsCard

/-- THE SECOND FORM's CARD OF 'gazetteerlaw20.NaiveTells'. -/
def naiveTellsUptoCard : Claim7 := { stood := { row := naiveTellsUptoRow, standIns := [], harness := (true, "7a36af034fa95d4f64accd1153f770f2411a0743ae699d2f40aa467e3aa108de"), looks := true }, kinds := [], alts := [], laidByText := true, laidKinds := [.data, .data, .data, .data, .sentinel, .sentinel, .pinned], laidTests := true, laidLooks := .later }
def NaiveTellsUptoCardSaid : Prop := Claim7.holds Tryz.pinned (.plain (OpenSpec.upto naiveTellsSpec)) naiveTellsUptoCard

/-- THE SECOND FORM's CARD OF 'gazetteerlaw19.AuditTells'. -/
def auditTellsUptoCard : Claim7 := { stood := { row := auditTellsUptoRow, standIns := [], harness := (true, "7a36af034fa95d4f64accd1153f770f2411a0743ae699d2f40aa467e3aa108de"), looks := true }, kinds := [], alts := [], laidByText := true, laidKinds := [.data, .data, .data, .data, .sentinel, .sentinel, .pinned], laidTests := true, laidLooks := .later }
def AuditTellsUptoCardSaid : Prop := Claim7.holds Tryz.pinned (.plain (OpenSpec.upto auditTellsSpec)) auditTellsUptoCard
end Rows
end Go.Proofs.YtbfieomjobbhoaaGreatDoor
