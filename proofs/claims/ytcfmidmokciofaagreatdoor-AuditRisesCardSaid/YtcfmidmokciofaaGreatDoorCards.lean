/-
  DERIVED. GIVEN WITH THE SEED: THE CARDS: each row of YtcfmidmokciofaaGreatDoorRows.lean that lists a variable, with what it lists TIED to the program's text (the seventh form; the later family's looks); each row that meets fmt, with fmt's text TOLD by the authors' own Lean function (tested against real Go, not proved from fmt's source: count such statements apart). THE CARD IS WHAT COUNTS. Prove the row's statement (the work); the ties are given (YtcfmidmokciofaaGreatDoorTie.lean); close each card by the builder's one call (the guide's Derived/Test/ToyasCard.lean, 'card_holds'). Laid BY PROGRAM, IN A SANDBOX (cutbox-door.mjs). By AI agents, Wed Nov 11 2026. No macro, syntax, notation, axiom, sorry.
-/
import Derived.Test.YtcfmidmokciofaaGreatDoorRows
import GoSem.ClaimSeven
namespace Go.Proofs.YtcfmidmokciofaaGreatDoor
namespace Rows

/-- THE TIED CARD OF 'gazetteerlaw47.MeterMore'. -/
def meterMoreCard : Claim7 := { stood := { row := meterMoreRow, standIns := [], harness := (true, "8405ca775667a15d439c0f518bc8b1329eb94b0ebbcb91f06a78b0ce9069453c"), looks := true }, kinds := [], alts := [], laidByText := true, laidKinds := [.data, .data, .data, .data, .sentinel, .sentinel, .pinned], laidTests := true, laidLooks := .later }
def MeterMoreCardSaid : Prop := Claim7.holds Tryz.pinned (.plain (OpenSpec.ofChange meterMoreSpec)) meterMoreCard

/-- THE TIED CARD OF 'gazetteerlaw19.AuditRises'. -/
def auditRisesCard : Claim7 := { stood := { row := auditRisesRow, standIns := [], harness := (true, "8405ca775667a15d439c0f518bc8b1329eb94b0ebbcb91f06a78b0ce9069453c"), looks := true }, kinds := [], alts := [], laidByText := true, laidKinds := [.data, .data, .data, .data, .sentinel, .sentinel, .pinned], laidTests := true, laidLooks := .later }
def AuditRisesCardSaid : Prop := Claim7.holds Tryz.pinned (.plain (OpenSpec.ofChange auditRisesSpec)) auditRisesCard

/-- THE TIED CARD OF 'gazetteerlaw19.AuditGood'. -/
def auditGoodCard : Claim7 := { stood := { row := auditGoodRow, standIns := [], harness := (true, "8405ca775667a15d439c0f518bc8b1329eb94b0ebbcb91f06a78b0ce9069453c"), looks := true }, kinds := [], alts := [], laidByText := true, laidKinds := [.data, .data, .data, .data, .sentinel, .sentinel, .pinned], laidTests := true, laidLooks := .later }
def AuditGoodCardSaid : Prop := Claim7.holds Tryz.pinned (.plain (OpenSpec.ofChange auditGoodSpec)) auditGoodCard

/-- THE SECOND FORM's CARD OF 'gazetteerlaw47.MeterMore'. -/
def meterMoreUptoCard : Claim7 := { stood := { row := meterMoreUptoRow, standIns := [], harness := (true, "8405ca775667a15d439c0f518bc8b1329eb94b0ebbcb91f06a78b0ce9069453c"), looks := true }, kinds := [], alts := [], laidByText := true, laidKinds := [.data, .data, .data, .data, .sentinel, .sentinel, .pinned], laidTests := true, laidLooks := .later }
def MeterMoreUptoCardSaid : Prop := Claim7.holds Tryz.pinned (.plain (OpenSpec.upto meterMoreSpec)) meterMoreUptoCard

/-- THE SECOND FORM's CARD OF 'gazetteerlaw19.AuditRises'. -/
def auditRisesUptoCard : Claim7 := { stood := { row := auditRisesUptoRow, standIns := [], harness := (true, "8405ca775667a15d439c0f518bc8b1329eb94b0ebbcb91f06a78b0ce9069453c"), looks := true }, kinds := [], alts := [], laidByText := true, laidKinds := [.data, .data, .data, .data, .sentinel, .sentinel, .pinned], laidTests := true, laidLooks := .later }
def AuditRisesUptoCardSaid : Prop := Claim7.holds Tryz.pinned (.plain (OpenSpec.upto auditRisesSpec)) auditRisesUptoCard

/-- THE SECOND FORM's CARD OF 'gazetteerlaw19.AuditGood'. -/
def auditGoodUptoCard : Claim7 := { stood := { row := auditGoodUptoRow, standIns := [], harness := (true, "8405ca775667a15d439c0f518bc8b1329eb94b0ebbcb91f06a78b0ce9069453c"), looks := true }, kinds := [], alts := [], laidByText := true, laidKinds := [.data, .data, .data, .data, .sentinel, .sentinel, .pinned], laidTests := true, laidLooks := .later }
def AuditGoodUptoCardSaid : Prop := Claim7.holds Tryz.pinned (.plain (OpenSpec.upto auditGoodSpec)) auditGoodUptoCard
end Rows
end Go.Proofs.YtcfmidmokciofaaGreatDoor
