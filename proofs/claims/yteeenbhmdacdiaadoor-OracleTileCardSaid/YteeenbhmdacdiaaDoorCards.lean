/-
  DERIVED. GIVEN WITH THE SEED: THE CARDS: each row of YteeenbhmdacdiaaDoorRows.lean that lists a variable, with what it lists TIED to the program's text (the seventh form; the later family's looks); each row that meets fmt, with fmt's text TOLD by the authors' own Lean function (tested against real Go, not proved from fmt's source: count such statements apart). THE CARD IS WHAT COUNTS. Prove the row's statement (the work); the ties are given (YteeenbhmdacdiaaDoorTie.lean); close each card by the builder's one call (the guide's Derived/Test/ToyasCard.lean, 'card_holds'). Laid BY PROGRAM, IN A SANDBOX (cutbox-door.mjs). By AI agents, Wed Nov 11 2026. No macro, syntax, notation, axiom, sorry.
-/
import Derived.Test.YteeenbhmdacdiaaDoorRows
import GoSem.ClaimSeven
namespace Go.Proofs.YteeenbhmdacdiaaDoor
namespace Rows

/-- THE TIED CARD OF 'gazetteerlaw34.RouteTells'. -/
def routeTellsCard : Claim7 := { stood := { row := routeTellsRow, standIns := [], harness := (true, "8eb03fd48161c6b4a4763e9a2415a8d4298c2f40c51ceeb074f39348562b13b9"), looks := true }, kinds := [], alts := [], laidByText := true, laidKinds := [.data, .data, .data, .sentinel, .sentinel], laidTests := true, laidLooks := .later }
def RouteTellsCardSaid : Prop := Claim7.holds Tryd.pinned (.plain (OpenSpec.ofChange routeTellsSpec)) routeTellsCard

/-- THE TIED CARD OF 'gazetteerlaw34.RouteBack'. -/
def routeBackCard : Claim7 := { stood := { row := routeBackRow, standIns := [], harness := (true, "8eb03fd48161c6b4a4763e9a2415a8d4298c2f40c51ceeb074f39348562b13b9"), looks := true }, kinds := [], alts := [], laidByText := true, laidKinds := [.data, .data, .data, .sentinel, .sentinel], laidTests := true, laidLooks := .later }
def RouteBackCardSaid : Prop := Claim7.holds Tryd.pinned (.plain (OpenSpec.ofChange routeBackSpec)) routeBackCard

/-- THE TIED CARD OF 'gazetteerlaw34.RouteBytes'. -/
def routeBytesCard : Claim7 := { stood := { row := routeBytesRow, standIns := [], harness := (true, "8eb03fd48161c6b4a4763e9a2415a8d4298c2f40c51ceeb074f39348562b13b9"), looks := true }, kinds := [], alts := [], laidByText := true, laidKinds := [.data, .data, .data, .sentinel, .sentinel], laidTests := true, laidLooks := .later }
def RouteBytesCardSaid : Prop := Claim7.holds Tryd.pinned (.plain (OpenSpec.ofChange routeBytesSpec)) routeBytesCard

/-- THE TIED CARD OF 'gazetteerlaw24.RangesLays'. -/
def rangesLaysCard : Claim7 := { stood := { row := rangesLaysRow, standIns := [], harness := (true, "8eb03fd48161c6b4a4763e9a2415a8d4298c2f40c51ceeb074f39348562b13b9"), looks := true }, kinds := [], alts := [], laidByText := true, laidKinds := [.data, .data, .data, .sentinel, .sentinel], laidTests := true, laidLooks := .later }
def RangesLaysCardSaid : Prop := Claim7.holds Tryd.pinned (.plain (OpenSpec.ofChange rangesLaysSpec)) rangesLaysCard

/-- THE TIED CARD OF 'gazetteerlaw24.RangesTakes'. -/
def rangesTakesCard : Claim7 := { stood := { row := rangesTakesRow, standIns := [], harness := (true, "8eb03fd48161c6b4a4763e9a2415a8d4298c2f40c51ceeb074f39348562b13b9"), looks := true }, kinds := [], alts := [], laidByText := true, laidKinds := [.data, .data, .data, .sentinel, .sentinel], laidTests := true, laidLooks := .later }
def RangesTakesCardSaid : Prop := Claim7.holds Tryd.pinned (.plain (OpenSpec.ofChange rangesTakesSpec)) rangesTakesCard

/-- THE TIED CARD OF 'gazetteerlaw24.RangesBack'. -/
def rangesBackCard : Claim7 := { stood := { row := rangesBackRow, standIns := [], harness := (true, "8eb03fd48161c6b4a4763e9a2415a8d4298c2f40c51ceeb074f39348562b13b9"), looks := true }, kinds := [], alts := [], laidByText := true, laidKinds := [.data, .data, .data, .sentinel, .sentinel], laidTests := true, laidLooks := .later }
def RangesBackCardSaid : Prop := Claim7.holds Tryd.pinned (.plain (OpenSpec.ofChange rangesBackSpec)) rangesBackCard

/-- THE TIED CARD OF 'gazetteerlaw24.RangesClips'. -/
def rangesClipsCard : Claim7 := { stood := { row := rangesClipsRow, standIns := [], harness := (true, "8eb03fd48161c6b4a4763e9a2415a8d4298c2f40c51ceeb074f39348562b13b9"), looks := true }, kinds := [], alts := [], laidByText := true, laidKinds := [.data, .data, .data, .sentinel, .sentinel], laidTests := true, laidLooks := .later }
def RangesClipsCardSaid : Prop := Claim7.holds Tryd.pinned (.plain (OpenSpec.ofChange rangesClipsSpec)) rangesClipsCard

/-- THE TIED CARD OF 'gazetteerlaw35.OracleTells'. -/
def oracleTellsCard : Claim7 := { stood := { row := oracleTellsRow, standIns := [], harness := (true, "8eb03fd48161c6b4a4763e9a2415a8d4298c2f40c51ceeb074f39348562b13b9"), looks := true }, kinds := [], alts := [], laidByText := true, laidKinds := [.data, .data, .data, .sentinel, .sentinel], laidTests := true, laidLooks := .later }
def OracleTellsCardSaid : Prop := Claim7.holds Tryd.pinned (.plain (OpenSpec.ofChange oracleTellsSpec)) oracleTellsCard

/-- THE TIED CARD OF 'gazetteerlaw35.OracleCodes'. -/
def oracleCodesCard : Claim7 := { stood := { row := oracleCodesRow, standIns := [], harness := (true, "8eb03fd48161c6b4a4763e9a2415a8d4298c2f40c51ceeb074f39348562b13b9"), looks := true }, kinds := [], alts := [], laidByText := true, laidKinds := [.data, .data, .data, .sentinel, .sentinel], laidTests := true, laidLooks := .later }
def OracleCodesCardSaid : Prop := Claim7.holds Tryd.pinned (.plain (OpenSpec.ofChange oracleCodesSpec)) oracleCodesCard

/-- THE TIED CARD OF 'gazetteerlaw35.OracleTile'. -/
def oracleTileCard : Claim7 := { stood := { row := oracleTileRow, standIns := [], harness := (true, "8eb03fd48161c6b4a4763e9a2415a8d4298c2f40c51ceeb074f39348562b13b9"), looks := true }, kinds := [], alts := [], laidByText := true, laidKinds := [.data, .data, .data, .sentinel, .sentinel], laidTests := true, laidLooks := .later }
def OracleTileCardSaid : Prop := Claim7.holds Tryd.pinned (.plain (OpenSpec.ofChange oracleTileSpec)) oracleTileCard

/-- THE SECOND FORM's CARD OF 'gazetteerlaw34.RouteTells'. -/
def routeTellsUptoCard : Claim7 := { stood := { row := routeTellsUptoRow, standIns := [], harness := (true, "8eb03fd48161c6b4a4763e9a2415a8d4298c2f40c51ceeb074f39348562b13b9"), looks := true }, kinds := [], alts := [], laidByText := true, laidKinds := [.data, .data, .data, .sentinel, .sentinel], laidTests := true, laidLooks := .later }
def RouteTellsUptoCardSaid : Prop := Claim7.holds Tryd.pinned (.plain (OpenSpec.upto routeTellsSpec)) routeTellsUptoCard

/-- THE SECOND FORM's CARD OF 'gazetteerlaw34.RouteBack'. -/
def routeBackUptoCard : Claim7 := { stood := { row := routeBackUptoRow, standIns := [], harness := (true, "8eb03fd48161c6b4a4763e9a2415a8d4298c2f40c51ceeb074f39348562b13b9"), looks := true }, kinds := [], alts := [], laidByText := true, laidKinds := [.data, .data, .data, .sentinel, .sentinel], laidTests := true, laidLooks := .later }
def RouteBackUptoCardSaid : Prop := Claim7.holds Tryd.pinned (.plain (OpenSpec.upto routeBackSpec)) routeBackUptoCard

/-- THE SECOND FORM's CARD OF 'gazetteerlaw34.RouteBytes'. -/
def routeBytesUptoCard : Claim7 := { stood := { row := routeBytesUptoRow, standIns := [], harness := (true, "8eb03fd48161c6b4a4763e9a2415a8d4298c2f40c51ceeb074f39348562b13b9"), looks := true }, kinds := [], alts := [], laidByText := true, laidKinds := [.data, .data, .data, .sentinel, .sentinel], laidTests := true, laidLooks := .later }
def RouteBytesUptoCardSaid : Prop := Claim7.holds Tryd.pinned (.plain (OpenSpec.upto routeBytesSpec)) routeBytesUptoCard

/-- THE SECOND FORM's CARD OF 'gazetteerlaw24.RangesLays'. -/
def rangesLaysUptoCard : Claim7 := { stood := { row := rangesLaysUptoRow, standIns := [], harness := (true, "8eb03fd48161c6b4a4763e9a2415a8d4298c2f40c51ceeb074f39348562b13b9"), looks := true }, kinds := [], alts := [], laidByText := true, laidKinds := [.data, .data, .data, .sentinel, .sentinel], laidTests := true, laidLooks := .later }
def RangesLaysUptoCardSaid : Prop := Claim7.holds Tryd.pinned (.plain (OpenSpec.upto rangesLaysSpec)) rangesLaysUptoCard

/-- THE SECOND FORM's CARD OF 'gazetteerlaw24.RangesTakes'. -/
def rangesTakesUptoCard : Claim7 := { stood := { row := rangesTakesUptoRow, standIns := [], harness := (true, "8eb03fd48161c6b4a4763e9a2415a8d4298c2f40c51ceeb074f39348562b13b9"), looks := true }, kinds := [], alts := [], laidByText := true, laidKinds := [.data, .data, .data, .sentinel, .sentinel], laidTests := true, laidLooks := .later }
def RangesTakesUptoCardSaid : Prop := Claim7.holds Tryd.pinned (.plain (OpenSpec.upto rangesTakesSpec)) rangesTakesUptoCard

/-- THE SECOND FORM's CARD OF 'gazetteerlaw24.RangesBack'. -/
def rangesBackUptoCard : Claim7 := { stood := { row := rangesBackUptoRow, standIns := [], harness := (true, "8eb03fd48161c6b4a4763e9a2415a8d4298c2f40c51ceeb074f39348562b13b9"), looks := true }, kinds := [], alts := [], laidByText := true, laidKinds := [.data, .data, .data, .sentinel, .sentinel], laidTests := true, laidLooks := .later }
def RangesBackUptoCardSaid : Prop := Claim7.holds Tryd.pinned (.plain (OpenSpec.upto rangesBackSpec)) rangesBackUptoCard

/-- THE SECOND FORM's CARD OF 'gazetteerlaw24.RangesClips'. -/
def rangesClipsUptoCard : Claim7 := { stood := { row := rangesClipsUptoRow, standIns := [], harness := (true, "8eb03fd48161c6b4a4763e9a2415a8d4298c2f40c51ceeb074f39348562b13b9"), looks := true }, kinds := [], alts := [], laidByText := true, laidKinds := [.data, .data, .data, .sentinel, .sentinel], laidTests := true, laidLooks := .later }
def RangesClipsUptoCardSaid : Prop := Claim7.holds Tryd.pinned (.plain (OpenSpec.upto rangesClipsSpec)) rangesClipsUptoCard

/-- THE SECOND FORM's CARD OF 'gazetteerlaw35.OracleTells'. -/
def oracleTellsUptoCard : Claim7 := { stood := { row := oracleTellsUptoRow, standIns := [], harness := (true, "8eb03fd48161c6b4a4763e9a2415a8d4298c2f40c51ceeb074f39348562b13b9"), looks := true }, kinds := [], alts := [], laidByText := true, laidKinds := [.data, .data, .data, .sentinel, .sentinel], laidTests := true, laidLooks := .later }
def OracleTellsUptoCardSaid : Prop := Claim7.holds Tryd.pinned (.plain (OpenSpec.upto oracleTellsSpec)) oracleTellsUptoCard

/-- THE SECOND FORM's CARD OF 'gazetteerlaw35.OracleCodes'. -/
def oracleCodesUptoCard : Claim7 := { stood := { row := oracleCodesUptoRow, standIns := [], harness := (true, "8eb03fd48161c6b4a4763e9a2415a8d4298c2f40c51ceeb074f39348562b13b9"), looks := true }, kinds := [], alts := [], laidByText := true, laidKinds := [.data, .data, .data, .sentinel, .sentinel], laidTests := true, laidLooks := .later }
def OracleCodesUptoCardSaid : Prop := Claim7.holds Tryd.pinned (.plain (OpenSpec.upto oracleCodesSpec)) oracleCodesUptoCard

/-- THE SECOND FORM's CARD OF 'gazetteerlaw35.OracleTile'. -/
def oracleTileUptoCard : Claim7 := { stood := { row := oracleTileUptoRow, standIns := [], harness := (true, "8eb03fd48161c6b4a4763e9a2415a8d4298c2f40c51ceeb074f39348562b13b9"), looks := true }, kinds := [], alts := [], laidByText := true, laidKinds := [.data, .data, .data, .sentinel, .sentinel], laidTests := true, laidLooks := .later }
def OracleTileUptoCardSaid : Prop := Claim7.holds Tryd.pinned (.plain (OpenSpec.upto oracleTileSpec)) oracleTileUptoCard
end Rows
end Go.Proofs.YteeenbhmdacdiaaDoor
