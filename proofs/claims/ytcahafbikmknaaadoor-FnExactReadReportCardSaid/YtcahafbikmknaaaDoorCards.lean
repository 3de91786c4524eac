/-
  DERIVED. GIVEN WITH THE SEED: THE CARDS: each row of YtcahafbikmknaaaDoorRows.lean that lists a variable, with what it lists TIED to the program's text (the seventh form; the later family's looks); each row that meets fmt, with fmt's text TOLD by the authors' own Lean function (tested against real Go, not proved from fmt's source: count such statements apart). THE CARD IS WHAT COUNTS. Prove the row's statement (the work); the ties are given (YtcahafbikmknaaaDoorTie.lean); close each card by the builder's one call (the guide's Derived/Test/ToyasCard.lean, 'card_holds'). Laid BY PROGRAM, IN A SANDBOX (cutbox-door.mjs). By AI agents, Wed Nov 11 2026. No macro, syntax, notation, axiom, sorry.
-/
import Derived.Test.YtcahafbikmknaaaDoorRows
import GoSem.ClaimSeven
namespace Go.Proofs.YtcahafbikmknaaaDoor
namespace Rows

/-- THE TIED CARD OF 'laws.FnExactReadReport'. -/
def fnExactReadReportCard : Claim7 := { stood := { row := fnExactReadReportRow, standIns := [], harness := (true, "82eb62a0b167e657df7d7511c5ecc3073e4232e5156c907982e690e61a6d3708"), looks := false }, kinds := [], alts := [], laidByText := true, laidKinds := [.data, .pinned], laidTests := true, laidLooks := .later }
def FnExactReadReportCardSaid : Prop := Claim7.holds Tryd.pinned (.plain (OpenSpec.ofChange fnExactReadReportSpec)) fnExactReadReportCard

/-- THE TIED CARD OF 'laws.FnExactTableLines'. -/
def fnExactTableLinesCard : Claim7 := { stood := { row := fnExactTableLinesRow, standIns := [], harness := (true, "82eb62a0b167e657df7d7511c5ecc3073e4232e5156c907982e690e61a6d3708"), looks := false }, kinds := [], alts := [], laidByText := true, laidKinds := [.data, .pinned], laidTests := true, laidLooks := .later }
def FnExactTableLinesCardSaid : Prop := Claim7.holds Tryd.pinned (.plain (OpenSpec.ofChange fnExactTableLinesSpec)) fnExactTableLinesCard

/-- THE SECOND FORM's CARD OF 'laws.FnExactReadReport'. -/
def fnExactReadReportUptoCard : Claim7 := { stood := { row := fnExactReadReportUptoRow, standIns := [], harness := (true, "82eb62a0b167e657df7d7511c5ecc3073e4232e5156c907982e690e61a6d3708"), looks := false }, kinds := [], alts := [], laidByText := true, laidKinds := [.data, .pinned], laidTests := true, laidLooks := .later }
def FnExactReadReportUptoCardSaid : Prop := Claim7.holds Tryd.pinned (.plain (OpenSpec.upto fnExactReadReportSpec)) fnExactReadReportUptoCard

/-- THE SECOND FORM's CARD OF 'laws.FnExactTableLines'. -/
def fnExactTableLinesUptoCard : Claim7 := { stood := { row := fnExactTableLinesUptoRow, standIns := [], harness := (true, "82eb62a0b167e657df7d7511c5ecc3073e4232e5156c907982e690e61a6d3708"), looks := false }, kinds := [], alts := [], laidByText := true, laidKinds := [.data, .pinned], laidTests := true, laidLooks := .later }
def FnExactTableLinesUptoCardSaid : Prop := Claim7.holds Tryd.pinned (.plain (OpenSpec.upto fnExactTableLinesSpec)) fnExactTableLinesUptoCard
end Rows
end Go.Proofs.YtcahafbikmknaaaDoor
