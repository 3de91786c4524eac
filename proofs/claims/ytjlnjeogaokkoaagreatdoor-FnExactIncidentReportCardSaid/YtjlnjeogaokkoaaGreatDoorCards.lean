/-
  DERIVED. GIVEN WITH THE SEED: THE CARDS: each row of YtjlnjeogaokkoaaGreatDoorRows.lean that lists a variable, with what it lists TIED to the program's text (the seventh form; the later family's looks); each row that meets fmt, with fmt's text TOLD by the authors' own Lean function (tested against real Go, not proved from fmt's source: count such statements apart). THE CARD IS WHAT COUNTS. Prove the row's statement (the work); the ties are given (YtjlnjeogaokkoaaGreatDoorTie.lean); close each card by the builder's one call (the guide's Derived/Test/ToyasCard.lean, 'card_holds'). Laid BY PROGRAM, IN A SANDBOX (cutbox-door.mjs). By AI agents, Wed Nov 11 2026. No macro, syntax, notation, axiom, sorry.
-/
import Derived.Test.YtjlnjeogaokkoaaGreatDoorRows
import GoSem.ClaimSeven
namespace Go.Proofs.YtjlnjeogaokkoaaGreatDoor
namespace Rows

/-- THE TIED CARD OF 'laws.FnExactIncidentReport'. -/
def fnExactIncidentReportCard : Claim7 := { stood := { row := fnExactIncidentReportRow, standIns := [], harness := (true, "e572277c2450d6b70985221c36f63d4a826f9bb130ef0ec4836d0dd16a0b69c0"), looks := false }, kinds := [], alts := [], laidByText := true, laidKinds := [.data, .data, .data, .data, .pinned], laidTests := true, laidLooks := .later }
def FnExactIncidentReportCardSaid : Prop := Claim7.holds Tryz.pinned (.plain (OpenSpec.ofChange fnExactIncidentReportSpec)) fnExactIncidentReportCard

/-- THE SECOND FORM's CARD OF 'laws.FnExactIncidentReport'. -/
def fnExactIncidentReportUptoCard : Claim7 := { stood := { row := fnExactIncidentReportUptoRow, standIns := [], harness := (true, "e572277c2450d6b70985221c36f63d4a826f9bb130ef0ec4836d0dd16a0b69c0"), looks := false }, kinds := [], alts := [], laidByText := true, laidKinds := [.data, .data, .data, .data, .pinned], laidTests := true, laidLooks := .later }
def FnExactIncidentReportUptoCardSaid : Prop := Claim7.holds Tryz.pinned (.plain (OpenSpec.upto fnExactIncidentReportSpec)) fnExactIncidentReportUptoCard
end Rows
end Go.Proofs.YtjlnjeogaokkoaaGreatDoor
