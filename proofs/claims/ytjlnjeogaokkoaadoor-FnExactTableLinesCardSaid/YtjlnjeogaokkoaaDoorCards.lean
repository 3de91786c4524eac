/-
  DERIVED. GIVEN WITH THE SEED: THE CARDS: each row of YtjlnjeogaokkoaaDoorRows.lean that lists a variable, with what it lists TIED to the program's text (the seventh form; the later family's looks); each row that meets fmt, with fmt's text TOLD by the authors' own Lean function (tested against real Go, not proved from fmt's source: count such statements apart). THE CARD IS WHAT COUNTS. Prove the row's statement (the work); the ties are given (YtjlnjeogaokkoaaDoorTie.lean); close each card by the builder's one call (the guide's Derived/Test/ToyasCard.lean, 'card_holds'). Laid BY PROGRAM, IN A SANDBOX (cutbox-door.mjs). By AI agents, Wed Nov 11 2026. No macro, syntax, notation, axiom, sorry.
-/
import Derived.Test.YtjlnjeogaokkoaaDoorRows
import GoSem.ClaimSeven
namespace Go.Proofs.YtjlnjeogaokkoaaDoor
namespace Rows

/-- THE TIED CARD OF 'laws.FnExactTableLines'. -/
def fnExactTableLinesCard : Claim7 := { stood := { row := fnExactTableLinesRow, standIns := [], harness := (true, "cac1ac56eff72ba7af017c78177f13d11883760b8f21c204ef26d2ff842e1c4f"), looks := true }, kinds := [], alts := [], laidByText := true, laidKinds := [.data, .pinned], laidTests := true, laidLooks := .later }
def FnExactTableLinesCardSaid : Prop := Claim7.holds Tryd.pinned (.plain (OpenSpec.ofChange fnExactTableLinesSpec)) fnExactTableLinesCard

/-- THE TIED CARD OF 'laws.FnExactReadVerified'. -/
def fnExactReadVerifiedCard : Claim7 := { stood := { row := fnExactReadVerifiedRow, standIns := [], harness := (true, "cac1ac56eff72ba7af017c78177f13d11883760b8f21c204ef26d2ff842e1c4f"), looks := true }, kinds := [], alts := [], laidByText := true, laidKinds := [.data, .data, .data, .data, .sentinel, .sentinel, .pinned], laidTests := true, laidLooks := .later }
def FnExactReadVerifiedCardSaid : Prop := Claim7.holds Tryd.pinned (.plain (OpenSpec.ofChange fnExactReadVerifiedSpec)) fnExactReadVerifiedCard

/-- THE TIED CARD OF 'laws.FnExactReadIncident'. -/
def fnExactReadIncidentCard : Claim7 := { stood := { row := fnExactReadIncidentRow, standIns := [], harness := (true, "cac1ac56eff72ba7af017c78177f13d11883760b8f21c204ef26d2ff842e1c4f"), looks := true }, kinds := [], alts := [], laidByText := true, laidKinds := [.data, .data, .data, .data, .sentinel, .sentinel, .pinned], laidTests := true, laidLooks := .later }
def FnExactReadIncidentCardSaid : Prop := Claim7.holds Tryd.pinned (.plain (OpenSpec.ofChange fnExactReadIncidentSpec)) fnExactReadIncidentCard

/-- THE SECOND FORM's CARD OF 'laws.FnExactTableLines'. -/
def fnExactTableLinesUptoCard : Claim7 := { stood := { row := fnExactTableLinesUptoRow, standIns := [], harness := (true, "cac1ac56eff72ba7af017c78177f13d11883760b8f21c204ef26d2ff842e1c4f"), looks := true }, kinds := [], alts := [], laidByText := true, laidKinds := [.data, .pinned], laidTests := true, laidLooks := .later }
def FnExactTableLinesUptoCardSaid : Prop := Claim7.holds Tryd.pinned (.plain (OpenSpec.upto fnExactTableLinesSpec)) fnExactTableLinesUptoCard

/-- THE SECOND FORM's CARD OF 'laws.FnExactReadVerified'. -/
def fnExactReadVerifiedUptoCard : Claim7 := { stood := { row := fnExactReadVerifiedUptoRow, standIns := [], harness := (true, "cac1ac56eff72ba7af017c78177f13d11883760b8f21c204ef26d2ff842e1c4f"), looks := true }, kinds := [], alts := [], laidByText := true, laidKinds := [.data, .data, .data, .data, .sentinel, .sentinel, .pinned], laidTests := true, laidLooks := .later }
def FnExactReadVerifiedUptoCardSaid : Prop := Claim7.holds Tryd.pinned (.plain (OpenSpec.upto fnExactReadVerifiedSpec)) fnExactReadVerifiedUptoCard

/-- THE SECOND FORM's CARD OF 'laws.FnExactReadIncident'. -/
def fnExactReadIncidentUptoCard : Claim7 := { stood := { row := fnExactReadIncidentUptoRow, standIns := [], harness := (true, "cac1ac56eff72ba7af017c78177f13d11883760b8f21c204ef26d2ff842e1c4f"), looks := true }, kinds := [], alts := [], laidByText := true, laidKinds := [.data, .data, .data, .data, .sentinel, .sentinel, .pinned], laidTests := true, laidLooks := .later }
def FnExactReadIncidentUptoCardSaid : Prop := Claim7.holds Tryd.pinned (.plain (OpenSpec.upto fnExactReadIncidentSpec)) fnExactReadIncidentUptoCard
end Rows
end Go.Proofs.YtjlnjeogaokkoaaDoor
