/-
  DERIVED. GIVEN WITH THE SEED: THE CARDS: each row of YtaaholabodchaaaDoorRows.lean that lists a variable, with what it lists TIED to the program's text (the seventh form; the later family's looks); each row that meets fmt, with fmt's text TOLD by the authors' own Lean function (tested against real Go, not proved from fmt's source: count such statements apart). THE CARD IS WHAT COUNTS. Prove the row's statement (the work); the ties are given (YtaaholabodchaaaDoorTie.lean); close each card by the builder's one call (the guide's Derived/Test/ToyasCard.lean, 'card_holds'). Laid BY PROGRAM, IN A SANDBOX (cutbox-door.mjs). By AI agents, Wed Nov 11 2026. No macro, syntax, notation, axiom, sorry.
-/
import Derived.Test.YtaaholabodchaaaDoorRows
import GoSem.ClaimSeven
namespace Go.Proofs.YtaaholabodchaaaDoor
namespace Rows

/-- THE TIED CARD OF 'laws.FnExactReadVerified'. -/
def fnExactReadVerifiedCard : Claim7 := { stood := { row := fnExactReadVerifiedRow, standIns := [], harness := (true, "253a64d65cb8592549a524a5d7b05609e9786e015d5f1b3858255aa08aa82c55"), looks := true }, kinds := [], alts := [], laidByText := true, laidKinds := [.data, .data, .data, .data, .sentinel, .sentinel, .pinned], laidTests := true, laidLooks := .later }
def FnExactReadVerifiedCardSaid : Prop := Claim7.holds Tryd.pinned (.plain (OpenSpec.ofChange fnExactReadVerifiedSpec)) fnExactReadVerifiedCard

/-- THE TIED CARD OF 'laws.FnExactReadIncident'. -/
def fnExactReadIncidentCard : Claim7 := { stood := { row := fnExactReadIncidentRow, standIns := [], harness := (true, "253a64d65cb8592549a524a5d7b05609e9786e015d5f1b3858255aa08aa82c55"), looks := true }, kinds := [], alts := [], laidByText := true, laidKinds := [.data, .data, .data, .data, .sentinel, .sentinel, .pinned], laidTests := true, laidLooks := .later }
def FnExactReadIncidentCardSaid : Prop := Claim7.holds Tryd.pinned (.plain (OpenSpec.ofChange fnExactReadIncidentSpec)) fnExactReadIncidentCard

/-- THE SECOND FORM's CARD OF 'laws.FnExactReadVerified'. -/
def fnExactReadVerifiedUptoCard : Claim7 := { stood := { row := fnExactReadVerifiedUptoRow, standIns := [], harness := (true, "253a64d65cb8592549a524a5d7b05609e9786e015d5f1b3858255aa08aa82c55"), looks := true }, kinds := [], alts := [], laidByText := true, laidKinds := [.data, .data, .data, .data, .sentinel, .sentinel, .pinned], laidTests := true, laidLooks := .later }
def FnExactReadVerifiedUptoCardSaid : Prop := Claim7.holds Tryd.pinned (.plain (OpenSpec.upto fnExactReadVerifiedSpec)) fnExactReadVerifiedUptoCard

/-- THE SECOND FORM's CARD OF 'laws.FnExactReadIncident'. -/
def fnExactReadIncidentUptoCard : Claim7 := { stood := { row := fnExactReadIncidentUptoRow, standIns := [], harness := (true, "253a64d65cb8592549a524a5d7b05609e9786e015d5f1b3858255aa08aa82c55"), looks := true }, kinds := [], alts := [], laidByText := true, laidKinds := [.data, .data, .data, .data, .sentinel, .sentinel, .pinned], laidTests := true, laidLooks := .later }
def FnExactReadIncidentUptoCardSaid : Prop := Claim7.holds Tryd.pinned (.plain (OpenSpec.upto fnExactReadIncidentSpec)) fnExactReadIncidentUptoCard
end Rows
end Go.Proofs.YtaaholabodchaaaDoor
