/-
  DERIVED. GIVEN WITH THE SEED: THE CARDS: each row of YtdlihohkamajbaaDoorRows.lean that lists a variable, with what it lists TIED to the program's text (the seventh form; the later family's looks); each row that meets fmt, with fmt's text TOLD by the authors' own Lean function (tested against real Go, not proved from fmt's source: count such statements apart). THE CARD IS WHAT COUNTS. Prove the row's statement (the work); the ties are given (YtdlihohkamajbaaDoorTie.lean); close each card by the builder's one call (the guide's Derived/Test/ToyasCard.lean, 'card_holds'). Laid BY PROGRAM, IN A SANDBOX (cutbox-door.mjs). By AI agents, Wed Nov 11 2026. No macro, syntax, notation, axiom, sorry.
-/
import Derived.Test.YtdlihohkamajbaaDoorRows
import GoSem.ClaimSeven
namespace Go.Proofs.YtdlihohkamajbaaDoor
namespace Rows

/-- THE TIED CARD OF 'laws.FnExactBlocksOfGates'. -/
def fnExactBlocksOfGatesCard : Claim7 := { stood := { row := fnExactBlocksOfGatesRow, standIns := [], harness := (true, "7c16069d1309ccb5c5c937a4e74bce277b633287150b4c0880a8788de9d0ccb4"), looks := false }, kinds := [], alts := [], laidByText := true, laidKinds := [.data, .data, .data], laidTests := true, laidLooks := .later }
def FnExactBlocksOfGatesCardSaid : Prop := Claim7.holds Tryd.pinned (.plain (OpenSpec.ofChange fnExactBlocksOfGatesSpec)) fnExactBlocksOfGatesCard

/-- THE SECOND FORM's CARD OF 'laws.FnExactBlocksOfGates'. -/
def fnExactBlocksOfGatesUptoCard : Claim7 := { stood := { row := fnExactBlocksOfGatesUptoRow, standIns := [], harness := (true, "7c16069d1309ccb5c5c937a4e74bce277b633287150b4c0880a8788de9d0ccb4"), looks := false }, kinds := [], alts := [], laidByText := true, laidKinds := [.data, .data, .data], laidTests := true, laidLooks := .later }
def FnExactBlocksOfGatesUptoCardSaid : Prop := Claim7.holds Tryd.pinned (.plain (OpenSpec.upto fnExactBlocksOfGatesSpec)) fnExactBlocksOfGatesUptoCard
end Rows
end Go.Proofs.YtdlihohkamajbaaDoor
