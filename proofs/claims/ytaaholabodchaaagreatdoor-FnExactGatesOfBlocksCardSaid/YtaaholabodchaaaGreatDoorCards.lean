/-
  DERIVED. GIVEN WITH THE SEED: THE CARDS: each row of YtaaholabodchaaaGreatDoorRows.lean that lists a variable, with what it lists TIED to the program's text (the seventh form; the later family's looks); each row that meets fmt, with fmt's text TOLD by the authors' own Lean function (tested against real Go, not proved from fmt's source: count such statements apart). THE CARD IS WHAT COUNTS. Prove the row's statement (the work); the ties are given (YtaaholabodchaaaGreatDoorTie.lean); close each card by the builder's one call (the guide's Derived/Test/ToyasCard.lean, 'card_holds'). Laid BY PROGRAM, IN A SANDBOX (cutbox-door.mjs). By AI agents, Wed Nov 11 2026. No macro, syntax, notation, axiom, sorry.
-/
import Derived.Test.YtaaholabodchaaaGreatDoorRows
import GoSem.ClaimSeven
namespace Go.Proofs.YtaaholabodchaaaGreatDoor
namespace Rows

/-- THE TIED CARD OF 'laws.FnExactLoadBlocks'. -/
def fnExactLoadBlocksCard : Claim7 := { stood := { row := fnExactLoadBlocksRow, standIns := [], harness := (true, "14c0165865cf095555aab28d7942e87acd712806fbffb4d555c30d70ea0f3b31"), looks := true }, kinds := [], alts := [], laidByText := true, laidKinds := [.data, .data, .data, .data, .sentinel, .sentinel, .pinned], laidTests := true, laidLooks := .later }
def FnExactLoadBlocksCardSaid : Prop := Claim7.holds Tryz.pinned (.plain (OpenSpec.ofChange fnExactLoadBlocksSpec)) fnExactLoadBlocksCard

/-- THE TIED CARD OF 'laws.FnExactGatesOfBlocks'. -/
def fnExactGatesOfBlocksCard : Claim7 := { stood := { row := fnExactGatesOfBlocksRow, standIns := [], harness := (true, "14c0165865cf095555aab28d7942e87acd712806fbffb4d555c30d70ea0f3b31"), looks := true }, kinds := [], alts := [], laidByText := true, laidKinds := [.data, .data, .data, .data, .sentinel, .sentinel, .pinned], laidTests := true, laidLooks := .later }
def FnExactGatesOfBlocksCardSaid : Prop := Claim7.holds Tryz.pinned (.plain (OpenSpec.ofChange fnExactGatesOfBlocksSpec)) fnExactGatesOfBlocksCard

/-- THE SECOND FORM's CARD OF 'laws.FnExactLoadBlocks'. -/
def fnExactLoadBlocksUptoCard : Claim7 := { stood := { row := fnExactLoadBlocksUptoRow, standIns := [], harness := (true, "14c0165865cf095555aab28d7942e87acd712806fbffb4d555c30d70ea0f3b31"), looks := true }, kinds := [], alts := [], laidByText := true, laidKinds := [.data, .data, .data, .data, .sentinel, .sentinel, .pinned], laidTests := true, laidLooks := .later }
def FnExactLoadBlocksUptoCardSaid : Prop := Claim7.holds Tryz.pinned (.plain (OpenSpec.upto fnExactLoadBlocksSpec)) fnExactLoadBlocksUptoCard

/-- THE SECOND FORM's CARD OF 'laws.FnExactGatesOfBlocks'. -/
def fnExactGatesOfBlocksUptoCard : Claim7 := { stood := { row := fnExactGatesOfBlocksUptoRow, standIns := [], harness := (true, "14c0165865cf095555aab28d7942e87acd712806fbffb4d555c30d70ea0f3b31"), looks := true }, kinds := [], alts := [], laidByText := true, laidKinds := [.data, .data, .data, .data, .sentinel, .sentinel, .pinned], laidTests := true, laidLooks := .later }
def FnExactGatesOfBlocksUptoCardSaid : Prop := Claim7.holds Tryz.pinned (.plain (OpenSpec.upto fnExactGatesOfBlocksSpec)) fnExactGatesOfBlocksUptoCard
end Rows
end Go.Proofs.YtaaholabodchaaaGreatDoor
