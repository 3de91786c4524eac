/-
  DERIVED. GIVEN WITH THE SEED: THE CARDS: each row of YtdlihohkamajbaaGreatDoorRows.lean that lists a variable, with what it lists TIED to the program's text (the seventh form; the later family's looks); each row that meets fmt, with fmt's text TOLD by the authors' own Lean function (tested against real Go, not proved from fmt's source: count such statements apart). THE CARD IS WHAT COUNTS. Prove the row's statement (the work); the ties are given (YtdlihohkamajbaaGreatDoorTie.lean); close each card by the builder's one call (the guide's Derived/Test/ToyasCard.lean, 'card_holds'). Laid BY PROGRAM, IN A SANDBOX (cutbox-door.mjs). By AI agents, Wed Nov 11 2026. No macro, syntax, notation, axiom, sorry.
-/
import Derived.Test.YtdlihohkamajbaaGreatDoorRows
import GoSem.ClaimSeven
namespace Go.Proofs.YtdlihohkamajbaaGreatDoor
namespace Rows

/-- THE TIED CARD OF 'laws.FnSalvage'. -/
def fnSalvageCard : Claim7 := { stood := { row := fnSalvageRow, standIns := [], harness := (true, "9c62d6e98452651a121a5f380bc1ea574454579313d60c25dbee655bd7b8fff0"), looks := true }, kinds := [], alts := [], laidByText := true, laidKinds := [.data, .data, .data, .data, .pinned], laidTests := true, laidLooks := .later }
def FnSalvageCardSaid : Prop := Claim7.holds Tryz.pinned (.plain (OpenSpec.ofChange fnSalvageSpec)) fnSalvageCard

/-- THE TIED CARD OF 'laws.FnExactGatesOfBlocks'. -/
def fnExactGatesOfBlocksCard : Claim7 := { stood := { row := fnExactGatesOfBlocksRow, standIns := [], harness := (true, "9c62d6e98452651a121a5f380bc1ea574454579313d60c25dbee655bd7b8fff0"), looks := true }, kinds := [], alts := [], laidByText := true, laidKinds := [.data, .data, .data, .data, .sentinel, .sentinel, .pinned], laidTests := true, laidLooks := .later }
def FnExactGatesOfBlocksCardSaid : Prop := Claim7.holds Tryz.pinned (.plain (OpenSpec.ofChange fnExactGatesOfBlocksSpec)) fnExactGatesOfBlocksCard

/-- THE SECOND FORM's CARD OF 'laws.FnSalvage'. -/
def fnSalvageUptoCard : Claim7 := { stood := { row := fnSalvageUptoRow, standIns := [], harness := (true, "9c62d6e98452651a121a5f380bc1ea574454579313d60c25dbee655bd7b8fff0"), looks := true }, kinds := [], alts := [], laidByText := true, laidKinds := [.data, .data, .data, .data, .pinned], laidTests := true, laidLooks := .later }
def FnSalvageUptoCardSaid : Prop := Claim7.holds Tryz.pinned (.plain (OpenSpec.upto fnSalvageSpec)) fnSalvageUptoCard

/-- THE SECOND FORM's CARD OF 'laws.FnExactGatesOfBlocks'. -/
def fnExactGatesOfBlocksUptoCard : Claim7 := { stood := { row := fnExactGatesOfBlocksUptoRow, standIns := [], harness := (true, "9c62d6e98452651a121a5f380bc1ea574454579313d60c25dbee655bd7b8fff0"), looks := true }, kinds := [], alts := [], laidByText := true, laidKinds := [.data, .data, .data, .data, .sentinel, .sentinel, .pinned], laidTests := true, laidLooks := .later }
def FnExactGatesOfBlocksUptoCardSaid : Prop := Claim7.holds Tryz.pinned (.plain (OpenSpec.upto fnExactGatesOfBlocksSpec)) fnExactGatesOfBlocksUptoCard
end Rows
end Go.Proofs.YtdlihohkamajbaaGreatDoor
