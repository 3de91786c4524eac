/-
  DERIVED. GIVEN WITH THE SEED: THE CARDS: each row of YtmlconbekkdahaaGreatDoorRows.lean that lists a variable, with what it lists TIED to the program's text (the seventh form; the later family's looks); each row that meets fmt, with fmt's text TOLD by the authors' own Lean function (tested against real Go, not proved from fmt's source: count such statements apart). THE CARD IS WHAT COUNTS. Prove the row's statement (the work); the ties are given (YtmlconbekkdahaaGreatDoorTie.lean); close each card by the builder's one call (the guide's Derived/Test/ToyasCard.lean, 'card_holds'). Laid BY PROGRAM, IN A SANDBOX (cutbox-door.mjs). By AI agents, Wed Nov 11 2026. No macro, syntax, notation, axiom, sorry.
-/
import Derived.Test.YtmlconbekkdahaaGreatDoorRows
import GoSem.ClaimSeven
namespace Go.Proofs.YtmlconbekkdahaaGreatDoor
namespace Rows

/-- THE TIED CARD OF 'laws.FnWatches'. -/
def fnWatchesCard : Claim7 := { stood := { row := fnWatchesRow, standIns := [], harness := (true, "6caf16f22a2456918a95573fa9b39df1455a6ddc4a7c01a0652609f810fd4eb7"), looks := true }, kinds := [], alts := [], laidByText := true, laidKinds := [.data, .data, .data, .data, .sentinel, .sentinel, .pinned], laidTests := true, laidLooks := .later }
def FnWatchesCardSaid : Prop := Claim7.holds Tryz.pinned (.plain (OpenSpec.ofChange fnWatchesSpec)) fnWatchesCard

/-- THE SECOND FORM's CARD OF 'laws.FnWatches'. -/
def fnWatchesUptoCard : Claim7 := { stood := { row := fnWatchesUptoRow, standIns := [], harness := (true, "6caf16f22a2456918a95573fa9b39df1455a6ddc4a7c01a0652609f810fd4eb7"), looks := true }, kinds := [], alts := [], laidByText := true, laidKinds := [.data, .data, .data, .data, .sentinel, .sentinel, .pinned], laidTests := true, laidLooks := .later }
def FnWatchesUptoCardSaid : Prop := Claim7.holds Tryz.pinned (.plain (OpenSpec.upto fnWatchesSpec)) fnWatchesUptoCard
end Rows
end Go.Proofs.YtmlconbekkdahaaGreatDoor
