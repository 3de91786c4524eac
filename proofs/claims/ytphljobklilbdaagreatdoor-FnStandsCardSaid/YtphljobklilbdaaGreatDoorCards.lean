/-
  DERIVED. GIVEN WITH THE SEED: THE CARDS: each row of YtphljobklilbdaaGreatDoorRows.lean that lists a variable, with what it lists TIED to the program's text (the seventh form; the later family's looks); each row that meets fmt, with fmt's text TOLD by the authors' own Lean function (tested against real Go, not proved from fmt's source: count such statements apart). THE CARD IS WHAT COUNTS. Prove the row's statement (the work); the ties are given (YtphljobklilbdaaGreatDoorTie.lean); close each card by the builder's one call (the guide's Derived/Test/ToyasCard.lean, 'card_holds'). Laid BY PROGRAM, IN A SANDBOX (cutbox-door.mjs). By AI agents, Wed Nov 11 2026. No macro, syntax, notation, axiom, sorry.
-/
import Derived.Test.YtphljobklilbdaaGreatDoorRows
import GoSem.ClaimSeven
namespace Go.Proofs.YtphljobklilbdaaGreatDoor
namespace Rows

/-- THE TIED CARD OF 'laws.FnStands'. -/
def fnStandsCard : Claim7 := { stood := { row := fnStandsRow, standIns := [], harness := (true, "3bbfae45399a9669c96dc5d61afe2428409752741843511f818c8ae1f8c0d97e"), looks := true }, kinds := [], alts := [], laidByText := true, laidKinds := [.data, .data, .data, .data, .sentinel, .sentinel, .pinned], laidTests := true, laidLooks := .later }
def FnStandsCardSaid : Prop := Claim7.holds Tryz.pinned (.plain (OpenSpec.ofChange fnStandsSpec)) fnStandsCard

/-- THE SECOND FORM's CARD OF 'laws.FnStands'. -/
def fnStandsUptoCard : Claim7 := { stood := { row := fnStandsUptoRow, standIns := [], harness := (true, "3bbfae45399a9669c96dc5d61afe2428409752741843511f818c8ae1f8c0d97e"), looks := true }, kinds := [], alts := [], laidByText := true, laidKinds := [.data, .data, .data, .data, .sentinel, .sentinel, .pinned], laidTests := true, laidLooks := .later }
def FnStandsUptoCardSaid : Prop := Claim7.holds Tryz.pinned (.plain (OpenSpec.upto fnStandsSpec)) fnStandsUptoCard
end Rows
end Go.Proofs.YtphljobklilbdaaGreatDoor
