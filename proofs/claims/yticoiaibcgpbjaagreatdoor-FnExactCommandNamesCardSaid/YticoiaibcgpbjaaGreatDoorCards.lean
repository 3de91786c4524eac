/-
  DERIVED. GIVEN WITH THE SEED: THE CARDS: each row of YticoiaibcgpbjaaGreatDoorRows.lean that lists a variable, with what it lists TIED to the program's text (the seventh form; the later family's looks); each row that meets fmt, with fmt's text TOLD by the authors' own Lean function (tested against real Go, not proved from fmt's source: count such statements apart). THE CARD IS WHAT COUNTS. Prove the row's statement (the work); the ties are given (YticoiaibcgpbjaaGreatDoorTie.lean); close each card by the builder's one call (the guide's Derived/Test/ToyasCard.lean, 'card_holds'). Laid BY PROGRAM, IN A SANDBOX (cutbox-door.mjs). By AI agents, Wed Nov 11 2026. No macro, syntax, notation, axiom, sorry.
-/
import Derived.Test.YticoiaibcgpbjaaGreatDoorRows
import GoSem.ClaimSeven
namespace Go.Proofs.YticoiaibcgpbjaaGreatDoor
namespace Rows

/-- THE TIED CARD OF 'laws.FnExactCommandNames'. -/
def fnExactCommandNamesCard : Claim7 := { stood := { row := fnExactCommandNamesRow, standIns := [], harness := (true, "4fab7a973aa3057a2e7f04625ac48d9a8d30e8189208779c0342a8e2590fdec0"), looks := true }, kinds := [], alts := [], laidByText := true, laidKinds := [.data, .data, .data, .data, .sentinel, .sentinel, .pinned], laidTests := true, laidLooks := .later }
def FnExactCommandNamesCardSaid : Prop := Claim7.holds Tryz.pinned (.plain (OpenSpec.ofChange fnExactCommandNamesSpec)) fnExactCommandNamesCard

/-- THE SECOND FORM's CARD OF 'laws.FnExactCommandNames'. -/
def fnExactCommandNamesUptoCard : Claim7 := { stood := { row := fnExactCommandNamesUptoRow, standIns := [], harness := (true, "4fab7a973aa3057a2e7f04625ac48d9a8d30e8189208779c0342a8e2590fdec0"), looks := true }, kinds := [], alts := [], laidByText := true, laidKinds := [.data, .data, .data, .data, .sentinel, .sentinel, .pinned], laidTests := true, laidLooks := .later }
def FnExactCommandNamesUptoCardSaid : Prop := Claim7.holds Tryz.pinned (.plain (OpenSpec.upto fnExactCommandNamesSpec)) fnExactCommandNamesUptoCard
end Rows
end Go.Proofs.YticoiaibcgpbjaaGreatDoor
