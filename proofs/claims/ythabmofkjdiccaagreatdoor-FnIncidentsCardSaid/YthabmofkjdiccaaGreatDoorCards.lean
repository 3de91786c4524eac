/-
  DERIVED. GIVEN WITH THE SEED: THE CARDS: each row of YthabmofkjdiccaaGreatDoorRows.lean that lists a variable, with what it lists TIED to the program's text (the seventh form; the later family's looks); each row that meets fmt, with fmt's text TOLD by the authors' own Lean function (tested against real Go, not proved from fmt's source: count such statements apart). THE CARD IS WHAT COUNTS. Prove the row's statement (the work); the ties are given (YthabmofkjdiccaaGreatDoorTie.lean); close each card by the builder's one call (the guide's Derived/Test/ToyasCard.lean, 'card_holds'). Laid BY PROGRAM, IN A SANDBOX (cutbox-door.mjs). By AI agents, Wed Nov 11 2026. No macro, syntax, notation, axiom, sorry.
-/
import Derived.Test.YthabmofkjdiccaaGreatDoorRows
import GoSem.ClaimSeven
namespace Go.Proofs.YthabmofkjdiccaaGreatDoor
namespace Rows

/-- THE TIED CARD OF 'laws.FnSkill'. -/
def fnSkillCard : Claim7 := { stood := { row := fnSkillRow, standIns := [], harness := (true, "0c0155a1cbf59f053ebf13a570e8413328b6d512759060d757b19f1217756fef"), looks := true }, kinds := [], alts := [], laidByText := true, laidKinds := [.data, .data, .data, .data, .sentinel, .sentinel, .pinned], laidTests := true, laidLooks := .later }
def FnSkillCardSaid : Prop := Claim7.holds Tryz.pinned (.plain (OpenSpec.ofChange fnSkillSpec)) fnSkillCard

/-- THE TIED CARD OF 'laws.FnIncidents'. -/
def fnIncidentsCard : Claim7 := { stood := { row := fnIncidentsRow, standIns := [], harness := (true, "0c0155a1cbf59f053ebf13a570e8413328b6d512759060d757b19f1217756fef"), looks := true }, kinds := [], alts := [], laidByText := true, laidKinds := [.data, .data, .data, .data, .sentinel, .sentinel, .pinned], laidTests := true, laidLooks := .later }
def FnIncidentsCardSaid : Prop := Claim7.holds Tryz.pinned (.plain (OpenSpec.ofChange fnIncidentsSpec)) fnIncidentsCard

/-- THE SECOND FORM's CARD OF 'laws.FnSkill'. -/
def fnSkillUptoCard : Claim7 := { stood := { row := fnSkillUptoRow, standIns := [], harness := (true, "0c0155a1cbf59f053ebf13a570e8413328b6d512759060d757b19f1217756fef"), looks := true }, kinds := [], alts := [], laidByText := true, laidKinds := [.data, .data, .data, .data, .sentinel, .sentinel, .pinned], laidTests := true, laidLooks := .later }
def FnSkillUptoCardSaid : Prop := Claim7.holds Tryz.pinned (.plain (OpenSpec.upto fnSkillSpec)) fnSkillUptoCard

/-- THE SECOND FORM's CARD OF 'laws.FnIncidents'. -/
def fnIncidentsUptoCard : Claim7 := { stood := { row := fnIncidentsUptoRow, standIns := [], harness := (true, "0c0155a1cbf59f053ebf13a570e8413328b6d512759060d757b19f1217756fef"), looks := true }, kinds := [], alts := [], laidByText := true, laidKinds := [.data, .data, .data, .data, .sentinel, .sentinel, .pinned], laidTests := true, laidLooks := .later }
def FnIncidentsUptoCardSaid : Prop := Claim7.holds Tryz.pinned (.plain (OpenSpec.upto fnIncidentsSpec)) fnIncidentsUptoCard
end Rows
end Go.Proofs.YthabmofkjdiccaaGreatDoor
