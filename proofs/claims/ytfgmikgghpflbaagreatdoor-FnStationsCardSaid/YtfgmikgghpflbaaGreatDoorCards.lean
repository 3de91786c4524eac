/-
  DERIVED. GIVEN WITH THE SEED: THE CARDS: each row of YtfgmikgghpflbaaGreatDoorRows.lean that lists a variable, with what it lists TIED to the program's text (the seventh form; the later family's looks); each row that meets fmt, with fmt's text TOLD by the authors' own Lean function (tested against real Go, not proved from fmt's source: count such statements apart). THE CARD IS WHAT COUNTS. Prove the row's statement (the work); the ties are given (YtfgmikgghpflbaaGreatDoorTie.lean); close each card by the builder's one call (the guide's Derived/Test/ToyasCard.lean, 'card_holds'). Laid BY PROGRAM, IN A SANDBOX (cutbox-door.mjs). By AI agents, Wed Nov 11 2026. No macro, syntax, notation, axiom, sorry.
-/
import Derived.Test.YtfgmikgghpflbaaGreatDoorRows
import GoSem.ClaimSeven
namespace Go.Proofs.YtfgmikgghpflbaaGreatDoor
namespace Rows

/-- THE TIED CARD OF 'laws.FnTests'. -/
def fnTestsCard : Claim7 := { stood := { row := fnTestsRow, standIns := [], harness := (true, "5eb2771d9ab803d5e0157c077f9bd94061dbbc7f18182d27e39e91533cddfc71"), looks := true }, kinds := [], alts := [], laidByText := true, laidKinds := [.data, .data, .data, .data, .sentinel, .sentinel, .pinned], laidTests := true, laidLooks := .later }
def FnTestsCardSaid : Prop := Claim7.holds Tryz.pinned (.plain (OpenSpec.ofChange fnTestsSpec)) fnTestsCard

/-- THE TIED CARD OF 'laws.FnGroups'. -/
def fnGroupsCard : Claim7 := { stood := { row := fnGroupsRow, standIns := [], harness := (true, "5eb2771d9ab803d5e0157c077f9bd94061dbbc7f18182d27e39e91533cddfc71"), looks := true }, kinds := [], alts := [], laidByText := true, laidKinds := [.data, .data, .data, .data, .sentinel, .sentinel, .pinned], laidTests := true, laidLooks := .later }
def FnGroupsCardSaid : Prop := Claim7.holds Tryz.pinned (.plain (OpenSpec.ofChange fnGroupsSpec)) fnGroupsCard

/-- THE TIED CARD OF 'laws.FnStations'. -/
def fnStationsCard : Claim7 := { stood := { row := fnStationsRow, standIns := [], harness := (true, "5eb2771d9ab803d5e0157c077f9bd94061dbbc7f18182d27e39e91533cddfc71"), looks := true }, kinds := [], alts := [], laidByText := true, laidKinds := [.data, .data, .data, .data, .sentinel, .sentinel, .pinned], laidTests := true, laidLooks := .later }
def FnStationsCardSaid : Prop := Claim7.holds Tryz.pinned (.plain (OpenSpec.ofChange fnStationsSpec)) fnStationsCard

/-- THE TIED CARD OF 'laws.FnWatches'. -/
def fnWatchesCard : Claim7 := { stood := { row := fnWatchesRow, standIns := [], harness := (true, "5eb2771d9ab803d5e0157c077f9bd94061dbbc7f18182d27e39e91533cddfc71"), looks := true }, kinds := [], alts := [], laidByText := true, laidKinds := [.data, .data, .data, .data, .sentinel, .sentinel, .pinned], laidTests := true, laidLooks := .later }
def FnWatchesCardSaid : Prop := Claim7.holds Tryz.pinned (.plain (OpenSpec.ofChange fnWatchesSpec)) fnWatchesCard

/-- THE TIED CARD OF 'laws.FnSkill'. -/
def fnSkillCard : Claim7 := { stood := { row := fnSkillRow, standIns := [], harness := (true, "5eb2771d9ab803d5e0157c077f9bd94061dbbc7f18182d27e39e91533cddfc71"), looks := true }, kinds := [], alts := [], laidByText := true, laidKinds := [.data, .data, .data, .data, .sentinel, .sentinel, .pinned], laidTests := true, laidLooks := .later }
def FnSkillCardSaid : Prop := Claim7.holds Tryz.pinned (.plain (OpenSpec.ofChange fnSkillSpec)) fnSkillCard

/-- THE TIED CARD OF 'laws.FnIncidents'. -/
def fnIncidentsCard : Claim7 := { stood := { row := fnIncidentsRow, standIns := [], harness := (true, "5eb2771d9ab803d5e0157c077f9bd94061dbbc7f18182d27e39e91533cddfc71"), looks := true }, kinds := [], alts := [], laidByText := true, laidKinds := [.data, .data, .data, .data, .sentinel, .sentinel, .pinned], laidTests := true, laidLooks := .later }
def FnIncidentsCardSaid : Prop := Claim7.holds Tryz.pinned (.plain (OpenSpec.ofChange fnIncidentsSpec)) fnIncidentsCard

/-- THE SECOND FORM's CARD OF 'laws.FnTests'. -/
def fnTestsUptoCard : Claim7 := { stood := { row := fnTestsUptoRow, standIns := [], harness := (true, "5eb2771d9ab803d5e0157c077f9bd94061dbbc7f18182d27e39e91533cddfc71"), looks := true }, kinds := [], alts := [], laidByText := true, laidKinds := [.data, .data, .data, .data, .sentinel, .sentinel, .pinned], laidTests := true, laidLooks := .later }
def FnTestsUptoCardSaid : Prop := Claim7.holds Tryz.pinned (.plain (OpenSpec.upto fnTestsSpec)) fnTestsUptoCard

/-- THE SECOND FORM's CARD OF 'laws.FnGroups'. -/
def fnGroupsUptoCard : Claim7 := { stood := { row := fnGroupsUptoRow, standIns := [], harness := (true, "5eb2771d9ab803d5e0157c077f9bd94061dbbc7f18182d27e39e91533cddfc71"), looks := true }, kinds := [], alts := [], laidByText := true, laidKinds := [.data, .data, .data, .data, .sentinel, .sentinel, .pinned], laidTests := true, laidLooks := .later }
def FnGroupsUptoCardSaid : Prop := Claim7.holds Tryz.pinned (.plain (OpenSpec.upto fnGroupsSpec)) fnGroupsUptoCard

/-- THE SECOND FORM's CARD OF 'laws.FnStations'. -/
def fnStationsUptoCard : Claim7 := { stood := { row := fnStationsUptoRow, standIns := [], harness := (true, "5eb2771d9ab803d5e0157c077f9bd94061dbbc7f18182d27e39e91533cddfc71"), looks := true }, kinds := [], alts := [], laidByText := true, laidKinds := [.data, .data, .data, .data, .sentinel, .sentinel, .pinned], laidTests := true, laidLooks := .later }
def FnStationsUptoCardSaid : Prop := Claim7.holds Tryz.pinned (.plain (OpenSpec.upto fnStationsSpec)) fnStationsUptoCard

/-- THE SECOND FORM's CARD OF 'laws.FnWatches'. -/
def fnWatchesUptoCard : Claim7 := { stood := { row := fnWatchesUptoRow, standIns := [], harness := (true, "5eb2771d9ab803d5e0157c077f9bd94061dbbc7f18182d27e39e91533cddfc71"), looks := true }, kinds := [], alts := [], laidByText := true, laidKinds := [.data, .data, .data, .data, .sentinel, .sentinel, .pinned], laidTests := true, laidLooks := .later }
def FnWatchesUptoCardSaid : Prop := Claim7.holds Tryz.pinned (.plain (OpenSpec.upto fnWatchesSpec)) fnWatchesUptoCard

/-- THE SECOND FORM's CARD OF 'laws.FnSkill'. -/
def fnSkillUptoCard : Claim7 := { stood := { row := fnSkillUptoRow, standIns := [], harness := (true, "5eb2771d9ab803d5e0157c077f9bd94061dbbc7f18182d27e39e91533cddfc71"), looks := true }, kinds := [], alts := [], laidByText := true, laidKinds := [.data, .data, .data, .data, .sentinel, .sentinel, .pinned], laidTests := true, laidLooks := .later }
def FnSkillUptoCardSaid : Prop := Claim7.holds Tryz.pinned (.plain (OpenSpec.upto fnSkillSpec)) fnSkillUptoCard

/-- THE SECOND FORM's CARD OF 'laws.FnIncidents'. -/
def fnIncidentsUptoCard : Claim7 := { stood := { row := fnIncidentsUptoRow, standIns := [], harness := (true, "5eb2771d9ab803d5e0157c077f9bd94061dbbc7f18182d27e39e91533cddfc71"), looks := true }, kinds := [], alts := [], laidByText := true, laidKinds := [.data, .data, .data, .data, .sentinel, .sentinel, .pinned], laidTests := true, laidLooks := .later }
def FnIncidentsUptoCardSaid : Prop := Claim7.holds Tryz.pinned (.plain (OpenSpec.upto fnIncidentsSpec)) fnIncidentsUptoCard
end Rows
end Go.Proofs.YtfgmikgghpflbaaGreatDoor
