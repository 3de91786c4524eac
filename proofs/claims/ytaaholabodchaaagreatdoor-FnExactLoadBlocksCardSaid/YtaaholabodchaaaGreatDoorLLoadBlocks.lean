/- The program's LoadBlocks returns what the reference's returns, for every text, where the tables and the errors of Go's library lie as its text lays them (the card ties that). -/
import Derived.Test.YtaaholabodchaaaGreatDoorWLoadBlocks
import Derived.Test.YtaaholabodchaaaGreatDoorLawL
import Derived.Test.YtaaholabodchaaaGreatDoorDr
import Derived.Test.YtaaholabodchaaaGreatDoorTie
import Derived.Test.YtaaholabodchaaaGreatDoorCards
import Derived.SevenTiedAt
import Derived.Test.YtaaholabodchaaaGreatDoorOpen
namespace Go.Proofs.YtaaholabodchaaaGreatDoor
open Go.RowKit Go.WideShapes Go.ChangeShapes Go.ChangeAt

set_option linter.unusedVariables false
set_option maxRecDepth 100000 in
theorem loadBlocks_lifted (os : Os) (started : os.Started) (H : Type) (enc : TypeId × Value → H) :
    ReturnsInHanded {} Tryz.checked os 3 .any (fun w args => (Rows.fnExactLoadBlocksSpec.pre enc Tryz.checked.prog Tryz.f3 [] false w args ∧ laidMetH Tryz.checked.prog Rows.fnExactLoadBlocksRow.laid w) ∧ sizedMet enc Tryz.checked.prog Tryz.f3 (OpenSpec.ofChange Rows.fnExactLoadBlocksSpec) false w args) (Rows.fnExactLoadBlocksSpec.post enc Tryz.checked.prog Tryz.f3 false true false false) := by
  refine law_liftedL Rows.fnExactLoadBlocksRow.laid os started H enc Tryz.func3 (by kernel_rfl)
    (ChangeSpec.witness_shaped (enc := enc) (C := Tryz.checked) (os := os) (X := fun w _ => laidMetH Tryz.checked.prog Rows.fnExactLoadBlocksRow.laid w) false (doorWorld os) #[.string ⟨#[]⟩] 8 rfl (World.shaped_of_RefB (by kernel_rfl) (by kernel_rfl)) (by kernel_rfl) (by kernel_rfl) (by kernel_rfl)
      (laidMetH_of_parts3 (fuel := 8) (laidMet_of_run' 8 (by kernel_rfl) (by kernel_rfl)) (by kernel_rfl) (by kernel_rfl))) rfl rfl ?_ ?_ ?_
  · intro t ht
    rw [Tryz.params3] at ht
    simp at ht
    rcases ht with rfl
    all_goals exact ⟨by kernel_rfl, of_decide_eq_true (by kernel_rfl)⟩
  · intro ds hd
    rw [Tryz.params3] at hd
    match ds, hd with
    | [d0], _ => rfl
  · intro W args ds p hsh hlaid hval hA hfz
    rw [Tryz.params3] at hA hval
    obtain ⟨args⟩ := args
    obtain ⟨v0, vs0, d0, ds0, p0, q0, hargs, rfl, rfl, h0, r0⟩ := trodAll_cons hA
    obtain ⟨rfl, rfl, rfl⟩ := trodAll_nil r0
    simp only at hargs
    subst hargs
    clear hA
    obtain ⟨base0, hv0⟩ := hval 0 9 v0 rfl rfl
    obtain ⟨a0, rfl, hd0, hp0, wk0⟩ := Go.ChangeMaps.open_string Tryz.underlying9 hv0 h0
    exact walkLoadBlocks a0 W wk0 hsh (rdTabs_of hlaid (by kernel_rfl) (by kernel_rfl) (by kernel_rfl))

theorem loadBlocks_row_holds : Rows.FnExactLoadBlocksSaid :=
  OpenClaim.holds_of_wide 3 Tryz.f3 rfl rfl rfl rfl rfl rfl rfl ⟨rfl, rfl, rfl, rfl, rfl⟩ rfl rfl rfl rfl rfl (by kernel_rfl) Tryz.func3 (by kernel_rfl)
    (of_decide_eq_true (by kernel_rfl)) (by unfold Func.isWrapper; rw [if_neg (of_decide_eq_false (by kernel_rfl))]; exact ⟨rfl, rfl⟩)
    (fun os started H enc _ => loadBlocks_lifted os started H enc)

/-- The tied card. -/
theorem loadBlocks_holds : Rows.FnExactLoadBlocksCardSaid :=
  Claim7.holds_tied_plain_at .later [] Rows.fnExactLoadBlocksCard.laidKinds true Rows.fnExactLoadBlocksCard.stood.harness Rows.fnExactLoadBlocksCard.stood.looks
    loadBlocks_row_holds (fun _ h => by cases h) (by kernel_rfl) (fun _ h => by cases h) fnExactLoadBlocks_row_tie rfl ⟨rfl, rfl⟩ (by kernel_rfl) rfl
    (fun f fn hf hfn => by
      obtain rfl : f = 3 := Option.some.inj ((show Tryz.prog.funcNamed Rows.fnExactLoadBlocksRow.func = some 3 by kernel_rfl).symm.trans hf) |>.symm
      obtain rfl : fn = Tryz.f3 := (Option.some.inj (Tryz.func3.symm.trans hfn)).symm
      exact ⟨by kernel_rfl, fun j t ht => by
        rw [Tryz.params3] at ht
        have hm : t ∈ [9] := by simpa using Array.mem_of_getElem? ht
        have hall : ([9].all fun u => !Tryz.prog.wantsStandIn u) = true := by kernel_rfl
        exact (show Tryz.prog.wantsStandIn t = false by simpa using List.all_eq_true.1 hall t hm)⟩)
    (by kernel_rfl)

#print axioms loadBlocks_holds
end Go.Proofs.YtaaholabodchaaaGreatDoor
