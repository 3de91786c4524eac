/- The program's ReadIncident returns what the reference's returns, for every text, where the tables and the errors of Go's library lie as its text lays them (the card ties that). -/
import Derived.Test.YtaaholabodchaaaDoorWReadIncident
import Derived.Test.YtaaholabodchaaaDoorLawL
import Derived.Test.YtaaholabodchaaaDoorDr
import Derived.Test.YtaaholabodchaaaDoorTie
import Derived.Test.YtaaholabodchaaaDoorCards
import Derived.SevenTiedAt
import Derived.Test.YtaaholabodchaaaDoorOpen
namespace Go.Proofs.YtaaholabodchaaaDoor
open Go.RowKit Go.WideShapes Go.ChangeShapes Go.ChangeAt

set_option linter.unusedVariables false
set_option maxRecDepth 100000 in
theorem readIncident_lifted (os : Os) (started : os.Started) (H : Type) (enc : TypeId × Value → H) :
    ReturnsInHanded {} Tryd.checked os 4 .any (fun w args => (Rows.fnExactReadIncidentSpec.pre enc Tryd.checked.prog Tryd.f4 [] false w args ∧ laidMetH Tryd.checked.prog Rows.fnExactReadIncidentRow.laid w) ∧ sizedMet enc Tryd.checked.prog Tryd.f4 (OpenSpec.ofChange Rows.fnExactReadIncidentSpec) false w args) (Rows.fnExactReadIncidentSpec.post enc Tryd.checked.prog Tryd.f4 false true false false) := by
  refine law_liftedL Rows.fnExactReadIncidentRow.laid os started H enc Tryd.func4 (by kernel_rfl)
    (ChangeSpec.witness_shaped (enc := enc) (C := Tryd.checked) (os := os) (X := fun w _ => laidMetH Tryd.checked.prog Rows.fnExactReadIncidentRow.laid w) false (doorWorld os) #[.string ⟨#[]⟩] 8 rfl (World.shaped_of_RefB (by kernel_rfl) (by kernel_rfl)) (by kernel_rfl) (by kernel_rfl) (by kernel_rfl)
      (laidMetH_of_parts3 (fuel := 8) (laidMet_of_run' 8 (by kernel_rfl) (by kernel_rfl)) (by kernel_rfl) (by kernel_rfl))) rfl rfl ?_ ?_ ?_
  · intro t ht
    rw [Tryd.params4] at ht
    simp at ht
    rcases ht with rfl
    all_goals exact ⟨by kernel_rfl, of_decide_eq_true (by kernel_rfl)⟩
  · intro ds hd
    rw [Tryd.params4] at hd
    match ds, hd with
    | [d0], _ => rfl
  · intro W args ds p hsh hlaid hval hA hfz
    rw [Tryd.params4] at hA hval
    obtain ⟨args⟩ := args
    obtain ⟨v0, vs0, d0, ds0, p0, q0, hargs, rfl, rfl, h0, r0⟩ := trodAll_cons hA
    obtain ⟨rfl, rfl, rfl⟩ := trodAll_nil r0
    simp only at hargs
    subst hargs
    clear hA
    obtain ⟨base0, hv0⟩ := hval 0 9 v0 rfl rfl
    obtain ⟨a0, rfl, hd0, hp0, wk0⟩ := Go.ChangeMaps.open_string Tryd.underlying9 hv0 h0
    exact walkReadIncident a0 W wk0 hsh (rdTabs_of hlaid (by kernel_rfl) (by kernel_rfl) (by kernel_rfl))

theorem readIncident_row_holds : Rows.FnExactReadIncidentSaid :=
  OpenClaim.holds_of_wide 4 Tryd.f4 rfl rfl rfl rfl rfl rfl rfl ⟨rfl, rfl, rfl, rfl, rfl⟩ rfl rfl rfl rfl rfl (by kernel_rfl) Tryd.func4 (by kernel_rfl)
    (of_decide_eq_true (by kernel_rfl)) (by unfold Func.isWrapper; rw [if_neg (of_decide_eq_false (by kernel_rfl))]; exact ⟨rfl, rfl⟩)
    (fun os started H enc _ => readIncident_lifted os started H enc)

/-- The tied card. -/
theorem readIncident_holds : Rows.FnExactReadIncidentCardSaid :=
  Claim7.holds_tied_plain_at .later [] Rows.fnExactReadIncidentCard.laidKinds true Rows.fnExactReadIncidentCard.stood.harness Rows.fnExactReadIncidentCard.stood.looks
    readIncident_row_holds (fun _ h => by cases h) (by kernel_rfl) (fun _ h => by cases h) fnExactReadIncident_row_tie rfl ⟨rfl, rfl⟩ (by kernel_rfl) rfl
    (fun f fn hf hfn => by
      obtain rfl : f = 4 := Option.some.inj ((show Tryd.prog.funcNamed Rows.fnExactReadIncidentRow.func = some 4 by kernel_rfl).symm.trans hf) |>.symm
      obtain rfl : fn = Tryd.f4 := (Option.some.inj (Tryd.func4.symm.trans hfn)).symm
      exact ⟨by kernel_rfl, fun j t ht => by
        rw [Tryd.params4] at ht
        have hm : t ∈ [9] := by simpa using Array.mem_of_getElem? ht
        have hall : ([9].all fun u => !Tryd.prog.wantsStandIn u) = true := by kernel_rfl
        exact (show Tryd.prog.wantsStandIn t = false by simpa using List.all_eq_true.1 hall t hm)⟩)
    (by kernel_rfl)

#print axioms readIncident_holds
end Go.Proofs.YtaaholabodchaaaDoor
