/- The program's CommandNames returns what the reference's returns -/
import Derived.Test.YticoiaibcgpbjaaGreatDoorG03
import Derived.Test.YticoiaibcgpbjaaGreatDoorTie
import Derived.Test.YticoiaibcgpbjaaGreatDoorCards
import Derived.SevenTiedAt
namespace Go.Proofs.YticoiaibcgpbjaaGreatDoor
open Go.RowKit Go.WideShapes Go.ChangeShapes Go.ChangeAt

set_option linter.unusedVariables false
set_option maxHeartbeats 8000000 in
set_option maxRecDepth 100000 in
theorem commandNames_lifted (os : Os) (started : os.Started) (H : Type) (enc : TypeId × Value → H) :
    ReturnsInHanded {} Tryz.checked os 3 .any (fun w args => (Rows.fnExactCommandNamesSpec.pre enc Tryz.checked.prog Tryz.f3 [] false w args ∧ laidMetH Tryz.checked.prog Rows.fnExactCommandNamesRow.laid w) ∧ sizedMet enc Tryz.checked.prog Tryz.f3 (OpenSpec.ofChange Rows.fnExactCommandNamesSpec) false w args) (Rows.fnExactCommandNamesSpec.post enc Tryz.checked.prog Tryz.f3 false true false false) := by
  refine law_liftedL Rows.fnExactCommandNamesRow.laid os started H enc Tryz.func3 (by as_aux_lemma => kernel_rfl)
    (ChangeSpec.witness_shaped (enc := enc) (C := Tryz.checked) (os := os) (X := fun w _ => laidMetH Tryz.checked.prog Rows.fnExactCommandNamesRow.laid w) false (doorWorld os) #[] 8 rfl (World.shaped_of_RefB (by as_aux_lemma => kernel_rfl) (by as_aux_lemma => kernel_rfl)) (by as_aux_lemma => kernel_rfl) (by as_aux_lemma => kernel_rfl) (by as_aux_lemma => kernel_rfl)
      (laidMetH_of_parts3 (fuel := 8) (laidMet_of_run' 8 (by as_aux_lemma => kernel_rfl) (by as_aux_lemma => kernel_rfl)) (by as_aux_lemma => kernel_rfl) (by as_aux_lemma => kernel_rfl))) rfl rfl ?_ ?_ ?_
  · intro t ht
    rw [Tryz.params3] at ht
    simp at ht
  · intro ds hd
    rw [Tryz.params3] at hd
    match ds, hd with
    | [], _ => rfl
  · intro W args ds p hsh hlaid hval hA hfz
    rw [Tryz.params3] at hA hval
    obtain ⟨args⟩ := args
    obtain ⟨hargs, rfl, rfl⟩ := trodAll_nil hA
    simp only at hargs
    subst hargs
    clear hA
    exact walkCommandNames  W 

set_option maxRecDepth 100000 in
set_option maxHeartbeats 4000000 in
set_option maxHeartbeats 8000000 in
theorem commandNames_facts : joinedFacts Tryz.checked.prog 3 Tryz.f3 Rows.fnExactCommandNamesSpec Rows.fnExactCommandNamesRow = true := by
  unfold joinedFacts
  simp only [Bool.and_eq_true]
  repeat' (refine And.intro ?_ ?_)
  all_goals (as_aux_lemma => kernel_rfl)
set_option maxHeartbeats 8000000 in
theorem commandNames_row_holds : Rows.FnExactCommandNamesSaid :=
  OpenClaim.holds_of_wide 3 Tryz.f3 rfl rfl rfl rfl rfl rfl rfl ⟨rfl, rfl, rfl, rfl, rfl⟩ rfl rfl rfl rfl rfl (by as_aux_lemma => kernel_rfl) Tryz.func3 commandNames_facts
    (of_decide_eq_true (by as_aux_lemma => kernel_rfl)) (by unfold Func.isWrapper; rw [if_neg (of_decide_eq_false (by as_aux_lemma => kernel_rfl))]; exact ⟨rfl, rfl⟩)
    (fun os started H enc _ => commandNames_lifted os started H enc)

theorem goes_none {P : Program} (h : P.funcs.any Func.goes = false) (c : OpenClaim) (hs : c.start = .entering) : false = c.goesBy P := by
  have h2 : ∀ g : Nat, (P.funcs[g]?).any Func.goes = false := by
    intro g
    cases hg : P.funcs[g]? with
    | none => rfl
    | some fn =>
      obtain ⟨hlt, rfl⟩ := Array.getElem?_eq_some_iff.1 hg
      have := Array.any_eq_false.1 h g hlt
      simpa using this
  have h3 : ∀ f, P.goes f = false := by
    intro f
    unfold Program.goes
    rw [h, Bool.and_false, Bool.or_false, List.any_eq_false]
    intro g _
    rw [h2 g]; simp
  unfold OpenClaim.goesBy Program.goesAt Program.goesFrom
  rw [hs]
  cases P.funcNamed c.func with
  | none => rfl
  | some f => simp [h3 f]
set_option maxHeartbeats 8000000 in
theorem goes_not : Tryz.prog.funcs.any Func.goes = false := by kernel_rfl
set_option maxHeartbeats 8000000 in
/-- The tied card. -/
theorem commandNames_holds : Rows.FnExactCommandNamesCardSaid :=
  Claim7.holds_tied_plain_at .later [] Rows.fnExactCommandNamesCard.laidKinds true Rows.fnExactCommandNamesCard.stood.harness Rows.fnExactCommandNamesCard.stood.looks
    commandNames_row_holds (fun _ h => by cases h) (by as_aux_lemma => kernel_rfl) (fun _ h => by cases h) fnExactCommandNames_row_tie (by as_aux_lemma => kernel_rfl) ⟨by as_aux_lemma => kernel_rfl, by as_aux_lemma => kernel_rfl⟩ (by as_aux_lemma => kernel_rfl) (by as_aux_lemma => kernel_rfl)
    (fun f fn hf hfn => by
      obtain rfl : f = 3 := Option.some.inj ((show Tryz.prog.funcNamed Rows.fnExactCommandNamesRow.func = some 3 by as_aux_lemma => kernel_rfl).symm.trans hf) |>.symm
      obtain rfl : fn = Tryz.f3 := (Option.some.inj (Tryz.func3.symm.trans hfn)).symm
      exact ⟨by as_aux_lemma => kernel_rfl, fun j t ht => by
        rw [Tryz.params3] at ht
        have hm : t ∈ ([] : List TypeId) := by simpa using Array.mem_of_getElem? ht
        have hall : (([] : List TypeId).all fun u => !Tryz.prog.wantsStandIn u) = true := by as_aux_lemma => kernel_rfl
        exact (show Tryz.prog.wantsStandIn t = false by simpa using List.all_eq_true.1 hall t hm)⟩)
    (goes_none goes_not _ rfl)

#print axioms commandNames_holds
end Go.Proofs.YticoiaibcgpbjaaGreatDoor
