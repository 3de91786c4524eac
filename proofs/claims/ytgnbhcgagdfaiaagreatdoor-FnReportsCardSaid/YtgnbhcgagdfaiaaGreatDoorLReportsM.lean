/- A report has a line for each incident and each region, sorted lines are the same lines, and reports are read back -/
import Derived.Test.YtgnbhcgagdfaiaaGreatDoorG11
import Derived.Test.YtgnbhcgagdfaiaaGreatDoorTie
import Derived.Test.YtgnbhcgagdfaiaaGreatDoorCards
import Derived.SevenTiedAt
namespace Go.Proofs.YtgnbhcgagdfaiaaGreatDoor
open Go.RowKit Go.WideShapes Go.ChangeShapes Go.ChangeAt

set_option linter.unusedVariables false
set_option maxRecDepth 100000 in
theorem reports_lifted (os : Os) (started : os.Started) (H : Type) (enc : TypeId × Value → H) :
    ReturnsInHanded {} Tryz.checked os 4 .any (fun w args => (Rows.fnReportsSpec.pre enc Tryz.checked.prog Tryz.f4 [] false w args ∧ laidMetH Tryz.checked.prog Rows.fnReportsRow.laid w) ∧ sizedMet enc Tryz.checked.prog Tryz.f4 (OpenSpec.ofChange Rows.fnReportsSpec) false w args) (Rows.fnReportsSpec.post enc Tryz.checked.prog Tryz.f4 false true false false) := by
  refine law_liftedL Rows.fnReportsRow.laid os started H enc Tryz.func4 (by kernel_rfl)
    (ChangeSpec.witness_shaped (enc := enc) (C := Tryz.checked) (os := os) (X := fun w _ => laidMetH Tryz.checked.prog Rows.fnReportsRow.laid w) false (doorWorld os) #[.slice none 0 0, .slice none 0 0] 8 rfl (World.shaped_of_RefB (by kernel_rfl) (by kernel_rfl)) (by kernel_rfl) (by kernel_rfl) (by kernel_rfl)
      (laidMetH_of_parts3 (fuel := 8) (laidMet_of_run' 8 (by kernel_rfl) (by kernel_rfl)) (by kernel_rfl) (by kernel_rfl))) rfl rfl ?_ ?_ ?_
  · intro t ht
    rw [Tryz.params4] at ht
    simp at ht
    rcases ht with rfl | rfl
    all_goals exact ⟨by kernel_rfl, of_decide_eq_true (by kernel_rfl)⟩
  · intro ds hd
    rw [Tryz.params4] at hd
    match ds, hd with
    | [d0, d1], _ => rfl
  · intro W args ds p hsh hlaid hval hA hfz
    rw [Tryz.params4] at hA hval
    obtain ⟨args⟩ := args
    obtain ⟨v0, vs0, d0, ds0, p0, q0, hargs, rfl, rfl, h0, r0⟩ := trodAll_cons hA
    obtain ⟨v1, vs1, d1, ds1, p1, q1, rfl, rfl, rfl, h1, r1⟩ := trodAll_cons r0
    obtain ⟨rfl, rfl, rfl⟩ := trodAll_nil r1
    simp only at hargs
    subst hargs
    clear hA
    obtain ⟨base0, hv0⟩ := hval 0 34 v0 rfl rfl
    obtain ⟨A0, len0, cap0, rfl⟩ := okWide_slice Tryz.underlying34 hv0
    obtain ⟨xs0, fp0, hs0⟩ := Opens.sl (E := fByte.cod) (opens_slice Tryz.underlying34 (by kernel_rfl) (opens_byte Tryz.underlying5)) h0 (fun b off hm => hfz b off (by simp [hm])) rfl
    obtain ⟨base1, hv1⟩ := hval 1 34 v1 rfl rfl
    obtain ⟨A1, len1, cap1, rfl⟩ := okWide_slice Tryz.underlying34 hv1
    obtain ⟨xs1, fp1, hs1⟩ := Opens.sl (E := fByte.cod) (opens_slice Tryz.underlying34 (by kernel_rfl) (opens_byte Tryz.underlying5)) h1 (fun b off hm => hfz b off (by simp [hm])) rfl
    exact walkReports _ xs0 fp0 _ xs1 fp1 W hs0 hs1 hsh (tab10_of hlaid (by kernel_rfl))

theorem reports_row_holds : Rows.FnReportsSaid :=
  OpenClaim.holds_of_wide 4 Tryz.f4 rfl rfl rfl rfl rfl rfl rfl ⟨rfl, rfl, rfl, rfl, rfl⟩ rfl rfl rfl rfl rfl (by kernel_rfl) Tryz.func4 (by kernel_rfl)
    (of_decide_eq_true (by kernel_rfl)) (by unfold Func.isWrapper; rw [if_neg (of_decide_eq_false (by kernel_rfl))]; exact ⟨rfl, rfl⟩)
    (fun os started H enc _ => reports_lifted os started H enc)

/-- The tied card. -/
theorem reports_holds : Rows.FnReportsCardSaid :=
  Claim7.holds_tied_plain_at .later [] Rows.fnReportsCard.laidKinds true Rows.fnReportsCard.stood.harness Rows.fnReportsCard.stood.looks
    reports_row_holds (fun _ h => by cases h) (by kernel_rfl) (fun _ h => by cases h) fnReports_row_tie rfl ⟨rfl, rfl⟩ (by kernel_rfl) rfl
    (fun f fn hf hfn => by
      obtain rfl : f = 4 := Option.some.inj ((show Tryz.prog.funcNamed Rows.fnReportsRow.func = some 4 by kernel_rfl).symm.trans hf) |>.symm
      obtain rfl : fn = Tryz.f4 := (Option.some.inj (Tryz.func4.symm.trans hfn)).symm
      exact ⟨by kernel_rfl, fun j t ht => by
        rw [Tryz.params4] at ht
        have hm : t ∈ [34, 34] := by simpa using Array.mem_of_getElem? ht
        have hall : ([34, 34].all fun u => !Tryz.prog.wantsStandIn u) = true := by kernel_rfl
        exact (show Tryz.prog.wantsStandIn t = false by simpa using List.all_eq_true.1 hall t hm)⟩)
    (by kernel_rfl)

#print axioms reports_holds
end Go.Proofs.YtgnbhcgagdfaiaaGreatDoor
