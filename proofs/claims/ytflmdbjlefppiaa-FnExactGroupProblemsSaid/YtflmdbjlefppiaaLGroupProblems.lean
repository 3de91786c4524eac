/- The program's GroupProblems returns what the reference's returns, for every group: no further condition. -/
import Derived.Test.YtflmdbjlefppiaaWGroupProblems
import Derived.Test.YtflmdbjlefppiaaOGroup
namespace Go.Proofs.Ytflmdbjlefppiaa
open Go.RowKit Go.WideShapes Go.ChangeShapes Go.ChangeAt

set_option linter.unusedVariables false
set_option maxRecDepth 100000 in
theorem groupProblems_lifted (os : Os) (started : os.Started) (H : Type) (enc : TypeId × Value → H) :
    ReturnsInHanded {} Try.checked os 9 .any (Rows.fnExactGroupProblemsSpec.pre6 enc Try.checked.prog Try.f9 [] false) (Rows.fnExactGroupProblemsSpec.post enc Try.checked.prog Try.f9 false true false false) := by
  refine law_lifted os started H enc Try.func9 (by kernel_rfl)
    (ChangeSpec.witness6 (enc := enc) (C := Try.checked) false ⟨#[], #[.agg #[.string ⟨#[]⟩, .int .i64 0, .int .i64 0, .int .i64 0, .int .i64 0, .int .i64 0, .int .i64 0]], []⟩ 8 (by kernel_rfl) (by kernel_rfl) (by kernel_rfl) (by kernel_rfl)) rfl rfl ?_ ?_ ?_
  · intro t ht
    rw [Try.params9] at ht
    simp at ht
    rcases ht with rfl
    all_goals exact ⟨by kernel_rfl, of_decide_eq_true (by kernel_rfl)⟩
  · intro ds hd
    rw [Try.params9] at hd
    match ds, hd with
    | [d0], _ => rfl
  · intro W args ds p hval hA hfz
    rw [Try.params9] at hA hval
    obtain ⟨args⟩ := args
    obtain ⟨v0, vs0, d0, ds0, p0, q0, hargs, rfl, rfl, h0, r0⟩ := trodAll_cons hA
    obtain ⟨rfl, rfl, rfl⟩ := trodAll_nil r0
    simp only at hargs
    subst hargs
    clear hA
    obtain ⟨base0, hv0⟩ := hval 0 56 v0 rfl rfl
    obtain ⟨cs0, rfl, hz0⟩ := okWide_struct Try.underlying56 hv0
    obtain ⟨xs0, fp0, hs0, ok0, rfl⟩ := Opens.arg (E := fGroup.cod) (opensGroup) h0 (fun b off hm => hfz b off (by simp [hm]))
    obtain rfl : cs0 = (fGroup.enc xs0).toArray := by simpa [Value.cells] using congrArg List.toArray hs0
    exact walkGroupProblems xs0 W ok0

theorem groupProblems_holds : Rows.FnExactGroupProblemsSaid :=
  OpenClaim.holds_of_wide 9 Try.f9 rfl rfl rfl rfl rfl rfl rfl ⟨rfl, rfl, rfl, rfl, rfl⟩ rfl rfl rfl rfl rfl (by kernel_rfl) Try.func9 (by kernel_rfl)
    (of_decide_eq_true (by kernel_rfl)) (by unfold Func.isWrapper; rw [if_neg (of_decide_eq_false (by kernel_rfl))]; exact ⟨rfl, rfl⟩)
    (fun os started H enc _ => groupProblems_lifted os started H enc)

#print axioms groupProblems_holds
end Go.Proofs.Ytflmdbjlefppiaa
