/- For every list of texts, FnExactReportText returns true: the program and the reference agree on ReportText. No condition. -/
import Derived.Test.YtmkjgehhkmfoiaaWReportText
import Derived.Test.YtmkjgehhkmfoiaaOpen
namespace Go.Proofs.Ytmkjgehhkmfoiaa
open Go.RowKit Go.WideShapes Go.ChangeShapes Go.ChangeAt

set_option linter.unusedVariables false
set_option maxRecDepth 100000 in
theorem reportText_lifted (os : Os) (started : os.Started) (H : Type) (enc : TypeId × Value → H) :
    ReturnsInHanded {} Try.checked os 7 .any (Rows.fnExactReportTextSpec.pre6 enc Try.checked.prog Try.f7 [] false) (Rows.fnExactReportTextSpec.post enc Try.checked.prog Try.f7 false true false false) := by
  refine law_lifted os started H enc Try.func7 (by kernel_rfl)
    (ChangeSpec.witness6 (enc := enc) (C := Try.checked) false ⟨#[], #[.slice none 0 0], []⟩ 8 (by kernel_rfl) (by kernel_rfl) (by kernel_rfl) (by kernel_rfl)) rfl rfl ?_ ?_ ?_
  · intro t ht
    rw [Try.params7] at ht
    simp at ht
    rcases ht with rfl
    all_goals exact ⟨by kernel_rfl, of_decide_eq_true (by kernel_rfl)⟩
  · intro ds hd
    rw [Try.params7] at hd
    match ds, hd with
    | [d0], _ => rfl
  · intro W args ds p hval hA hfz
    rw [Try.params7] at hA hval
    obtain ⟨args⟩ := args
    obtain ⟨v0, vs0, d0, ds0, p0, q0, hargs, rfl, rfl, h0, r0⟩ := trodAll_cons hA
    obtain ⟨rfl, rfl, rfl⟩ := trodAll_nil r0
    simp only at hargs
    subst hargs
    clear hA
    obtain ⟨base0, hv0⟩ := hval 0 31 v0 rfl rfl
    obtain ⟨A0, len0, cap0, rfl⟩ := okWide_slice Try.underlying31 hv0
    obtain ⟨xs0, fp0, hs0⟩ := Opens.sl (E := fStr.cod) (opens_slice Try.underlying31 (by kernel_rfl) (opens_str Try.underlying9)) h0 (fun b off hm => hfz b off (by simp [hm])) rfl
    exact walkReportText _ xs0 fp0 W hs0

theorem reportText_holds : Rows.FnExactReportTextSaid :=
  OpenClaim.holds_of_wide 7 Try.f7 rfl rfl rfl rfl rfl rfl rfl ⟨rfl, rfl, rfl, rfl, rfl⟩ rfl rfl rfl rfl rfl (by kernel_rfl) Try.func7 (by kernel_rfl)
    (of_decide_eq_true (by kernel_rfl)) (by unfold Func.isWrapper; rw [if_neg (of_decide_eq_false (by kernel_rfl))]; exact ⟨rfl, rfl⟩)
    (fun os started H enc _ => reportText_lifted os started H enc)

#print axioms reportText_holds
end Go.Proofs.Ytmkjgehhkmfoiaa
