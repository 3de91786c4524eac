/- The program's ValidBlock returns what the reference's returns, for every block: no further condition. -/
import Derived.Test.YtfchaogfbbcfbaaWValidBlock
import Derived.Test.YtfchaogfbbcfbaaLaw
import Derived.Test.YtfchaogfbbcfbaaOBlock
namespace Go.Proofs.Ytfchaogfbbcfbaa
open Go.RowKit Go.WideShapes Go.ChangeShapes Go.ChangeAt

set_option linter.unusedVariables false
set_option maxRecDepth 100000 in
theorem validBlock_lifted (os : Os) (started : os.Started) (H : Type) (enc : TypeId × Value → H) :
    ReturnsInHanded {} Try.checked os 3 .any (Rows.fnExactValidBlockSpec.pre6 enc Try.checked.prog Try.f3 [] false) (Rows.fnExactValidBlockSpec.post enc Try.checked.prog Try.f3 false true false false) := by
  refine law_lifted os started H enc Try.func3 (by kernel_rfl)
    (ChangeSpec.witness6 (enc := enc) (C := Try.checked) false ⟨#[], #[.agg #[.string ⟨#[]⟩, .string ⟨#[]⟩, .string ⟨#[]⟩]], []⟩ 8 (by kernel_rfl) (by kernel_rfl) (by kernel_rfl) (by kernel_rfl)) rfl rfl ?_ ?_ ?_
  · intro t ht
    rw [Try.params3] at ht
    simp at ht
    rcases ht with rfl
    all_goals exact ⟨by kernel_rfl, of_decide_eq_true (by kernel_rfl)⟩
  · intro ds hd
    rw [Try.params3] at hd
    match ds, hd with
    | [d0], _ => rfl
  · intro W args ds p hval hA hfz
    rw [Try.params3] at hA hval
    obtain ⟨args⟩ := args
    obtain ⟨v0, vs0, d0, ds0, p0, q0, hargs, rfl, rfl, h0, r0⟩ := trodAll_cons hA
    obtain ⟨rfl, rfl, rfl⟩ := trodAll_nil r0
    simp only at hargs
    subst hargs
    clear hA
    obtain ⟨base0, hv0⟩ := hval 0 23 v0 rfl rfl
    obtain ⟨cs0, rfl, hz0⟩ := okWide_struct Try.underlying23 hv0
    obtain ⟨xs0, fp0, hs0, ok0, rfl⟩ := Opens.arg (E := fBlock.cod) (opensBlock) h0 (fun b off hm => hfz b off (by simp [hm]))
    obtain rfl : cs0 = (fBlock.enc xs0).toArray := by simpa [Value.cells] using congrArg List.toArray hs0
    exact walkValidBlock xs0 W ok0

theorem validBlock_holds : Rows.FnExactValidBlockSaid :=
  OpenClaim.holds_of_wide 3 Try.f3 rfl rfl rfl rfl rfl rfl rfl ⟨rfl, rfl, rfl, rfl, rfl⟩ rfl rfl rfl rfl rfl (by kernel_rfl) Try.func3 (by kernel_rfl)
    (of_decide_eq_true (by kernel_rfl)) (by unfold Func.isWrapper; rw [if_neg (of_decide_eq_false (by kernel_rfl))]; exact ⟨rfl, rfl⟩)
    (fun os started H enc _ => validBlock_lifted os started H enc)

#print axioms validBlock_holds
end Go.Proofs.Ytfchaogfbbcfbaa
