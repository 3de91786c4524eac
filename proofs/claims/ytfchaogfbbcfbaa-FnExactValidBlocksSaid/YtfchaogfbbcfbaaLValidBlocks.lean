/- The program's ValidBlocks returns what the reference's returns, for every list of blocks: no further condition. -/
import Derived.Test.YtfchaogfbbcfbaaWValidBlocks
import Derived.Test.YtfchaogfbbcfbaaLaw
import Derived.Test.YtfchaogfbbcfbaaOBlock
namespace Go.Proofs.Ytfchaogfbbcfbaa
open Go.RowKit Go.WideShapes Go.ChangeShapes Go.ChangeAt

set_option linter.unusedVariables false
set_option maxRecDepth 100000 in
theorem validBlocks_lifted (os : Os) (started : os.Started) (H : Type) (enc : TypeId × Value → H) :
    ReturnsInHanded {} Try.checked os 4 .any (Rows.fnExactValidBlocksSpec.pre6 enc Try.checked.prog Try.f4 [] false) (Rows.fnExactValidBlocksSpec.post enc Try.checked.prog Try.f4 false true false false) := by
  refine law_lifted os started H enc Try.func4 (by kernel_rfl)
    (ChangeSpec.witness6 (enc := enc) (C := Try.checked) false ⟨#[], #[.slice none 0 0], []⟩ 8 (by kernel_rfl) (by kernel_rfl) (by kernel_rfl) (by kernel_rfl)) rfl rfl ?_ ?_ ?_
  · intro t ht
    rw [Try.params4] at ht
    simp at ht
    rcases ht with rfl
    all_goals exact ⟨by kernel_rfl, of_decide_eq_true (by kernel_rfl)⟩
  · intro ds hd
    rw [Try.params4] at hd
    match ds, hd with
    | [d0], _ => rfl
  · intro W args ds p hval hA hfz
    rw [Try.params4] at hA hval
    obtain ⟨args⟩ := args
    obtain ⟨v0, vs0, d0, ds0, p0, q0, hargs, rfl, rfl, h0, r0⟩ := trodAll_cons hA
    obtain ⟨rfl, rfl, rfl⟩ := trodAll_nil r0
    simp only at hargs
    subst hargs
    clear hA
    obtain ⟨base0, hv0⟩ := hval 0 29 v0 rfl rfl
    obtain ⟨A0, len0, cap0, rfl⟩ := okWide_slice Try.underlying29 hv0
    obtain ⟨xs0, fp0, hs0⟩ := Opens.sl (E := fBlock.cod) (opens_slice Try.underlying29 (by kernel_rfl) opensBlock) h0 (fun b off hm => hfz b off (by simp [hm])) rfl
    exact walkValidBlocks _ xs0 fp0 W hs0

theorem validBlocks_holds : Rows.FnExactValidBlocksSaid :=
  OpenClaim.holds_of_wide 4 Try.f4 rfl rfl rfl rfl rfl rfl rfl ⟨rfl, rfl, rfl, rfl, rfl⟩ rfl rfl rfl rfl rfl (by kernel_rfl) Try.func4 (by kernel_rfl)
    (of_decide_eq_true (by kernel_rfl)) (by unfold Func.isWrapper; rw [if_neg (of_decide_eq_false (by kernel_rfl))]; exact ⟨rfl, rfl⟩)
    (fun os started H enc _ => validBlocks_lifted os started H enc)

#print axioms validBlocks_holds
end Go.Proofs.Ytfchaogfbbcfbaa
