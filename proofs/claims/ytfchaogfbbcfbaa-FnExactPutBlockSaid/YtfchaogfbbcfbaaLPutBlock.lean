/- The program's PutBlock returns what the reference's returns, for every list of blocks and every block: no further condition. -/
import Derived.Test.YtfchaogfbbcfbaaWPutBlock
import Derived.Test.YtfchaogfbbcfbaaLaw
import Derived.Test.YtfchaogfbbcfbaaOBlock
namespace Go.Proofs.Ytfchaogfbbcfbaa
open Go.RowKit Go.WideShapes Go.ChangeShapes Go.ChangeAt

set_option linter.unusedVariables false
set_option maxRecDepth 100000 in
theorem putBlock_lifted (os : Os) (started : os.Started) (H : Type) (enc : TypeId × Value → H) :
    ReturnsInHanded {} Try.checked os 8 .any (Rows.fnExactPutBlockSpec.pre6 enc Try.checked.prog Try.f8 [] false) (Rows.fnExactPutBlockSpec.post enc Try.checked.prog Try.f8 false true false false) := by
  refine law_lifted os started H enc Try.func8 (by kernel_rfl)
    (ChangeSpec.witness6 (enc := enc) (C := Try.checked) false ⟨#[], #[.slice none 0 0, .agg #[.string ⟨#[]⟩, .string ⟨#[]⟩, .string ⟨#[]⟩]], []⟩ 8 (by kernel_rfl) (by kernel_rfl) (by kernel_rfl) (by kernel_rfl)) rfl rfl ?_ ?_ ?_
  · intro t ht
    rw [Try.params8] at ht
    simp at ht
    rcases ht with rfl | rfl
    all_goals exact ⟨by kernel_rfl, of_decide_eq_true (by kernel_rfl)⟩
  · intro ds hd
    rw [Try.params8] at hd
    match ds, hd with
    | [d0, d1], _ => rfl
  · intro W args ds p hval hA hfz
    rw [Try.params8] at hA hval
    obtain ⟨args⟩ := args
    obtain ⟨v0, vs0, d0, ds0, p0, q0, hargs, rfl, rfl, h0, r0⟩ := trodAll_cons hA
    obtain ⟨v1, vs1, d1, ds1, p1, q1, rfl, rfl, rfl, h1, r1⟩ := trodAll_cons r0
    obtain ⟨rfl, rfl, rfl⟩ := trodAll_nil r1
    simp only at hargs
    subst hargs
    clear hA
    obtain ⟨base0, hv0⟩ := hval 0 29 v0 rfl rfl
    obtain ⟨A0, len0, cap0, rfl⟩ := okWide_slice Try.underlying29 hv0
    obtain ⟨xs0, fp0, hs0⟩ := Opens.sl (E := fBlock.cod) (opens_slice Try.underlying29 (by kernel_rfl) opensBlock) h0 (fun b off hm => hfz b off (by simp [hm])) rfl
    obtain ⟨base1, hv1⟩ := hval 1 23 v1 rfl rfl
    obtain ⟨cs1, rfl, hz1⟩ := okWide_struct Try.underlying23 hv1
    obtain ⟨xs1, fp1, hs1, ok1, rfl⟩ := Opens.arg (E := fBlock.cod) (opensBlock) h1 (fun b off hm => hfz b off (by simp [hm]))
    obtain rfl : cs1 = (fBlock.enc xs1).toArray := by simpa [Value.cells] using congrArg List.toArray hs1
    exact walkPutBlock _ xs0 fp0 xs1 W hs0 ok1

theorem putBlock_holds : Rows.FnExactPutBlockSaid :=
  OpenClaim.holds_of_wide 8 Try.f8 rfl rfl rfl rfl rfl rfl rfl ⟨rfl, rfl, rfl, rfl, rfl⟩ rfl rfl rfl rfl rfl (by kernel_rfl) Try.func8 (by kernel_rfl)
    (of_decide_eq_true (by kernel_rfl)) (by unfold Func.isWrapper; rw [if_neg (of_decide_eq_false (by kernel_rfl))]; exact ⟨rfl, rfl⟩)
    (fun os started H enc _ => putBlock_lifted os started H enc)

#print axioms putBlock_holds
end Go.Proofs.Ytfchaogfbbcfbaa
