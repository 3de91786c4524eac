/- Groups that go are those that may, more danger never lets more go, and the best pairs let at least as many go as no pairs: the law FnPairs returns true for all bytes: no further condition. -/
import Derived.Test.YtjfaafoldllppaaG07
import Derived.Test.YtjfaafoldllppaaG06
namespace Go.Proofs.Ytjfaafoldllppaa
open Go.RowKit Go.WideShapes Go.ChangeShapes Go.ChangeAt

set_option linter.unusedVariables false
set_option maxRecDepth 100000 in
theorem pairs_lifted (os : Os) (started : os.Started) (H : Type) (enc : TypeId × Value → H) :
    ReturnsInHanded {} Try.checked os 4 .any (Rows.fnPairsSpec.pre6 enc Try.checked.prog Try.f4 [] false) (Rows.fnPairsSpec.post enc Try.checked.prog Try.f4 false true false false) := by
  refine law_lifted os started H enc Try.func4 (by kernel_rfl)
    (ChangeSpec.witness6 (enc := enc) (C := Try.checked) false ⟨#[], #[.slice none 0 0, .slice none 0 0], []⟩ 8 (by kernel_rfl) (by kernel_rfl) (by kernel_rfl) (by kernel_rfl)) rfl rfl ?_ ?_ ?_
  · intro t ht
    rw [Try.params4] at ht
    simp at ht
    rcases ht with rfl | rfl
    all_goals exact ⟨by kernel_rfl, of_decide_eq_true (by kernel_rfl)⟩
  · intro ds hd
    rw [Try.params4] at hd
    match ds, hd with
    | [d0, d1], _ => rfl
  · intro W args ds p hval hA hfz
    rw [Try.params4] at hA hval
    obtain ⟨args⟩ := args
    obtain ⟨v0, vs0, d0, ds0, p0, q0, hargs, rfl, rfl, h0, r0⟩ := trodAll_cons hA
    obtain ⟨v1, vs1, d1, ds1, p1, q1, rfl, rfl, rfl, h1, r1⟩ := trodAll_cons r0
    obtain ⟨rfl, rfl, rfl⟩ := trodAll_nil r1
    simp only at hargs
    subst hargs
    clear hA
    obtain ⟨base0, hv0⟩ := hval 0 34 v0 rfl rfl
    obtain ⟨A0, len0, cap0, rfl⟩ := okWide_slice Try.underlying34 hv0
    obtain ⟨xs0, fp0, hs0⟩ := Opens.sl (E := fByte.cod) (opens_slice Try.underlying34 (by kernel_rfl) (opens_byte Try.underlying5)) h0 (fun b off hm => hfz b off (by simp [hm])) rfl
    obtain ⟨base1, hv1⟩ := hval 1 34 v1 rfl rfl
    obtain ⟨A1, len1, cap1, rfl⟩ := okWide_slice Try.underlying34 hv1
    obtain ⟨xs1, fp1, hs1⟩ := Opens.sl (E := fByte.cod) (opens_slice Try.underlying34 (by kernel_rfl) (opens_byte Try.underlying5)) h1 (fun b off hm => hfz b off (by simp [hm])) rfl
    exact walkPairs _ xs0 fp0 _ xs1 fp1 W hs0 hs1

theorem pairs_holds : Rows.FnPairsSaid :=
  OpenClaim.holds_of_wide 4 Try.f4 rfl rfl rfl rfl rfl rfl rfl ⟨rfl, rfl, rfl, rfl, rfl⟩ rfl rfl rfl rfl rfl (by kernel_rfl) Try.func4 (by kernel_rfl)
    (of_decide_eq_true (by kernel_rfl)) (by unfold Func.isWrapper; rw [if_neg (of_decide_eq_false (by kernel_rfl))]; exact ⟨rfl, rfl⟩)
    (fun os started H enc _ => pairs_lifted os started H enc)

#print axioms pairs_holds
end Go.Proofs.Ytjfaafoldllppaa
