
/- The program's BestPairs returns what the reference's returns, for every list of groups, every level and every budget: no further condition. -/
import Derived.Test.YtjfaafoldllppaaWBestPairs
import Derived.Test.YtjfaafoldllppaaLaw
import Derived.Test.YtjfaafoldllppaaOGroup
namespace Go.Proofs.Ytjfaafoldllppaa
open Go.RowKit Go.WideShapes Go.ChangeShapes Go.ChangeAt

set_option linter.unusedVariables false
set_option maxRecDepth 100000 in
theorem bestPairs_lifted (os : Os) (started : os.Started) (H : Type) (enc : TypeId × Value → H) :
    ReturnsInHanded {} Try.checked os 3 .any (Rows.fnExactBestPairsSpec.pre6 enc Try.checked.prog Try.f3 [] false) (Rows.fnExactBestPairsSpec.post enc Try.checked.prog Try.f3 false true false false) := by
  refine law_lifted os started H enc Try.func3 (by kernel_rfl)
    (ChangeSpec.witness6 (enc := enc) (C := Try.checked) false ⟨#[], #[.slice none 0 0, .int .i64 0, .int .i64 0], []⟩ 8 (by kernel_rfl) (by kernel_rfl) (by kernel_rfl) (by kernel_rfl)) rfl rfl ?_ ?_ ?_
  · intro t ht
    rw [Try.params3] at ht
    simp at ht
    rcases ht with rfl | rfl | rfl
    all_goals exact ⟨by kernel_rfl, of_decide_eq_true (by kernel_rfl)⟩
  · intro ds hd
    rw [Try.params3] at hd
    match ds, hd with
    | [d0, d1, d2], _ => rfl
  · intro W args ds p hval hA hfz
    rw [Try.params3] at hA hval
    obtain ⟨args⟩ := args
    obtain ⟨v0, vs0, d0, ds0, p0, q0, hargs, rfl, rfl, h0, r0⟩ := trodAll_cons hA
    obtain ⟨v1, vs1, d1, ds1, p1, q1, rfl, rfl, rfl, h1, r1⟩ := trodAll_cons r0
    obtain ⟨v2, vs2, d2, ds2, p2, q2, rfl, rfl, rfl, h2, r2⟩ := trodAll_cons r1
    obtain ⟨rfl, rfl, rfl⟩ := trodAll_nil r2
    simp only at hargs
    subst hargs
    clear hA
    obtain ⟨base0, hv0⟩ := hval 0 22 v0 rfl rfl
    obtain ⟨A0, len0, cap0, rfl⟩ := okWide_slice Try.underlying22 hv0
    obtain ⟨xs0, fp0, hs0⟩ := Opens.sl (E := fGroup.cod) (opens_slice Try.underlying22 (by kernel_rfl) (opensGroup)) h0 (fun b off hm => hfz b off (by simp [hm])) rfl
    obtain ⟨base1, hv1⟩ := hval 1 2 v1 rfl rfl
    obtain ⟨a1, rfl, hd1, hp1, wk1⟩ := open_int Try.underlying2 hv1 h1
    have bd1 := bounds_i64 wk1
    obtain ⟨base2, hv2⟩ := hval 2 2 v2 rfl rfl
    obtain ⟨a2, rfl, hd2, hp2, wk2⟩ := open_int Try.underlying2 hv2 h2
    have bd2 := bounds_i64 wk2
    exact walkBestPairs _ xs0 fp0 a1 a2 W hs0 bd1 bd2

theorem bestPairs_holds : Rows.FnExactBestPairsSaid :=
  OpenClaim.holds_of_wide 3 Try.f3 rfl rfl rfl rfl rfl rfl rfl ⟨rfl, rfl, rfl, rfl, rfl⟩ rfl rfl rfl rfl rfl (by kernel_rfl) Try.func3 (by kernel_rfl)
    (of_decide_eq_true (by kernel_rfl)) (by unfold Func.isWrapper; rw [if_neg (of_decide_eq_false (by kernel_rfl))]; exact ⟨rfl, rfl⟩)
    (fun os started H enc _ => bestPairs_lifted os started H enc)

#print axioms bestPairs_holds
end Go.Proofs.Ytjfaafoldllppaa
