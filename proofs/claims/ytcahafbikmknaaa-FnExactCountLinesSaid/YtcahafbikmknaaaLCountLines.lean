/- The program's CountLines returns what the reference's returns, for every list of lines: no further condition. -/
import Derived.Test.YtcahafbikmknaaaWCountLines
import Derived.Test.YtcahafbikmknaaaLaw
import Derived.Test.YtcahafbikmknaaaOpen
namespace Go.Proofs.Ytcahafbikmknaaa
open Go.RowKit Go.WideShapes Go.ChangeShapes Go.ChangeAt

set_option linter.unusedVariables false
set_option maxRecDepth 100000 in
theorem countLines_lifted (os : Os) (started : os.Started) (H : Type) (enc : TypeId × Value → H) :
    ReturnsInHanded {} Try.checked os 6 .any (Rows.fnExactCountLinesSpec.pre6 enc Try.checked.prog Try.f6 [] false) (Rows.fnExactCountLinesSpec.post enc Try.checked.prog Try.f6 false true false false) := by
  refine law_lifted os started H enc Try.func6 (by kernel_rfl)
    (ChangeSpec.witness6 (enc := enc) (C := Try.checked) false ⟨#[], #[.slice none 0 0], []⟩ 8 (by kernel_rfl) (by kernel_rfl) (by kernel_rfl) (by kernel_rfl)) rfl rfl ?_ ?_ ?_
  · intro t ht
    rw [Try.params6] at ht
    simp at ht
    rcases ht with rfl
    all_goals exact ⟨by kernel_rfl, of_decide_eq_true (by kernel_rfl)⟩
  · intro ds hd
    rw [Try.params6] at hd
    match ds, hd with
    | [d0], _ => rfl
  · intro W args ds p hval hA hfz
    rw [Try.params6] at hA hval
    obtain ⟨args⟩ := args
    obtain ⟨v0, vs0, d0, ds0, p0, q0, hargs, rfl, rfl, h0, r0⟩ := trodAll_cons hA
    obtain ⟨rfl, rfl, rfl⟩ := trodAll_nil r0
    simp only at hargs
    subst hargs
    clear hA
    obtain ⟨base0, hv0⟩ := hval 0 22 v0 rfl rfl
    obtain ⟨A0, len0, cap0, rfl⟩ := okWide_slice Try.underlying22 hv0
    obtain ⟨xs0, fp0, hs0⟩ := Opens.sl (E := fStr.cod) (opens_slice Try.underlying22 (by kernel_rfl) (opens_str Try.underlying9)) h0 (fun b off hm => hfz b off (by simp [hm])) rfl
    exact walkCountLines _ xs0 fp0 W hs0

theorem countLines_holds : Rows.FnExactCountLinesSaid :=
  OpenClaim.holds_of_wide 6 Try.f6 rfl rfl rfl rfl rfl rfl rfl ⟨rfl, rfl, rfl, rfl, rfl⟩ rfl rfl rfl rfl rfl (by kernel_rfl) Try.func6 (by kernel_rfl)
    (of_decide_eq_true (by kernel_rfl)) (by unfold Func.isWrapper; rw [if_neg (of_decide_eq_false (by kernel_rfl))]; exact ⟨rfl, rfl⟩)
    (fun os started H enc _ => countLines_lifted os started H enc)

#print axioms countLines_holds
end Go.Proofs.Ytcahafbikmknaaa
