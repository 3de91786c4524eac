/- The program's BarLines returns what the reference's returns, for all values and every width: no further condition. -/
import Derived.Test.YtflmdbjlefppiaaWBarLines
import Derived.Test.YtflmdbjlefppiaaLaw
import Derived.Test.YtflmdbjlefppiaaOpen
namespace Go.Proofs.Ytflmdbjlefppiaa
open Go.RowKit Go.WideShapes Go.ChangeShapes Go.ChangeAt

set_option linter.unusedVariables false
set_option maxRecDepth 100000 in
theorem barLines_lifted (os : Os) (started : os.Started) (H : Type) (enc : TypeId × Value → H) :
    ReturnsInHanded {} Try.checked os 5 .any (Rows.fnExactBarLinesSpec.pre6 enc Try.checked.prog Try.f5 [] false) (Rows.fnExactBarLinesSpec.post enc Try.checked.prog Try.f5 false true false false) := by
  refine law_lifted os started H enc Try.func5 (by kernel_rfl)
    (ChangeSpec.witness6 (enc := enc) (C := Try.checked) false ⟨#[], #[.slice none 0 0, .int .i64 0], []⟩ 8 (by kernel_rfl) (by kernel_rfl) (by kernel_rfl) (by kernel_rfl)) rfl rfl ?_ ?_ ?_
  · intro t ht
    rw [Try.params5] at ht
    simp at ht
    rcases ht with rfl | rfl
    all_goals exact ⟨by kernel_rfl, of_decide_eq_true (by kernel_rfl)⟩
  · intro ds hd
    rw [Try.params5] at hd
    match ds, hd with
    | [d0, d1], _ => rfl
  · intro W args ds p hval hA hfz
    rw [Try.params5] at hA hval
    obtain ⟨args⟩ := args
    obtain ⟨v0, vs0, d0, ds0, p0, q0, hargs, rfl, rfl, h0, r0⟩ := trodAll_cons hA
    obtain ⟨v1, vs1, d1, ds1, p1, q1, rfl, rfl, rfl, h1, r1⟩ := trodAll_cons r0
    obtain ⟨rfl, rfl, rfl⟩ := trodAll_nil r1
    simp only at hargs
    subst hargs
    clear hA
    obtain ⟨base0, hv0⟩ := hval 0 32 v0 rfl rfl
    obtain ⟨A0, len0, cap0, rfl⟩ := okWide_slice Try.underlying32 hv0
    obtain ⟨xs0, fp0, hs0⟩ := Opens.sl (E := fInt.cod) (opens_slice Try.underlying32 (by kernel_rfl) (opens_int Try.underlying2)) h0 (fun b off hm => hfz b off (by simp [hm])) rfl
    obtain ⟨base1, hv1⟩ := hval 1 2 v1 rfl rfl
    obtain ⟨a1, rfl, hd1, hp1, wk1⟩ := open_int Try.underlying2 hv1 h1
    have bd1 := bounds_i64 wk1
    exact walkBarLines _ xs0 fp0 a1 W hs0 bd1

theorem barLines_holds : Rows.FnExactBarLinesSaid :=
  OpenClaim.holds_of_wide 5 Try.f5 rfl rfl rfl rfl rfl rfl rfl ⟨rfl, rfl, rfl, rfl, rfl⟩ rfl rfl rfl rfl rfl (by kernel_rfl) Try.func5 (by kernel_rfl)
    (of_decide_eq_true (by kernel_rfl)) (by unfold Func.isWrapper; rw [if_neg (of_decide_eq_false (by kernel_rfl))]; exact ⟨rfl, rfl⟩)
    (fun os started H enc _ => barLines_lifted os started H enc)

#print axioms barLines_holds
end Go.Proofs.Ytflmdbjlefppiaa
