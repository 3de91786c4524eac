/- For every kind, FnExactProblemName returns true: the program's ProblemName and the reference's give the same text. No condition. -/
import Derived.Test.YtmkjgehhkmfoiaaPn
import Derived.Test.YtmkjgehhkmfoiaaLaw
namespace Go.Proofs.Ytmkjgehhkmfoiaa
open Go.RowKit Go.WideShapes Go.ChangeShapes Go.ChangeAt

set_option maxRecDepth 100000 in
theorem problemName_lifted (os : Os) (started : os.Started) (H : Type) (enc : TypeId × Value → H) :
    ReturnsInHanded {} Try.checked os 3 .any (Rows.fnExactProblemNameSpec.pre6 enc Try.checked.prog Try.f3 [] false) (Rows.fnExactProblemNameSpec.post enc Try.checked.prog Try.f3 false true false false) := by
  refine law_lifted os started H enc Try.func3 (by kernel_rfl)
    (ChangeSpec.witness6 (enc := enc) (C := Try.checked) false ⟨#[], #[.int .i64 0], []⟩ 8 (by kernel_rfl) (by kernel_rfl) (by kernel_rfl) (by kernel_rfl)) rfl rfl ?_ ?_ ?_
  · intro t ht
    rw [Try.params3] at ht
    simp at ht; subst ht
    exact ⟨by kernel_rfl, of_decide_eq_true (by kernel_rfl)⟩
  · intro ds hd
    rw [Try.params3] at hd
    match ds, hd with
    | [d], _ => rfl
  · intro W args ds p hval hA hfz
    rw [Try.params3] at hA hval
    obtain ⟨args⟩ := args
    obtain ⟨v0, vs, d0, ds0, p0, q0, hargs, rfl, rfl, h0, r0⟩ := trodAll_cons hA
    obtain ⟨rfl, rfl, rfl⟩ := trodAll_nil r0
    simp only at hargs
    subst hargs
    obtain ⟨base, hv⟩ := hval 0 2 v0 rfl rfl
    obtain ⟨k, rfl, rfl, rfl, wk⟩ := open_int Try.underlying2 hv h0
    exact lawProblemName k W

theorem problemName_holds : Rows.FnExactProblemNameSaid :=
  OpenClaim.holds_of_wide 3 Try.f3 rfl rfl rfl rfl rfl rfl rfl ⟨rfl, rfl, rfl, rfl, rfl⟩ rfl rfl rfl rfl rfl (by kernel_rfl) Try.func3 (by kernel_rfl)
    (of_decide_eq_true (by kernel_rfl)) (by unfold Func.isWrapper; rw [if_neg (of_decide_eq_false (by kernel_rfl))]; exact ⟨rfl, rfl⟩)
    (fun os started H enc _ => problemName_lifted os started H enc)

#print axioms problemName_holds
end Go.Proofs.Ytmkjgehhkmfoiaa
