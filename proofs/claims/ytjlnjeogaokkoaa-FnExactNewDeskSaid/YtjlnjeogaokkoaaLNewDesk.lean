/- The program's NewDesk returns what the reference's returns. -/
import Derived.Test.YtjlnjeogaokkoaaWNewDesk
import Derived.Test.YtjlnjeogaokkoaaLaw
import Derived.Test.YtjlnjeogaokkoaaOpen
namespace Go.Proofs.Ytjlnjeogaokkoaa
open Go.RowKit Go.WideShapes Go.ChangeShapes Go.ChangeAt

set_option linter.unusedVariables false
set_option maxRecDepth 100000 in
theorem newDesk_lifted (os : Os) (started : os.Started) (H : Type) (enc : TypeId × Value → H) :
    ReturnsInHanded {} Try.checked os 3 .any (Rows.fnExactNewDeskSpec.pre6 enc Try.checked.prog Try.f3 [] false) (Rows.fnExactNewDeskSpec.post enc Try.checked.prog Try.f3 false true false false) := by
  refine law_lifted os started H enc Try.func3 (by kernel_rfl)
    (ChangeSpec.witness6 (enc := enc) (C := Try.checked) false ⟨#[], #[], []⟩ 8 (by kernel_rfl) (by kernel_rfl) (by kernel_rfl) (by kernel_rfl)) rfl rfl ?_ ?_ ?_
  · intro t ht
    rw [Try.params3] at ht
    simp at ht
  · intro ds hd
    rw [Try.params3] at hd
    match ds, hd with
    | [], _ => rfl
  · intro W args ds p hval hA hfz
    rw [Try.params3] at hA hval
    obtain ⟨args⟩ := args
    obtain ⟨hargs, rfl, rfl⟩ := trodAll_nil hA
    simp only at hargs
    subst hargs
    clear hA
    exact walkNewDesk  W 

theorem newDesk_holds : Rows.FnExactNewDeskSaid :=
  OpenClaim.holds_of_wide 3 Try.f3 rfl rfl rfl rfl rfl rfl rfl ⟨rfl, rfl, rfl, rfl, rfl⟩ rfl rfl rfl rfl rfl (by kernel_rfl) Try.func3 (by kernel_rfl)
    (of_decide_eq_true (by kernel_rfl)) (by unfold Func.isWrapper; rw [if_neg (of_decide_eq_false (by kernel_rfl))]; exact ⟨rfl, rfl⟩)
    (fun os started H enc _ => newDesk_lifted os started H enc)

#print axioms newDesk_holds
end Go.Proofs.Ytjlnjeogaokkoaa
