/- The program's ValidDesk returns what the reference's returns, for all arguments: the law FnExactValidDesk returns true for all desks, whatever they hold. -/
import Derived.Test.YtgbgibobokchmaaGreatG06
namespace Go.Proofs.YtgbgibobokchmaaGreat
open Go.RowKit Go.WideShapes Go.ChangeShapes Go.ChangeAt

set_option linter.unusedVariables false
set_option maxRecDepth 100000 in
theorem validDesk_lifted (os : Os) (started : os.Started) (H : Type) (enc : TypeId × Value → H) :
    ReturnsInHanded {} Tryz.checked os 3 .any (Rows.fnExactValidDeskSpec.pre6 enc Tryz.checked.prog Tryz.f3 [] false) (Rows.fnExactValidDeskSpec.post enc Tryz.checked.prog Tryz.f3 false true false false) := by
  refine law_lifted os started H enc Tryz.func3 (by kernel_rfl)
    (ChangeSpec.witness6 (enc := enc) (C := Tryz.checked) false ⟨#[], #[.agg #[.slice none 0 0, .int .i64 0, .int .i64 0, .slice none 0 0, .slice none 0 0, .slice none 0 0, .slice none 0 0, .slice none 0 0, .slice none 0 0, .slice none 0 0, .slice none 0 0, .slice none 0 0, .slice none 0 0, .slice none 0 0]], []⟩ 8 (by kernel_rfl) (by kernel_rfl) (by kernel_rfl) (by kernel_rfl)) rfl rfl ?_ ?_ ?_
  · intro t ht
    rw [Tryz.params3] at ht
    simp at ht
    rcases ht with rfl
    all_goals exact ⟨by kernel_rfl, of_decide_eq_true (by kernel_rfl)⟩
  · intro ds hd
    rw [Tryz.params3] at hd
    match ds, hd with
    | [d0], _ => rfl
  · intro W args ds p hval hA hfz
    rw [Tryz.params3] at hA hval
    obtain ⟨args⟩ := args
    obtain ⟨v0, vs0, d0, ds0, p0, q0, hargs, rfl, rfl, h0, r0⟩ := trodAll_cons hA
    obtain ⟨rfl, rfl, rfl⟩ := trodAll_nil r0
    simp only at hargs
    subst hargs
    clear hA
    obtain ⟨base0, hv0⟩ := hval 0 36 v0 rfl rfl
    obtain ⟨cs0, rfl, hz0⟩ := okWide_struct Tryz.underlying36 hv0
    obtain ⟨m0, hm0⟩ := h0
    obtain ⟨va0, xs0, F0, hc0, hs0⟩ := opensDesk hm0 (fun b off hm => hfz b off (by simp [hm]))
    obtain rfl : cs0 = #[va0.ob, .int .i64 xs0.rows, .int .i64 xs0.columns, va0.ma, va0.te, va0.st, va0.pa, va0.zo, va0.re, va0.ve, va0.sh, va0.gr, va0.wa, va0.in_] := by simpa [Value.cells] using congrArg List.toArray hc0
    exact walkValidDesk xs0 va0 F0 W hs0

theorem validDesk_holds : Rows.FnExactValidDeskSaid :=
  OpenClaim.holds_of_wide 3 Tryz.f3 rfl rfl rfl rfl rfl rfl rfl ⟨rfl, rfl, rfl, rfl, rfl⟩ rfl rfl rfl rfl rfl (by kernel_rfl) Tryz.func3 (by kernel_rfl)
    (of_decide_eq_true (by kernel_rfl)) (by unfold Func.isWrapper; rw [if_neg (of_decide_eq_false (by kernel_rfl))]; exact ⟨rfl, rfl⟩)
    (fun os started H enc _ => validDesk_lifted os started H enc)

#print axioms validDesk_holds
end Go.Proofs.YtgbgibobokchmaaGreat
