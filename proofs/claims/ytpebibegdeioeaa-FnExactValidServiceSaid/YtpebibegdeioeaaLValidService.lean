
/- The program's ValidService returns what the reference's returns, for all arguments -/
import Derived.Test.YtpebibegdeioeaaWValidService
import Derived.Test.YtpebibegdeioeaaLaw
import Derived.Test.YtpebibegdeioeaaOServ
namespace Go.Proofs.Ytpebibegdeioeaa
open Go.RowKit Go.WideShapes Go.ChangeShapes Go.ChangeAt

set_option linter.unusedVariables false
set_option maxRecDepth 100000 in
theorem validService_lifted (os : Os) (started : os.Started) (H : Type) (enc : TypeId × Value → H) :
    ReturnsInHanded {} Try.checked os 3 .any (Rows.fnExactValidServiceSpec.pre6 enc Try.checked.prog Try.f3 [] false) (Rows.fnExactValidServiceSpec.post enc Try.checked.prog Try.f3 false true false false) := by
  refine law_lifted os started H enc Try.func3 (by kernel_rfl)
    (ChangeSpec.witness6 (enc := enc) (C := Try.checked) false ⟨#[], #[.agg #[.int .i64 0, .int .i64 0, .int .i64 0, .slice none 0 0, .slice none 0 0, .int .i64 0, .slice none 0 0, .slice none 0 0, .int .i64 0, .int .i64 0, .int .i64 0, .int .i64 0, .slice none 0 0, .slice none 0 0, .int .i64 0, .int .i64 0, .int .i64 0, .int .i64 0, .int .i64 0, .int .i64 0, .slice none 0 0]], []⟩ 8 (by kernel_rfl) (by kernel_rfl) (by kernel_rfl) (by kernel_rfl)) rfl rfl ?_ ?_ ?_
  · intro t ht
    rw [Try.params3] at ht
    simp at ht
    rcases ht with rfl
    all_goals exact ⟨by kernel_rfl, of_decide_eq_true (by kernel_rfl)⟩
  · intro ds hd
    rw [Try.params3] at hd
    match ds, hd with
    | [d0], _ => rfl
  · intro W args ds p hval hA hfz
    rw [Try.params3] at hA hval
    obtain ⟨args⟩ := args
    obtain ⟨v0, vs0, d0, ds0, p0, q0, hargs, rfl, rfl, h0, r0⟩ := trodAll_cons hA
    obtain ⟨rfl, rfl, rfl⟩ := trodAll_nil r0
    simp only at hargs
    subst hargs
    clear hA
    obtain ⟨base0, hv0⟩ := hval 0 30 v0 rfl rfl
    obtain ⟨cs0, rfl, hz0⟩ := okWide_struct Try.underlying30 hv0
    obtain ⟨m0, hm0⟩ := h0
    obtain ⟨va0, xs0, F0, hc0, hs0⟩ := opensServ hm0 (fun b off hm => hfz b off (by simp [hm]))
    obtain rfl : cs0 = #[.int .i64 xs0.rows, .int .i64 xs0.columns, .int .i64 xs0.size, va0.he, va0.ma, .int .i64 xs0.friction, va0.se, va0.pr, .int .i64 xs0.rise, .int .i64 xs0.run, .int .i64 xs0.doubt, .int .i64 xs0.limit, va0.as_, va0.ga, .int .i64 xs0.before, .int .i64 xs0.level, .int .i64 xs0.above, .int .i64 xs0.fresh, .int .i64 xs0.weak, .int .i64 xs0.tonnes, va0.tx] := by simpa [Value.cells] using congrArg List.toArray hc0
    exact walkValidService xs0 va0 F0 W hs0

theorem validService_holds : Rows.FnExactValidServiceSaid :=
  OpenClaim.holds_of_wide 3 Try.f3 rfl rfl rfl rfl rfl rfl rfl ⟨rfl, rfl, rfl, rfl, rfl⟩ rfl rfl rfl rfl rfl (by kernel_rfl) Try.func3 (by kernel_rfl)
    (of_decide_eq_true (by kernel_rfl)) (by unfold Func.isWrapper; rw [if_neg (of_decide_eq_false (by kernel_rfl))]; exact ⟨rfl, rfl⟩)
    (fun os started H enc _ => validService_lifted os started H enc)

#print axioms validService_holds
end Go.Proofs.Ytpebibegdeioeaa
