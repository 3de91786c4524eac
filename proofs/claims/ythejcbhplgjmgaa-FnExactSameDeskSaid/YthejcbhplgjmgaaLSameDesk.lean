/- The program's SameDesk returns what the reference's returns, for all arguments: the law FnExactSameDesk returns true for all desks, whatever they hold. -/
import Derived.Test.YthejcbhplgjmgaaWSameDesk
import Derived.Test.YthejcbhplgjmgaaLaw
import Derived.Test.YthejcbhplgjmgaaODesk
namespace Go.Proofs.Ythejcbhplgjmgaa
open Go.RowKit Go.WideShapes Go.ChangeShapes Go.ChangeAt

set_option linter.unusedVariables false
set_option maxRecDepth 100000 in
theorem sameDesk_lifted (os : Os) (started : os.Started) (H : Type) (enc : TypeId × Value → H) :
    ReturnsInHanded {} Try.checked os 3 .any (Rows.fnExactSameDeskSpec.pre6 enc Try.checked.prog Try.f3 [] false) (Rows.fnExactSameDeskSpec.post enc Try.checked.prog Try.f3 false true false false) := by
  refine law_lifted os started H enc Try.func3 (by kernel_rfl)
    (ChangeSpec.witness6 (enc := enc) (C := Try.checked) false ⟨#[], #[.agg #[.slice none 0 0, .int .i64 0, .int .i64 0, .slice none 0 0, .slice none 0 0, .slice none 0 0, .slice none 0 0, .slice none 0 0, .slice none 0 0, .slice none 0 0, .slice none 0 0, .slice none 0 0, .slice none 0 0, .slice none 0 0], .agg #[.slice none 0 0, .int .i64 0, .int .i64 0, .slice none 0 0, .slice none 0 0, .slice none 0 0, .slice none 0 0, .slice none 0 0, .slice none 0 0, .slice none 0 0, .slice none 0 0, .slice none 0 0, .slice none 0 0, .slice none 0 0]], []⟩ 8 (by kernel_rfl) (by kernel_rfl) (by kernel_rfl) (by kernel_rfl)) rfl rfl ?_ ?_ ?_
  · intro t ht
    rw [Try.params3] at ht
    simp at ht
    rcases ht with rfl | rfl
    all_goals exact ⟨by kernel_rfl, of_decide_eq_true (by kernel_rfl)⟩
  · intro ds hd
    rw [Try.params3] at hd
    match ds, hd with
    | [d0, d1], _ => rfl
  · intro W args ds p hval hA hfz
    rw [Try.params3] at hA hval
    obtain ⟨args⟩ := args
    obtain ⟨v0, vs0, d0, ds0, p0, q0, hargs, rfl, rfl, h0, r0⟩ := trodAll_cons hA
    obtain ⟨v1, vs1, d1, ds1, p1, q1, rfl, rfl, rfl, h1, r1⟩ := trodAll_cons r0
    obtain ⟨rfl, rfl, rfl⟩ := trodAll_nil r1
    simp only at hargs
    subst hargs
    clear hA
    obtain ⟨base0, hv0⟩ := hval 0 36 v0 rfl rfl
    obtain ⟨cs0, rfl, hz0⟩ := okWide_struct Try.underlying36 hv0
    obtain ⟨m0, hm0⟩ := h0
    obtain ⟨va0, xs0, F0, hc0, hs0⟩ := opensDesk hm0 (fun b off hm => hfz b off (by simp [hm]))
    obtain rfl : cs0 = #[va0.ob, .int .i64 xs0.rows, .int .i64 xs0.columns, va0.ma, va0.te, va0.st, va0.pa, va0.zo, va0.re, va0.ve, va0.sh, va0.gr, va0.wa, va0.in_] := by simpa [Value.cells] using congrArg List.toArray hc0
    obtain ⟨base1, hv1⟩ := hval 1 36 v1 rfl rfl
    obtain ⟨cs1, rfl, hz1⟩ := okWide_struct Try.underlying36 hv1
    obtain ⟨m1, hm1⟩ := h1
    obtain ⟨va1, xs1, F1, hc1, hs1⟩ := opensDesk hm1 (fun b off hm => hfz b off (by simp [hm]))
    obtain rfl : cs1 = #[va1.ob, .int .i64 xs1.rows, .int .i64 xs1.columns, va1.ma, va1.te, va1.st, va1.pa, va1.zo, va1.re, va1.ve, va1.sh, va1.gr, va1.wa, va1.in_] := by simpa [Value.cells] using congrArg List.toArray hc1
    exact walkSameDesk xs0 va0 F0 xs1 va1 F1 W hs0 hs1

theorem sameDesk_holds : Rows.FnExactSameDeskSaid :=
  OpenClaim.holds_of_wide 3 Try.f3 rfl rfl rfl rfl rfl rfl rfl ⟨rfl, rfl, rfl, rfl, rfl⟩ rfl rfl rfl rfl rfl (by kernel_rfl) Try.func3 (by kernel_rfl)
    (of_decide_eq_true (by kernel_rfl)) (by unfold Func.isWrapper; rw [if_neg (of_decide_eq_false (by kernel_rfl))]; exact ⟨rfl, rfl⟩)
    (fun os started H enc _ => sameDesk_lifted os started H enc)

#print axioms sameDesk_holds
end Go.Proofs.Ythejcbhplgjmgaa
