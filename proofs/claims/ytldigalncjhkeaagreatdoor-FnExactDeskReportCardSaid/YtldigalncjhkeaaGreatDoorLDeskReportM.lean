/- The program's DeskReport returns what the reference's returns: the law FnExactDeskReport returns true for all desks, where the table that Go's library writes decimals with lies as its text lays it (the card ties that). -/
import Derived.Test.YtldigalncjhkeaaGreatDoorG08
import Derived.Test.YtldigalncjhkeaaGreatDoorTie
import Derived.Test.YtldigalncjhkeaaGreatDoorCards
import Derived.SevenTiedAt
namespace Go.Proofs.YtldigalncjhkeaaGreatDoor
open Go.RowKit Go.WideShapes Go.ChangeShapes Go.ChangeAt

set_option linter.unusedVariables false
set_option maxRecDepth 100000 in
theorem deskReport_lifted (os : Os) (started : os.Started) (H : Type) (enc : TypeId × Value → H) :
    ReturnsInHanded {} Tryz.checked os 3 .any (fun w args => (Rows.fnExactDeskReportSpec.pre enc Tryz.checked.prog Tryz.f3 [] false w args ∧ laidMetH Tryz.checked.prog Rows.fnExactDeskReportRow.laid w) ∧ sizedMet enc Tryz.checked.prog Tryz.f3 (OpenSpec.ofChange Rows.fnExactDeskReportSpec) false w args) (Rows.fnExactDeskReportSpec.post enc Tryz.checked.prog Tryz.f3 false true false false) := by
  refine law_liftedL Rows.fnExactDeskReportRow.laid os started H enc Tryz.func3 (by kernel_rfl)
    (ChangeSpec.witness_shaped (enc := enc) (C := Tryz.checked) (os := os) (X := fun w _ => laidMetH Tryz.checked.prog Rows.fnExactDeskReportRow.laid w) false (doorWorld os) #[.agg #[.slice none 0 0, .int .i64 0, .int .i64 0, .slice none 0 0, .slice none 0 0, .slice none 0 0, .slice none 0 0, .slice none 0 0, .slice none 0 0, .slice none 0 0, .slice none 0 0, .slice none 0 0, .slice none 0 0, .slice none 0 0]] 8 rfl (World.shaped_of_RefB (by kernel_rfl) (by kernel_rfl)) (by kernel_rfl) (by kernel_rfl) (by kernel_rfl)
      (laidMetH_of_parts3 (fuel := 8) (laidMet_of_run' 8 (by kernel_rfl) (by kernel_rfl)) (by kernel_rfl) (by kernel_rfl))) rfl rfl ?_ ?_ ?_
  · intro t ht
    rw [Tryz.params3] at ht
    simp at ht
    rcases ht with rfl
    all_goals exact ⟨by kernel_rfl, of_decide_eq_true (by kernel_rfl)⟩
  · intro ds hd
    rw [Tryz.params3] at hd
    match ds, hd with
    | [d0], _ => rfl
  · intro W args ds p hsh hlaid hval hA hfz
    rw [Tryz.params3] at hA hval
    obtain ⟨args⟩ := args
    obtain ⟨v0, vs0, d0, ds0, p0, q0, hargs, rfl, rfl, h0, r0⟩ := trodAll_cons hA
    obtain ⟨rfl, rfl, rfl⟩ := trodAll_nil r0
    simp only at hargs
    subst hargs
    clear hA
    obtain ⟨base0, hv0⟩ := hval 0 36 v0 rfl rfl
    obtain ⟨cs0, rfl, hz0⟩ := okWide_struct Tryz.underlying36 hv0
    obtain ⟨m0, hm0⟩ := h0
    obtain ⟨va0, xs0, F0, hc0, hs0⟩ := opensDesk hm0 (fun b off hm => hfz b off (by simp [hm]))
    obtain rfl : cs0 = #[va0.ob, .int .i64 xs0.rows, .int .i64 xs0.columns, va0.ma, va0.te, va0.st, va0.pa, va0.zo, va0.re, va0.ve, va0.sh, va0.gr, va0.wa, va0.in_] := by simpa [Value.cells] using congrArg List.toArray hc0
    exact walkDeskReport xs0 va0 F0 W hs0 (tab10_of hlaid (by kernel_rfl))

theorem deskReport_row_holds : Rows.FnExactDeskReportSaid :=
  OpenClaim.holds_of_wide 3 Tryz.f3 rfl rfl rfl rfl rfl rfl rfl ⟨rfl, rfl, rfl, rfl, rfl⟩ rfl rfl rfl rfl rfl (by kernel_rfl) Tryz.func3 (by kernel_rfl)
    (of_decide_eq_true (by kernel_rfl)) (by unfold Func.isWrapper; rw [if_neg (of_decide_eq_false (by kernel_rfl))]; exact ⟨rfl, rfl⟩)
    (fun os started H enc _ => deskReport_lifted os started H enc)

/-- The tied card. -/
theorem deskReport_holds : Rows.FnExactDeskReportCardSaid :=
  Claim7.holds_tied_plain_at .later [] Rows.fnExactDeskReportCard.laidKinds true Rows.fnExactDeskReportCard.stood.harness Rows.fnExactDeskReportCard.stood.looks
    deskReport_row_holds (fun _ h => by cases h) (by kernel_rfl) (fun _ h => by cases h) fnExactDeskReport_row_tie rfl ⟨rfl, rfl⟩ (by kernel_rfl) rfl
    (fun f fn hf hfn => by
      obtain rfl : f = 3 := Option.some.inj ((show Tryz.prog.funcNamed Rows.fnExactDeskReportRow.func = some 3 by kernel_rfl).symm.trans hf) |>.symm
      obtain rfl : fn = Tryz.f3 := (Option.some.inj (Tryz.func3.symm.trans hfn)).symm
      exact ⟨by kernel_rfl, fun j t ht => by
        rw [Tryz.params3] at ht
        have hm : t ∈ [36] := by simpa using Array.mem_of_getElem? ht
        have hall : ([36].all fun u => !Tryz.prog.wantsStandIn u) = true := by kernel_rfl
        exact (show Tryz.prog.wantsStandIn t = false by simpa using List.all_eq_true.1 hall t hm)⟩)
    (by kernel_rfl)

#print axioms deskReport_holds
end Go.Proofs.YtldigalncjhkeaaGreatDoor
