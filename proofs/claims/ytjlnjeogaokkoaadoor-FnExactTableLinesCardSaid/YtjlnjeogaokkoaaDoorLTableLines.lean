/- The program's TableLines returns what the reference's returns, for all tables, where the tables of Go's library lie as its text lays them (the card ties that). -/
import Derived.Test.YtjlnjeogaokkoaaDoorWTableLines
import Derived.Test.YtjlnjeogaokkoaaDoorLawL
import Derived.Test.YtjlnjeogaokkoaaDoorDr
import Derived.Test.YtjlnjeogaokkoaaDoorTie
import Derived.Test.YtjlnjeogaokkoaaDoorCards
import Derived.SevenTiedAt
import Derived.Test.YtjlnjeogaokkoaaDoorOpen
namespace Go.Proofs.YtjlnjeogaokkoaaDoor
open Go.RowKit Go.WideShapes Go.ChangeShapes Go.ChangeAt

set_option linter.unusedVariables false
set_option maxRecDepth 100000 in
theorem tableLines_lifted (os : Os) (started : os.Started) (H : Type) (enc : TypeId × Value → H) :
    ReturnsInHanded {} Tryd.checked os 3 .any (fun w args => (Rows.fnExactTableLinesSpec.pre enc Tryd.checked.prog Tryd.f3 [] false w args ∧ laidMetH Tryd.checked.prog Rows.fnExactTableLinesRow.laid w) ∧ sizedMet enc Tryd.checked.prog Tryd.f3 (OpenSpec.ofChange Rows.fnExactTableLinesSpec) false w args) (Rows.fnExactTableLinesSpec.post enc Tryd.checked.prog Tryd.f3 false true false false) := by
  refine law_liftedL Rows.fnExactTableLinesRow.laid os started H enc Tryd.func3 (by kernel_rfl)
    (ChangeSpec.witness_shaped (enc := enc) (C := Tryd.checked) (os := os) (X := fun w _ => laidMetH Tryd.checked.prog Rows.fnExactTableLinesRow.laid w) false (doorWorld os) #[.slice none 0 0] 8 rfl (World.shaped_of_RefB (by kernel_rfl) (by kernel_rfl)) (by kernel_rfl) (by kernel_rfl) (by kernel_rfl)
      (laidMetH_of_parts3 (fuel := 8) (laidMet_of_run' 8 (by kernel_rfl) (by kernel_rfl)) (by kernel_rfl) (by kernel_rfl))) rfl rfl ?_ ?_ ?_
  · intro t ht
    rw [Tryd.params3] at ht
    simp at ht
    rcases ht with rfl
    all_goals exact ⟨by kernel_rfl, of_decide_eq_true (by kernel_rfl)⟩
  · intro ds hd
    rw [Tryd.params3] at hd
    match ds, hd with
    | [d0], _ => rfl
  · intro W args ds p hsh hlaid hval hA hfz
    rw [Tryd.params3] at hA hval
    obtain ⟨args⟩ := args
    obtain ⟨v0, vs0, d0, ds0, p0, q0, hargs, rfl, rfl, h0, r0⟩ := trodAll_cons hA
    obtain ⟨rfl, rfl, rfl⟩ := trodAll_nil r0
    simp only at hargs
    subst hargs
    clear hA
    obtain ⟨base0, hv0⟩ := hval 0 22 v0 rfl rfl
    obtain ⟨A0, len0, cap0, rfl⟩ := okWide_slice Tryd.underlying22 hv0
    obtain ⟨xs0, fp0, hs0⟩ := Opens.sl (E := fStr.cod.slice) (opens_slice Tryd.underlying22 (by kernel_rfl) (opens_slice Tryd.underlying24 (by kernel_rfl) (opens_str Tryd.underlying9))) h0 (fun b off hm => hfz b off (by simp [hm])) rfl
    exact walkTableLines _ xs0 fp0 W hs0

theorem tableLines_row_holds : Rows.FnExactTableLinesSaid :=
  OpenClaim.holds_of_wide 3 Tryd.f3 rfl rfl rfl rfl rfl rfl rfl ⟨rfl, rfl, rfl, rfl, rfl⟩ rfl rfl rfl rfl rfl (by kernel_rfl) Tryd.func3 (by kernel_rfl)
    (of_decide_eq_true (by kernel_rfl)) (by unfold Func.isWrapper; rw [if_neg (of_decide_eq_false (by kernel_rfl))]; exact ⟨rfl, rfl⟩)
    (fun os started H enc _ => tableLines_lifted os started H enc)

/-- The tied card. -/
theorem tableLines_holds : Rows.FnExactTableLinesCardSaid :=
  Claim7.holds_tied_plain_at .later [] Rows.fnExactTableLinesCard.laidKinds true Rows.fnExactTableLinesCard.stood.harness Rows.fnExactTableLinesCard.stood.looks
    tableLines_row_holds (fun _ h => by cases h) (by kernel_rfl) (fun _ h => by cases h) fnExactTableLines_row_tie rfl ⟨rfl, rfl⟩ (by kernel_rfl) rfl
    (fun f fn hf hfn => by
      obtain rfl : f = 3 := Option.some.inj ((show Tryd.prog.funcNamed Rows.fnExactTableLinesRow.func = some 3 by kernel_rfl).symm.trans hf) |>.symm
      obtain rfl : fn = Tryd.f3 := (Option.some.inj (Tryd.func3.symm.trans hfn)).symm
      exact ⟨by kernel_rfl, fun j t ht => by
        rw [Tryd.params3] at ht
        have hm : t ∈ [22] := by simpa using Array.mem_of_getElem? ht
        have hall : ([22].all fun u => !Tryd.prog.wantsStandIn u) = true := by kernel_rfl
        exact (show Tryd.prog.wantsStandIn t = false by simpa using List.all_eq_true.1 hall t hm)⟩)
    (by kernel_rfl)

#print axioms tableLines_holds
end Go.Proofs.YtjlnjeogaokkoaaDoor
