/- Trees that may be felled leave enough, planting is within its money, and no stand protects less than the weakest one: the law FnStands returns true for all bytes, where the tables of Go's library lie as its text lays them (the card ties that). -/
import Derived.Test.YtphljobklilbdaaGreatDoorG07
import Derived.Test.YtphljobklilbdaaGreatDoorTie
import Derived.Test.YtphljobklilbdaaGreatDoorCards
import Derived.SevenTiedAt
namespace Go.Proofs.YtphljobklilbdaaGreatDoor
open Go.RowKit Go.WideShapes Go.ChangeShapes Go.ChangeAt

set_option linter.unusedVariables false
set_option maxRecDepth 100000 in
theorem stands_lifted (os : Os) (started : os.Started) (H : Type) (enc : TypeId × Value → H) :
    ReturnsInHanded {} Tryz.checked os 3 .any (fun w args => (Rows.fnStandsSpec.pre enc Tryz.checked.prog Tryz.f3 [] false w args ∧ laidMetH Tryz.checked.prog Rows.fnStandsRow.laid w) ∧ sizedMet enc Tryz.checked.prog Tryz.f3 (OpenSpec.ofChange Rows.fnStandsSpec) false w args) (Rows.fnStandsSpec.post enc Tryz.checked.prog Tryz.f3 false true false false) := by
  refine law_liftedL Rows.fnStandsRow.laid os started H enc Tryz.func3 (by kernel_rfl)
    (ChangeSpec.witness_shaped (enc := enc) (C := Tryz.checked) (os := os) (X := fun w _ => laidMetH Tryz.checked.prog Rows.fnStandsRow.laid w) false (doorWorld os) #[.slice none 0 0, .slice none 0 0] 8 rfl (World.shaped_of_RefB (by kernel_rfl) (by kernel_rfl)) (by kernel_rfl) (by kernel_rfl) (by kernel_rfl)
      (laidMetH_of_parts3 (fuel := 8) (laidMet_of_run' 8 (by kernel_rfl) (by kernel_rfl)) (by kernel_rfl) (by kernel_rfl))) rfl rfl ?_ ?_ ?_
  · intro t ht
    rw [Tryz.params3] at ht
    simp at ht
    rcases ht with rfl | rfl
    all_goals exact ⟨by kernel_rfl, of_decide_eq_true (by kernel_rfl)⟩
  · intro ds hd
    rw [Tryz.params3] at hd
    match ds, hd with
    | [d0, d1], _ => rfl
  · intro W args ds p hsh hlaid hval hA hfz
    rw [Tryz.params3] at hA hval
    obtain ⟨args⟩ := args
    obtain ⟨v0, vs0, d0, ds0, p0, q0, hargs, rfl, rfl, h0, r0⟩ := trodAll_cons hA
    obtain ⟨v1, vs1, d1, ds1, p1, q1, rfl, rfl, rfl, h1, r1⟩ := trodAll_cons r0
    obtain ⟨rfl, rfl, rfl⟩ := trodAll_nil r1
    simp only at hargs
    subst hargs
    clear hA
    obtain ⟨base0, hv0⟩ := hval 0 22 v0 rfl rfl
    obtain ⟨A0, len0, cap0, rfl⟩ := okWide_slice Tryz.underlying22 hv0
    obtain ⟨xs0, fp0, hs0⟩ := Opens.sl (E := fByte.cod) (opens_slice Tryz.underlying22 (by kernel_rfl) (opens_byte Tryz.underlying5)) h0 (fun b off hm => hfz b off (by simp [hm])) rfl
    obtain ⟨base1, hv1⟩ := hval 1 22 v1 rfl rfl
    obtain ⟨A1, len1, cap1, rfl⟩ := okWide_slice Tryz.underlying22 hv1
    obtain ⟨xs1, fp1, hs1⟩ := Opens.sl (E := fByte.cod) (opens_slice Tryz.underlying22 (by kernel_rfl) (opens_byte Tryz.underlying5)) h1 (fun b off hm => hfz b off (by simp [hm])) rfl
    exact walkStands _ xs0 fp0 _ xs1 fp1 W hs0 hs1 hsh (rdTabs_of hlaid (by kernel_rfl) (by kernel_rfl) (by kernel_rfl))

theorem stands_row_holds : Rows.FnStandsSaid :=
  OpenClaim.holds_of_wide 3 Tryz.f3 rfl rfl rfl rfl rfl rfl rfl ⟨rfl, rfl, rfl, rfl, rfl⟩ rfl rfl rfl rfl rfl (by kernel_rfl) Tryz.func3 (by kernel_rfl)
    (of_decide_eq_true (by kernel_rfl)) (by unfold Func.isWrapper; rw [if_neg (of_decide_eq_false (by kernel_rfl))]; exact ⟨rfl, rfl⟩)
    (fun os started H enc _ => stands_lifted os started H enc)

/-- The tied card. -/
theorem stands_holds : Rows.FnStandsCardSaid :=
  Claim7.holds_tied_plain_at .later [] Rows.fnStandsCard.laidKinds true Rows.fnStandsCard.stood.harness Rows.fnStandsCard.stood.looks
    stands_row_holds (fun _ h => by cases h) (by kernel_rfl) (fun _ h => by cases h) fnStands_row_tie rfl ⟨rfl, rfl⟩ (by kernel_rfl) rfl
    (fun f fn hf hfn => by
      obtain rfl : f = 3 := Option.some.inj ((show Tryz.prog.funcNamed Rows.fnStandsRow.func = some 3 by kernel_rfl).symm.trans hf) |>.symm
      obtain rfl : fn = Tryz.f3 := (Option.some.inj (Tryz.func3.symm.trans hfn)).symm
      exact ⟨by kernel_rfl, fun j t ht => by
        rw [Tryz.params3] at ht
        have hm : t ∈ [22, 22] := by simpa using Array.mem_of_getElem? ht
        have hall : ([22, 22].all fun u => !Tryz.prog.wantsStandIn u) = true := by kernel_rfl
        exact (show Tryz.prog.wantsStandIn t = false by simpa using List.all_eq_true.1 hall t hm)⟩)
    (by kernel_rfl)

#print axioms stands_holds
end Go.Proofs.YtphljobklilbdaaGreatDoor
