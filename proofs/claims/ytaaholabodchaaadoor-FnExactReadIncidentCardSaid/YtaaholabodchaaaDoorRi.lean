/- Incidents read. Written by wip/gen/ri.py. -/
import Derived.Test.YtaaholabodchaaaDoorRv
import Derived.Test.YtaaholabodchaaaDoorPIncident
namespace Go.Proofs.YtaaholabodchaaaDoor
open Go.RowKit
set_option linter.unusedVariables false

def incB (x : DIncident) : Bool := inB x.day 0 36524 && nameB x.place && nameB x.cause && inB x.level 1 5 && inB x.caught 0 20 && inB x.buried 0 x.caught
def n00 : DIncident := ⟨0, ⟨#[]⟩, ⟨#[]⟩, 0, 0, 0⟩
def iAg (x : DIncident) : Value := .agg #[.int .i64 x.day, .string x.place, .string x.cause, .int .i64 x.level, .int .i64 x.caught, .int .i64 x.buried]
theorem incV (x : DIncident) : incB x = (inB x.day 0 36524 && (nameB x.place && (nameB x.cause && (inB x.level 1 5 && (inB x.caught 0 20 && inB x.buried 0 x.caught))))) := by
  unfold incB; simp only [Bool.and_assoc]
set_option maxRecDepth 100000 in
set_option maxHeartbeats 4000000 in
theorem l28One_any (pb po : Nat) (x : DIncident) (w : World) (hp : PIncident w pb po x) (hok : fIncident.ok x) :
    Calls Tryd.prog 30 #[.pointer (some ⟨pb, po, none⟩)] w fun e w' => e = .returned (.bool (incB x)) ∧ Below w.heap.size w w' := by
  obtain ⟨c0, c1, c2, c3, c4, c5⟩ := id hp
  obtain ⟨_, k1, k2, _⟩ := id hok
  have k1' : x.place.size ≤ 9223372036854775807 := k1
  have k2' : x.cause.size ≤ 9223372036854775807 := k2
  clear k1 k2 hok hp
  go_enter Tryd.func30, Tryd.ntmps30
  go_wp2
  have gc0 := cell_regrown c0
  have gc1 := cell_regrown c1
  have gc2 := cell_regrown c2
  have gc3 := cell_regrown c3
  have gc4 := cell_regrown c4
  have gc5 := cell_regrown c5
  refine wp_region_mix (C := fun w' => ∃ p : Regrown, w' = Go.Sort.grow (redrawn w p.d) p.os) [true, true, true, true, false, true, true, true, true, true, false, true, true, true, true, true, true, false, true, true, true, true, true, true, false, true, true, true, true, true, true, false, true, true, true, true, true, true, true, true, true, true, false, true, true] (by kernel_rfl) (by kernel_rfl) (by kernel_rfl) (fun _ _ d _ _ h => by cases d <;> exact h) (regrown_of_below (Below.drew (Below.refl _ _))) ?_
  have hS0 : Below (w.heap.size) w w.drew := Below.drew (Below.refl _ _)
  refine wpMix_pure (by kernel_rfl) (fun K hK => ?_)
  go_big_quiet_op
  refine hK _ ?_; clear hK K
  refine wpMix_pure (by kernel_rfl) (fun K hK => ?_)
  go_big_quiet_op
  refine hK _ ?_; clear hK K
  refine wpMix_pure (by kernel_rfl) (fun K hK => ?_)
  go_big_quiet_op
  refine hK _ ?_; clear hK K
  refine wpMix_pure (by kernel_rfl) (fun K hK => ?_)
  go_big_quiet_op
  refine hK _ ?_; clear hK K
  refine wpMix_act (by kernel_rfl) (fun K hK => ?_)
  go_big_op
  refine (l02Day_any _ _).mono ?_
  rintro e w' ⟨rfl, rfl⟩
  refine hK _ _ (regrown_of_below hS0) ?_
  clear hK K
  cases hq4 : inB x.day 0 36524
  · skip
    refine wpMix_pure (by kernel_rfl) (fun K hK => ?_)
    go_big_quiet_op
    refine hK _ ?_; clear hK K
    refine wpMix_skip (by kernel_rfl) (fun K hK => ?_)
    simp only [Act.put, List.setIfInBounds_toArray, List.set_cons_zero, List.set_cons_succ]
    refine hK _ ?_; clear hK K
    refine wpMix_skip (by kernel_rfl) (fun K hK => ?_)
    simp only [Act.put, List.setIfInBounds_toArray, List.set_cons_zero, List.set_cons_succ]
    refine hK _ ?_; clear hK K
    refine wpMix_skip (by kernel_rfl) (fun K hK => ?_)
    simp only [Act.put, List.setIfInBounds_toArray, List.set_cons_zero, List.set_cons_succ]
    refine hK _ ?_; clear hK K
    refine wpMix_skip (by kernel_rfl) (fun K hK => ?_)
    simp only [Act.put, List.setIfInBounds_toArray, List.set_cons_zero, List.set_cons_succ]
    refine hK _ ?_; clear hK K
    refine wpMix_skip (by kernel_rfl) (fun K hK => ?_)
    simp only [Act.put, List.setIfInBounds_toArray, List.set_cons_zero, List.set_cons_succ]
    refine hK _ ?_; clear hK K
    refine wpMix_pure (by kernel_rfl) (fun K hK => ?_)
    go_big_quiet_op
    refine hK _ ?_; clear hK K
    refine wpMix_pure (by kernel_rfl) (fun K hK => ?_)
    go_big_quiet_op
    refine hK _ ?_; clear hK K
    refine wpMix_skip (by kernel_rfl) (fun K hK => ?_)
    simp only [Act.put, List.setIfInBounds_toArray, List.set_cons_zero, List.set_cons_succ]
    refine hK _ ?_; clear hK K
    refine wpMix_skip (by kernel_rfl) (fun K hK => ?_)
    simp only [Act.put, List.setIfInBounds_toArray, List.set_cons_zero, List.set_cons_succ]
    refine hK _ ?_; clear hK K
    refine wpMix_skip (by kernel_rfl) (fun K hK => ?_)
    simp only [Act.put, List.setIfInBounds_toArray, List.set_cons_zero, List.set_cons_succ]
    refine hK _ ?_; clear hK K
    refine wpMix_skip (by kernel_rfl) (fun K hK => ?_)
    simp only [Act.put, List.setIfInBounds_toArray, List.set_cons_zero, List.set_cons_succ]
    refine hK _ ?_; clear hK K
    refine wpMix_skip (by kernel_rfl) (fun K hK => ?_)
    simp only [Act.put, List.setIfInBounds_toArray, List.set_cons_zero, List.set_cons_succ]
    refine hK _ ?_; clear hK K
    refine wpMix_pure (by kernel_rfl) (fun K hK => ?_)
    go_big_quiet_op
    refine hK _ ?_; clear hK K
    refine wpMix_pure (by kernel_rfl) (fun K hK => ?_)
    go_big_quiet_op
    refine hK _ ?_; clear hK K
    refine wpMix_skip (by kernel_rfl) (fun K hK => ?_)
    simp only [Act.put, List.setIfInBounds_toArray, List.set_cons_zero, List.set_cons_succ]
    refine hK _ ?_; clear hK K
    refine wpMix_skip (by kernel_rfl) (fun K hK => ?_)
    simp only [Act.put, List.setIfInBounds_toArray, List.set_cons_zero, List.set_cons_succ]
    refine hK _ ?_; clear hK K
    refine wpMix_skip (by kernel_rfl) (fun K hK => ?_)
    simp only [Act.put, List.setIfInBounds_toArray, List.set_cons_zero, List.set_cons_succ]
    refine hK _ ?_; clear hK K
    refine wpMix_skip (by kernel_rfl) (fun K hK => ?_)
    simp only [Act.put, List.setIfInBounds_toArray, List.set_cons_zero, List.set_cons_succ]
    refine hK _ ?_; clear hK K
    refine wpMix_skip (by kernel_rfl) (fun K hK => ?_)
    simp only [Act.put, List.setIfInBounds_toArray, List.set_cons_zero, List.set_cons_succ]
    refine hK _ ?_; clear hK K
    refine wpMix_pure (by kernel_rfl) (fun K hK => ?_)
    go_big_quiet_op
    refine hK _ ?_; clear hK K
    refine wpMix_pure (by kernel_rfl) (fun K hK => ?_)
    go_big_quiet_op
    refine hK _ ?_; clear hK K
    refine wpMix_skip (by kernel_rfl) (fun K hK => ?_)
    simp only [Act.put, List.setIfInBounds_toArray, List.set_cons_zero, List.set_cons_succ]
    refine hK _ ?_; clear hK K
    refine wpMix_skip (by kernel_rfl) (fun K hK => ?_)
    simp only [Act.put, List.setIfInBounds_toArray, List.set_cons_zero, List.set_cons_succ]
    refine hK _ ?_; clear hK K
    refine wpMix_skip (by kernel_rfl) (fun K hK => ?_)
    simp only [Act.put, List.setIfInBounds_toArray, List.set_cons_zero, List.set_cons_succ]
    refine hK _ ?_; clear hK K
    refine wpMix_skip (by kernel_rfl) (fun K hK => ?_)
    simp only [Act.put, List.setIfInBounds_toArray, List.set_cons_zero, List.set_cons_succ]
    refine hK _ ?_; clear hK K
    refine wpMix_skip (by kernel_rfl) (fun K hK => ?_)
    simp only [Act.put, List.setIfInBounds_toArray, List.set_cons_zero, List.set_cons_succ]
    refine hK _ ?_; clear hK K
    refine wpMix_pure (by kernel_rfl) (fun K hK => ?_)
    go_big_quiet_op
    refine hK _ ?_; clear hK K
    refine wpMix_pure (by kernel_rfl) (fun K hK => ?_)
    go_big_quiet_op
    refine hK _ ?_; clear hK K
    refine wpMix_skip (by kernel_rfl) (fun K hK => ?_)
    simp only [Act.put, List.setIfInBounds_toArray, List.set_cons_zero, List.set_cons_succ]
    refine hK _ ?_; clear hK K
    refine wpMix_skip (by kernel_rfl) (fun K hK => ?_)
    simp only [Act.put, List.setIfInBounds_toArray, List.set_cons_zero, List.set_cons_succ]
    refine hK _ ?_; clear hK K
    refine wpMix_skip (by kernel_rfl) (fun K hK => ?_)
    simp only [Act.put, List.setIfInBounds_toArray, List.set_cons_zero, List.set_cons_succ]
    refine hK _ ?_; clear hK K
    refine wpMix_skip (by kernel_rfl) (fun K hK => ?_)
    simp only [Act.put, List.setIfInBounds_toArray, List.set_cons_zero, List.set_cons_succ]
    refine hK _ ?_; clear hK K
    refine wpMix_skip (by kernel_rfl) (fun K hK => ?_)
    simp only [Act.put, List.setIfInBounds_toArray, List.set_cons_zero, List.set_cons_succ]
    refine hK _ ?_; clear hK K
    refine wpMix_skip (by kernel_rfl) (fun K hK => ?_)
    simp only [Act.put, List.setIfInBounds_toArray, List.set_cons_zero, List.set_cons_succ]
    refine hK _ ?_; clear hK K
    refine wpMix_skip (by kernel_rfl) (fun K hK => ?_)
    simp only [Act.put, List.setIfInBounds_toArray, List.set_cons_zero, List.set_cons_succ]
    refine hK _ ?_; clear hK K
    refine wpMix_skip (by kernel_rfl) (fun K hK => ?_)
    simp only [Act.put, List.setIfInBounds_toArray, List.set_cons_zero, List.set_cons_succ]
    refine hK _ ?_; clear hK K
    refine wpMix_skip (by kernel_rfl) (fun K hK => ?_)
    simp only [Act.put, List.setIfInBounds_toArray, List.set_cons_zero, List.set_cons_succ]
    refine hK _ ?_; clear hK K
    refine wpMix_pure (by kernel_rfl) (fun K hK => ?_)
    go_big_quiet_op
    refine hK _ ?_; clear hK K
    refine wpMix_pure (by kernel_rfl) (fun K hK => ?_)
    go_big_quiet_op
    refine hK _ ?_; clear hK K
    refine wpMix_nil ?_
    go_wp2
    go_ret
    exact ⟨ret_bool (by simp [incB, *]), hS0⟩
  · skip
    refine wpMix_pure (by kernel_rfl) (fun K hK => ?_)
    go_big_quiet_op
    refine hK _ ?_; clear hK K
    refine wpMix_pure (by kernel_rfl) (fun K hK => ?_)
    go_big_quiet_op
    refine hK _ ?_; clear hK K
    refine wpMix_pure (by kernel_rfl) (fun K hK => ?_)
    go_big_quiet_op
    refine hK _ ?_; clear hK K
    refine wpMix_pure (by kernel_rfl) (fun K hK => ?_)
    go_big_quiet_op
    refine hK _ ?_; clear hK K
    refine wpMix_pure (by kernel_rfl) (fun K hK => ?_)
    go_big_quiet_op
    refine hK _ ?_; clear hK K
    refine wpMix_act (by kernel_rfl) (fun K hK => ?_)
    go_big_op
    refine (l01Name_any _ _ k1').mono ?_
    rintro e w' ⟨rfl, rfl⟩
    refine hK _ _ (regrown_of_below hS0) ?_
    clear hK K
    cases hq10 : nameB x.place
    · skip
      refine wpMix_pure (by kernel_rfl) (fun K hK => ?_)
      go_big_quiet_op
      refine hK _ ?_; clear hK K
      refine wpMix_pure (by kernel_rfl) (fun K hK => ?_)
      go_big_quiet_op
      refine hK _ ?_; clear hK K
      refine wpMix_skip (by kernel_rfl) (fun K hK => ?_)
      simp only [Act.put, List.setIfInBounds_toArray, List.set_cons_zero, List.set_cons_succ]
      refine hK _ ?_; clear hK K
      refine wpMix_skip (by kernel_rfl) (fun K hK => ?_)
      simp only [Act.put, List.setIfInBounds_toArray, List.set_cons_zero, List.set_cons_succ]
      refine hK _ ?_; clear hK K
      refine wpMix_skip (by kernel_rfl) (fun K hK => ?_)
      simp only [Act.put, List.setIfInBounds_toArray, List.set_cons_zero, List.set_cons_succ]
      refine hK _ ?_; clear hK K
      refine wpMix_skip (by kernel_rfl) (fun K hK => ?_)
      simp only [Act.put, List.setIfInBounds_toArray, List.set_cons_zero, List.set_cons_succ]
      refine hK _ ?_; clear hK K
      refine wpMix_skip (by kernel_rfl) (fun K hK => ?_)
      simp only [Act.put, List.setIfInBounds_toArray, List.set_cons_zero, List.set_cons_succ]
      refine hK _ ?_; clear hK K
      refine wpMix_pure (by kernel_rfl) (fun K hK => ?_)
      go_big_quiet_op
      refine hK _ ?_; clear hK K
      refine wpMix_pure (by kernel_rfl) (fun K hK => ?_)
      go_big_quiet_op
      refine hK _ ?_; clear hK K
      refine wpMix_skip (by kernel_rfl) (fun K hK => ?_)
      simp only [Act.put, List.setIfInBounds_toArray, List.set_cons_zero, List.set_cons_succ]
      refine hK _ ?_; clear hK K
      refine wpMix_skip (by kernel_rfl) (fun K hK => ?_)
      simp only [Act.put, List.setIfInBounds_toArray, List.set_cons_zero, List.set_cons_succ]
      refine hK _ ?_; clear hK K
      refine wpMix_skip (by kernel_rfl) (fun K hK => ?_)
      simp only [Act.put, List.setIfInBounds_toArray, List.set_cons_zero, List.set_cons_succ]
      refine hK _ ?_; clear hK K
      refine wpMix_skip (by kernel_rfl) (fun K hK => ?_)
      simp only [Act.put, List.setIfInBounds_toArray, List.set_cons_zero, List.set_cons_succ]
      refine hK _ ?_; clear hK K
      refine wpMix_skip (by kernel_rfl) (fun K hK => ?_)
      simp only [Act.put, List.setIfInBounds_toArray, List.set_cons_zero, List.set_cons_succ]
      refine hK _ ?_; clear hK K
      refine wpMix_pure (by kernel_rfl) (fun K hK => ?_)
      go_big_quiet_op
      refine hK _ ?_; clear hK K
      refine wpMix_pure (by kernel_rfl) (fun K hK => ?_)
      go_big_quiet_op
      refine hK _ ?_; clear hK K
      refine wpMix_skip (by kernel_rfl) (fun K hK => ?_)
      simp only [Act.put, List.setIfInBounds_toArray, List.set_cons_zero, List.set_cons_succ]
      refine hK _ ?_; clear hK K
      refine wpMix_skip (by kernel_rfl) (fun K hK => ?_)
      simp only [Act.put, List.setIfInBounds_toArray, List.set_cons_zero, List.set_cons_succ]
      refine hK _ ?_; clear hK K
      refine wpMix_skip (by kernel_rfl) (fun K hK => ?_)
      simp only [Act.put, List.setIfInBounds_toArray, List.set_cons_zero, List.set_cons_succ]
      refine hK _ ?_; clear hK K
      refine wpMix_skip (by kernel_rfl) (fun K hK => ?_)
      simp only [Act.put, List.setIfInBounds_toArray, List.set_cons_zero, List.set_cons_succ]
      refine hK _ ?_; clear hK K
      refine wpMix_skip (by kernel_rfl) (fun K hK => ?_)
      simp only [Act.put, List.setIfInBounds_toArray, List.set_cons_zero, List.set_cons_succ]
      refine hK _ ?_; clear hK K
      refine wpMix_pure (by kernel_rfl) (fun K hK => ?_)
      go_big_quiet_op
      refine hK _ ?_; clear hK K
      refine wpMix_pure (by kernel_rfl) (fun K hK => ?_)
      go_big_quiet_op
      refine hK _ ?_; clear hK K
      refine wpMix_skip (by kernel_rfl) (fun K hK => ?_)
      simp only [Act.put, List.setIfInBounds_toArray, List.set_cons_zero, List.set_cons_succ]
      refine hK _ ?_; clear hK K
      refine wpMix_skip (by kernel_rfl) (fun K hK => ?_)
      simp only [Act.put, List.setIfInBounds_toArray, List.set_cons_zero, List.set_cons_succ]
      refine hK _ ?_; clear hK K
      refine wpMix_skip (by kernel_rfl) (fun K hK => ?_)
      simp only [Act.put, List.setIfInBounds_toArray, List.set_cons_zero, List.set_cons_succ]
      refine hK _ ?_; clear hK K
      refine wpMix_skip (by kernel_rfl) (fun K hK => ?_)
      simp only [Act.put, List.setIfInBounds_toArray, List.set_cons_zero, List.set_cons_succ]
      refine hK _ ?_; clear hK K
      refine wpMix_skip (by kernel_rfl) (fun K hK => ?_)
      simp only [Act.put, List.setIfInBounds_toArray, List.set_cons_zero, List.set_cons_succ]
      refine hK _ ?_; clear hK K
      refine wpMix_skip (by kernel_rfl) (fun K hK => ?_)
      simp only [Act.put, List.setIfInBounds_toArray, List.set_cons_zero, List.set_cons_succ]
      refine hK _ ?_; clear hK K
      refine wpMix_skip (by kernel_rfl) (fun K hK => ?_)
      simp only [Act.put, List.setIfInBounds_toArray, List.set_cons_zero, List.set_cons_succ]
      refine hK _ ?_; clear hK K
      refine wpMix_skip (by kernel_rfl) (fun K hK => ?_)
      simp only [Act.put, List.setIfInBounds_toArray, List.set_cons_zero, List.set_cons_succ]
      refine hK _ ?_; clear hK K
      refine wpMix_skip (by kernel_rfl) (fun K hK => ?_)
      simp only [Act.put, List.setIfInBounds_toArray, List.set_cons_zero, List.set_cons_succ]
      refine hK _ ?_; clear hK K
      refine wpMix_pure (by kernel_rfl) (fun K hK => ?_)
      go_big_quiet_op
      refine hK _ ?_; clear hK K
      refine wpMix_pure (by kernel_rfl) (fun K hK => ?_)
      go_big_quiet_op
      refine hK _ ?_; clear hK K
      refine wpMix_nil ?_
      go_wp2
      go_ret
      exact ⟨ret_bool (by simp [incB, *]), hS0⟩
    · skip
      refine wpMix_pure (by kernel_rfl) (fun K hK => ?_)
      go_big_quiet_op
      refine hK _ ?_; clear hK K
      refine wpMix_pure (by kernel_rfl) (fun K hK => ?_)
      go_big_quiet_op
      refine hK _ ?_; clear hK K
      refine wpMix_pure (by kernel_rfl) (fun K hK => ?_)
      go_big_quiet_op
      refine hK _ ?_; clear hK K
      refine wpMix_pure (by kernel_rfl) (fun K hK => ?_)
      go_big_quiet_op
      refine hK _ ?_; clear hK K
      refine wpMix_pure (by kernel_rfl) (fun K hK => ?_)
      go_big_quiet_op
      refine hK _ ?_; clear hK K
      refine wpMix_pure (by kernel_rfl) (fun K hK => ?_)
      go_big_quiet_op
      refine hK _ ?_; clear hK K
      refine wpMix_act (by kernel_rfl) (fun K hK => ?_)
      go_big_op
      refine (l01Name_any _ _ k2').mono ?_
      rintro e w' ⟨rfl, rfl⟩
      refine hK _ _ (regrown_of_below hS0) ?_
      clear hK K
      cases hq17 : nameB x.cause
      · skip
        refine wpMix_pure (by kernel_rfl) (fun K hK => ?_)
        go_big_quiet_op
        refine hK _ ?_; clear hK K
        refine wpMix_pure (by kernel_rfl) (fun K hK => ?_)
        go_big_quiet_op
        refine hK _ ?_; clear hK K
        refine wpMix_skip (by kernel_rfl) (fun K hK => ?_)
        simp only [Act.put, List.setIfInBounds_toArray, List.set_cons_zero, List.set_cons_succ]
        refine hK _ ?_; clear hK K
        refine wpMix_skip (by kernel_rfl) (fun K hK => ?_)
        simp only [Act.put, List.setIfInBounds_toArray, List.set_cons_zero, List.set_cons_succ]
        refine hK _ ?_; clear hK K
        refine wpMix_skip (by kernel_rfl) (fun K hK => ?_)
        simp only [Act.put, List.setIfInBounds_toArray, List.set_cons_zero, List.set_cons_succ]
        refine hK _ ?_; clear hK K
        refine wpMix_skip (by kernel_rfl) (fun K hK => ?_)
        simp only [Act.put, List.setIfInBounds_toArray, List.set_cons_zero, List.set_cons_succ]
        refine hK _ ?_; clear hK K
        refine wpMix_skip (by kernel_rfl) (fun K hK => ?_)
        simp only [Act.put, List.setIfInBounds_toArray, List.set_cons_zero, List.set_cons_succ]
        refine hK _ ?_; clear hK K
        refine wpMix_pure (by kernel_rfl) (fun K hK => ?_)
        go_big_quiet_op
        refine hK _ ?_; clear hK K
        refine wpMix_pure (by kernel_rfl) (fun K hK => ?_)
        go_big_quiet_op
        refine hK _ ?_; clear hK K
        refine wpMix_skip (by kernel_rfl) (fun K hK => ?_)
        simp only [Act.put, List.setIfInBounds_toArray, List.set_cons_zero, List.set_cons_succ]
        refine hK _ ?_; clear hK K
        refine wpMix_skip (by kernel_rfl) (fun K hK => ?_)
        simp only [Act.put, List.setIfInBounds_toArray, List.set_cons_zero, List.set_cons_succ]
        refine hK _ ?_; clear hK K
        refine wpMix_skip (by kernel_rfl) (fun K hK => ?_)
        simp only [Act.put, List.setIfInBounds_toArray, List.set_cons_zero, List.set_cons_succ]
        refine hK _ ?_; clear hK K
        refine wpMix_skip (by kernel_rfl) (fun K hK => ?_)
        simp only [Act.put, List.setIfInBounds_toArray, List.set_cons_zero, List.set_cons_succ]
        refine hK _ ?_; clear hK K
        refine wpMix_skip (by kernel_rfl) (fun K hK => ?_)
        simp only [Act.put, List.setIfInBounds_toArray, List.set_cons_zero, List.set_cons_succ]
        refine hK _ ?_; clear hK K
        refine wpMix_pure (by kernel_rfl) (fun K hK => ?_)
        go_big_quiet_op
        refine hK _ ?_; clear hK K
        refine wpMix_pure (by kernel_rfl) (fun K hK => ?_)
        go_big_quiet_op
        refine hK _ ?_; clear hK K
        refine wpMix_skip (by kernel_rfl) (fun K hK => ?_)
        simp only [Act.put, List.setIfInBounds_toArray, List.set_cons_zero, List.set_cons_succ]
        refine hK _ ?_; clear hK K
        refine wpMix_skip (by kernel_rfl) (fun K hK => ?_)
        simp only [Act.put, List.setIfInBounds_toArray, List.set_cons_zero, List.set_cons_succ]
        refine hK _ ?_; clear hK K
        refine wpMix_skip (by kernel_rfl) (fun K hK => ?_)
        simp only [Act.put, List.setIfInBounds_toArray, List.set_cons_zero, List.set_cons_succ]
        refine hK _ ?_; clear hK K
        refine wpMix_skip (by kernel_rfl) (fun K hK => ?_)
        simp only [Act.put, List.setIfInBounds_toArray, List.set_cons_zero, List.set_cons_succ]
        refine hK _ ?_; clear hK K
        refine wpMix_skip (by kernel_rfl) (fun K hK => ?_)
        simp only [Act.put, List.setIfInBounds_toArray, List.set_cons_zero, List.set_cons_succ]
        refine hK _ ?_; clear hK K
        refine wpMix_skip (by kernel_rfl) (fun K hK => ?_)
        simp only [Act.put, List.setIfInBounds_toArray, List.set_cons_zero, List.set_cons_succ]
        refine hK _ ?_; clear hK K
        refine wpMix_skip (by kernel_rfl) (fun K hK => ?_)
        simp only [Act.put, List.setIfInBounds_toArray, List.set_cons_zero, List.set_cons_succ]
        refine hK _ ?_; clear hK K
        refine wpMix_skip (by kernel_rfl) (fun K hK => ?_)
        simp only [Act.put, List.setIfInBounds_toArray, List.set_cons_zero, List.set_cons_succ]
        refine hK _ ?_; clear hK K
        refine wpMix_skip (by kernel_rfl) (fun K hK => ?_)
        simp only [Act.put, List.setIfInBounds_toArray, List.set_cons_zero, List.set_cons_succ]
        refine hK _ ?_; clear hK K
        refine wpMix_pure (by kernel_rfl) (fun K hK => ?_)
        go_big_quiet_op
        refine hK _ ?_; clear hK K
        refine wpMix_pure (by kernel_rfl) (fun K hK => ?_)
        go_big_quiet_op
        refine hK _ ?_; clear hK K
        refine wpMix_nil ?_
        go_wp2
        go_ret
        exact ⟨ret_bool (by simp [incB, *]), hS0⟩
      · skip
        refine wpMix_pure (by kernel_rfl) (fun K hK => ?_)
        go_big_quiet_op
        refine hK _ ?_; clear hK K
        refine wpMix_pure (by kernel_rfl) (fun K hK => ?_)
        go_big_quiet_op
        refine hK _ ?_; clear hK K
        refine wpMix_pure (by kernel_rfl) (fun K hK => ?_)
        go_big_quiet_op
        refine hK _ ?_; clear hK K
        refine wpMix_pure (by kernel_rfl) (fun K hK => ?_)
        go_big_quiet_op
        refine hK _ ?_; clear hK K
        refine wpMix_pure (by kernel_rfl) (fun K hK => ?_)
        go_big_quiet_op
        refine hK _ ?_; clear hK K
        refine wpMix_pure (by kernel_rfl) (fun K hK => ?_)
        go_big_quiet_op
        refine hK _ ?_; clear hK K
        refine wpMix_act (by kernel_rfl) (fun K hK => ?_)
        go_big_op
        refine (l17Is_any _ _).mono ?_
        rintro e w' ⟨rfl, rfl⟩
        refine hK _ _ (regrown_of_below hS0) ?_
        clear hK K
        cases hq24 : inB x.level 1 5
        · skip
          refine wpMix_pure (by kernel_rfl) (fun K hK => ?_)
          go_big_quiet_op
          refine hK _ ?_; clear hK K
          refine wpMix_pure (by kernel_rfl) (fun K hK => ?_)
          go_big_quiet_op
          refine hK _ ?_; clear hK K
          refine wpMix_skip (by kernel_rfl) (fun K hK => ?_)
          simp only [Act.put, List.setIfInBounds_toArray, List.set_cons_zero, List.set_cons_succ]
          refine hK _ ?_; clear hK K
          refine wpMix_skip (by kernel_rfl) (fun K hK => ?_)
          simp only [Act.put, List.setIfInBounds_toArray, List.set_cons_zero, List.set_cons_succ]
          refine hK _ ?_; clear hK K
          refine wpMix_skip (by kernel_rfl) (fun K hK => ?_)
          simp only [Act.put, List.setIfInBounds_toArray, List.set_cons_zero, List.set_cons_succ]
          refine hK _ ?_; clear hK K
          refine wpMix_skip (by kernel_rfl) (fun K hK => ?_)
          simp only [Act.put, List.setIfInBounds_toArray, List.set_cons_zero, List.set_cons_succ]
          refine hK _ ?_; clear hK K
          refine wpMix_skip (by kernel_rfl) (fun K hK => ?_)
          simp only [Act.put, List.setIfInBounds_toArray, List.set_cons_zero, List.set_cons_succ]
          refine hK _ ?_; clear hK K
          refine wpMix_pure (by kernel_rfl) (fun K hK => ?_)
          go_big_quiet_op
          refine hK _ ?_; clear hK K
          refine wpMix_pure (by kernel_rfl) (fun K hK => ?_)
          go_big_quiet_op
          refine hK _ ?_; clear hK K
          refine wpMix_skip (by kernel_rfl) (fun K hK => ?_)
          simp only [Act.put, List.setIfInBounds_toArray, List.set_cons_zero, List.set_cons_succ]
          refine hK _ ?_; clear hK K
          refine wpMix_skip (by kernel_rfl) (fun K hK => ?_)
          simp only [Act.put, List.setIfInBounds_toArray, List.set_cons_zero, List.set_cons_succ]
          refine hK _ ?_; clear hK K
          refine wpMix_skip (by kernel_rfl) (fun K hK => ?_)
          simp only [Act.put, List.setIfInBounds_toArray, List.set_cons_zero, List.set_cons_succ]
          refine hK _ ?_; clear hK K
          refine wpMix_skip (by kernel_rfl) (fun K hK => ?_)
          simp only [Act.put, List.setIfInBounds_toArray, List.set_cons_zero, List.set_cons_succ]
          refine hK _ ?_; clear hK K
          refine wpMix_skip (by kernel_rfl) (fun K hK => ?_)
          simp only [Act.put, List.setIfInBounds_toArray, List.set_cons_zero, List.set_cons_succ]
          refine hK _ ?_; clear hK K
          refine wpMix_skip (by kernel_rfl) (fun K hK => ?_)
          simp only [Act.put, List.setIfInBounds_toArray, List.set_cons_zero, List.set_cons_succ]
          refine hK _ ?_; clear hK K
          refine wpMix_skip (by kernel_rfl) (fun K hK => ?_)
          simp only [Act.put, List.setIfInBounds_toArray, List.set_cons_zero, List.set_cons_succ]
          refine hK _ ?_; clear hK K
          refine wpMix_skip (by kernel_rfl) (fun K hK => ?_)
          simp only [Act.put, List.setIfInBounds_toArray, List.set_cons_zero, List.set_cons_succ]
          refine hK _ ?_; clear hK K
          refine wpMix_skip (by kernel_rfl) (fun K hK => ?_)
          simp only [Act.put, List.setIfInBounds_toArray, List.set_cons_zero, List.set_cons_succ]
          refine hK _ ?_; clear hK K
          refine wpMix_pure (by kernel_rfl) (fun K hK => ?_)
          go_big_quiet_op
          refine hK _ ?_; clear hK K
          refine wpMix_pure (by kernel_rfl) (fun K hK => ?_)
          go_big_quiet_op
          refine hK _ ?_; clear hK K
          refine wpMix_nil ?_
          go_wp2
          go_ret
          exact ⟨ret_bool (by simp [incB, *]), hS0⟩
        · skip
          refine wpMix_pure (by kernel_rfl) (fun K hK => ?_)
          go_big_quiet_op
          refine hK _ ?_; clear hK K
          refine wpMix_pure (by kernel_rfl) (fun K hK => ?_)
          go_big_quiet_op
          refine hK _ ?_; clear hK K
          refine wpMix_pure (by kernel_rfl) (fun K hK => ?_)
          go_big_quiet_op
          refine hK _ ?_; clear hK K
          refine wpMix_pure (by kernel_rfl) (fun K hK => ?_)
          go_big_quiet_op
          refine hK _ ?_; clear hK K
          refine wpMix_pure (by kernel_rfl) (fun K hK => ?_)
          go_big_quiet_op
          refine hK _ ?_; clear hK K
          refine wpMix_pure (by kernel_rfl) (fun K hK => ?_)
          go_big_quiet_op
          refine hK _ ?_; clear hK K
          refine wpMix_act (by kernel_rfl) (fun K hK => ?_)
          go_big_op
          refine (l00InB_any _ _ _ _).mono ?_
          rintro e w' ⟨rfl, rfl⟩
          refine hK _ _ (regrown_of_below hS0) ?_
          clear hK K
          cases hq31 : inB x.caught 0 20
          · skip
            refine wpMix_pure (by kernel_rfl) (fun K hK => ?_)
            go_big_quiet_op
            refine hK _ ?_; clear hK K
            refine wpMix_pure (by kernel_rfl) (fun K hK => ?_)
            go_big_quiet_op
            refine hK _ ?_; clear hK K
            refine wpMix_skip (by kernel_rfl) (fun K hK => ?_)
            simp only [Act.put, List.setIfInBounds_toArray, List.set_cons_zero, List.set_cons_succ]
            refine hK _ ?_; clear hK K
            refine wpMix_skip (by kernel_rfl) (fun K hK => ?_)
            simp only [Act.put, List.setIfInBounds_toArray, List.set_cons_zero, List.set_cons_succ]
            refine hK _ ?_; clear hK K
            refine wpMix_skip (by kernel_rfl) (fun K hK => ?_)
            simp only [Act.put, List.setIfInBounds_toArray, List.set_cons_zero, List.set_cons_succ]
            refine hK _ ?_; clear hK K
            refine wpMix_skip (by kernel_rfl) (fun K hK => ?_)
            simp only [Act.put, List.setIfInBounds_toArray, List.set_cons_zero, List.set_cons_succ]
            refine hK _ ?_; clear hK K
            refine wpMix_skip (by kernel_rfl) (fun K hK => ?_)
            simp only [Act.put, List.setIfInBounds_toArray, List.set_cons_zero, List.set_cons_succ]
            refine hK _ ?_; clear hK K
            refine wpMix_skip (by kernel_rfl) (fun K hK => ?_)
            simp only [Act.put, List.setIfInBounds_toArray, List.set_cons_zero, List.set_cons_succ]
            refine hK _ ?_; clear hK K
            refine wpMix_skip (by kernel_rfl) (fun K hK => ?_)
            simp only [Act.put, List.setIfInBounds_toArray, List.set_cons_zero, List.set_cons_succ]
            refine hK _ ?_; clear hK K
            refine wpMix_skip (by kernel_rfl) (fun K hK => ?_)
            simp only [Act.put, List.setIfInBounds_toArray, List.set_cons_zero, List.set_cons_succ]
            refine hK _ ?_; clear hK K
            refine wpMix_skip (by kernel_rfl) (fun K hK => ?_)
            simp only [Act.put, List.setIfInBounds_toArray, List.set_cons_zero, List.set_cons_succ]
            refine hK _ ?_; clear hK K
            refine wpMix_pure (by kernel_rfl) (fun K hK => ?_)
            go_big_quiet_op
            refine hK _ ?_; clear hK K
            refine wpMix_pure (by kernel_rfl) (fun K hK => ?_)
            go_big_quiet_op
            refine hK _ ?_; clear hK K
            refine wpMix_nil ?_
            go_wp2
            go_ret
            exact ⟨ret_bool (by simp [incB, *]), hS0⟩
          · skip
            refine wpMix_pure (by kernel_rfl) (fun K hK => ?_)
            go_big_quiet_op
            refine hK _ ?_; clear hK K
            refine wpMix_pure (by kernel_rfl) (fun K hK => ?_)
            go_big_quiet_op
            refine hK _ ?_; clear hK K
            refine wpMix_pure (by kernel_rfl) (fun K hK => ?_)
            go_big_quiet_op
            refine hK _ ?_; clear hK K
            refine wpMix_pure (by kernel_rfl) (fun K hK => ?_)
            go_big_quiet_op
            refine hK _ ?_; clear hK K
            refine wpMix_pure (by kernel_rfl) (fun K hK => ?_)
            go_big_quiet_op
            refine hK _ ?_; clear hK K
            refine wpMix_pure (by kernel_rfl) (fun K hK => ?_)
            go_big_quiet_op
            refine hK _ ?_; clear hK K
            refine wpMix_pure (by kernel_rfl) (fun K hK => ?_)
            go_big_quiet_op
            refine hK _ ?_; clear hK K
            refine wpMix_pure (by kernel_rfl) (fun K hK => ?_)
            go_big_quiet_op
            refine hK _ ?_; clear hK K
            refine wpMix_pure (by kernel_rfl) (fun K hK => ?_)
            go_big_quiet_op
            refine hK _ ?_; clear hK K
            refine wpMix_pure (by kernel_rfl) (fun K hK => ?_)
            go_big_quiet_op
            refine hK _ ?_; clear hK K
            refine wpMix_act (by kernel_rfl) (fun K hK => ?_)
            go_big_op
            refine (l00InB_any _ _ _ _).mono ?_
            rintro e w' ⟨rfl, rfl⟩
            refine hK _ _ (regrown_of_below hS0) ?_
            clear hK K
            cases hq42 : inB x.buried 0 x.caught
            · skip
              refine wpMix_pure (by kernel_rfl) (fun K hK => ?_)
              go_big_quiet_op
              refine hK _ ?_; clear hK K
              refine wpMix_pure (by kernel_rfl) (fun K hK => ?_)
              go_big_quiet_op
              refine hK _ ?_; clear hK K
              refine wpMix_nil ?_
              go_wp2
              go_ret
              exact ⟨ret_bool (by simp [incB, *]), hS0⟩
            · skip
              refine wpMix_pure (by kernel_rfl) (fun K hK => ?_)
              go_big_quiet_op
              refine hK _ ?_; clear hK K
              refine wpMix_pure (by kernel_rfl) (fun K hK => ?_)
              go_big_quiet_op
              refine hK _ ?_; clear hK K
              refine wpMix_nil ?_
              go_wp2
              go_ret
              exact ⟨ret_bool (by simp [incB, *]), hS0⟩
set_option maxRecDepth 100000 in
set_option maxHeartbeats 4000000 in
theorem incValid_any (x : DIncident) (w : World) (hok : fIncident.ok x) :
    Calls Tryd.prog 32 #[.agg #[.int .i64 x.day, .string x.place, .string x.cause, .int .i64 x.level, .int .i64 x.caught, .int .i64 x.buried]] w fun e w' => e = .returned (.bool (incB x)) ∧ Below w.heap.size w w' := by
  obtain ⟨_, k1, k2, _⟩ := id hok
  have k1' : x.place.size ≤ 9223372036854775807 := k1
  have k2' : x.cause.size ≤ 9223372036854775807 := k2
  clear k1 k2 hok
  have HV := Lib.hid (incV x)
  go_enter Tryd.func32, Tryd.ntmps32
  go_wp2_with fail
  refine (dayValid_any _ _).mono ?_
  rintro e w' ⟨rfl, rfl⟩
  cases hq0 : inB x.day 0 36524
  · have HX : Hid (incB x = false) := by show _ = _; rw [HV.out, hq0]; rfl
    go_wp2
    go_ret
    exact ⟨ret_bool HX.out.symm, (Below.refl _ _).alloc (Nat.le_refl _) _⟩
  · have HX : Hid (incB x = (nameB x.place && (nameB x.cause && (inB x.level 1 5 && (inB x.caught 0 20 && (inB x.buried 0 x.caught)))))) := by show _ = _; rw [HV.out, hq0]; rfl
    go_wp2_with fail
    refine (implIsName_any _ _ k1').mono ?_
    rintro e w' ⟨rfl, rfl⟩
    cases hq1 : nameB x.place
    · have HX : Hid (incB x = false) := by show _ = _; rw [HV.out, hq0, hq1]; rfl
      go_wp2
      go_ret
      exact ⟨ret_bool HX.out.symm, (Below.refl _ _).alloc (Nat.le_refl _) _⟩
    · have HX : Hid (incB x = (nameB x.cause && (inB x.level 1 5 && (inB x.caught 0 20 && (inB x.buried 0 x.caught))))) := by show _ = _; rw [HV.out, hq0, hq1]; rfl
      go_wp2_with fail
      refine (implIsName_any _ _ k2').mono ?_
      rintro e w' ⟨rfl, rfl⟩
      cases hq2 : nameB x.cause
      · have HX : Hid (incB x = false) := by show _ = _; rw [HV.out, hq0, hq1, hq2]; rfl
        go_wp2
        go_ret
        exact ⟨ret_bool HX.out.symm, (Below.refl _ _).alloc (Nat.le_refl _) _⟩
      · have HX : Hid (incB x = (inB x.level 1 5 && (inB x.caught 0 20 && (inB x.buried 0 x.caught)))) := by show _ = _; rw [HV.out, hq0, hq1, hq2]; rfl
        go_wp2_with fail
        refine (levelOk_any _ _).mono ?_
        rintro e w' ⟨rfl, rfl⟩
        cases hq3 : inB x.level 1 5
        · have HX : Hid (incB x = false) := by show _ = _; rw [HV.out, hq0, hq1, hq2, hq3]; rfl
          go_wp2
          go_ret
          exact ⟨ret_bool HX.out.symm, (Below.refl _ _).alloc (Nat.le_refl _) _⟩
        · have HX : Hid (incB x = (inB x.caught 0 20 && (inB x.buried 0 x.caught))) := by show _ = _; rw [HV.out, hq0, hq1, hq2, hq3]; rfl
          go_wp2_with fail
          refine (withinB_any _ _ _ _).mono ?_
          rintro e w' ⟨rfl, rfl⟩
          cases hq4 : inB x.caught 0 20
          · have HX : Hid (incB x = false) := by show _ = _; rw [HV.out, hq0, hq1, hq2, hq3, hq4]; rfl
            go_wp2
            go_ret
            exact ⟨ret_bool HX.out.symm, (Below.refl _ _).alloc (Nat.le_refl _) _⟩
          · have HX : Hid (incB x = (inB x.buried 0 x.caught)) := by show _ = _; rw [HV.out, hq0, hq1, hq2, hq3, hq4]; rfl
            go_wp2_with fail
            refine (withinB_any _ _ _ _).mono ?_
            rintro e w' ⟨rfl, rfl⟩
            rw [← HX.out]
            go_wp2
            go_ret
            exact ⟨rfl, (Below.refl _ _).alloc (Nat.le_refl _) _⟩
def riX (d : Int) (a b z : ByteArray) : DIncident := ⟨d, a, b, (numK 3 z).getD 0 0, (numK 3 z).getD 1 0, (numK 3 z).getD 2 0⟩
def riF (s : ByteArray) : Option DIncident := match splS 32 s with
  | [x, a, b, z] => (match rdF x with | some d => if oneK 3 z && incB (riX d a b z) then some (riX d a b z) else none | none => none)
  | _ => none
def IRet (s : ByteArray) (e : Ending) : Prop := e = .returned (.tuple #[iAg ((riF s).getD n00), .bool (riF s).isSome])
theorem IRet.no {s : ByteArray} (h : riF s = none) : IRet s (.returned (.tuple #[iAg n00, .bool false])) := by unfold IRet; rw [h]; rfl
theorem IRet.yes {s : ByteArray} {x : DIncident} (h : riF s = some x) : IRet s (.returned (.tuple #[iAg x, .bool true])) := by unfold IRet; rw [h]; rfl
theorem riF_len {s : ByteArray} (h : ¬ (splS 32 s).length = 4) : riF s = none := by
  unfold riF
  split
  · rename_i hX; rw [hX] at h; exact absurd rfl h
  · rfl
theorem riF_day {s x a b z : ByteArray} (h : splS 32 s = [x, a, b, z]) (hd : rdF x = none) : riF s = none := by unfold riF; rw [h]; simp only [hd]
theorem riF_one {s x a b z : ByteArray} (h : splS 32 s = [x, a, b, z]) (h1 : oneK 3 z = false) : riF s = none := by
  unfold riF; rw [h]
  cases hd : rdF x with
  | none => simp only [hd]
  | some d => simp only [hd, h1]; rfl
theorem riF_bad {s x a b z : ByteArray} {d p q r : Int} (h : splS 32 s = [x, a, b, z]) (hn : numK 3 z = [p, q, r]) (hd : rdF x = some d) (hv : incB ⟨d, a, b, p, q, r⟩ = false) : riF s = none := by
  have e : riX d a b z = ⟨d, a, b, p, q, r⟩ := by unfold riX; rw [hn]; rfl
  unfold riF; rw [h]; simp only [hd, e, hv, Bool.and_false]; rfl
theorem riF_yes {s x a b z : ByteArray} {d p q r : Int} (h : splS 32 s = [x, a, b, z]) (h1 : oneK 3 z = true) (hn : numK 3 z = [p, q, r]) (hd : rdF x = some d) (hv : incB ⟨d, a, b, p, q, r⟩ = true) : riF s = some ⟨d, a, b, p, q, r⟩ := by
  have e : riX d a b z = ⟨d, a, b, p, q, r⟩ := by unfold riX; rw [hn]; rfl
  unfold riF; rw [h]; simp only [hd, e, hv, h1]; rfl
theorem num3_abcK (b : ByteArray) : ∃ p q r, numK 3 b = [p, q, r] := by
  have h := numK_len 3 b
  match hn : numK 3 b, h with
  | [p, q, r], _ => exact ⟨p, q, r, rfl⟩
structure BoxI (w : World) (g : Nat) : Prop where
  d0 : w.cell? ⟨g, 0, none⟩ = some (.int .i64 0)
  d1 : w.cell? ⟨g, 1, none⟩ = some (.string ⟨#[]⟩)
  d2 : w.cell? ⟨g, 2, none⟩ = some (.string ⟨#[]⟩)
  d3 : w.cell? ⟨g, 3, none⟩ = some (.int .i64 0)
  d4 : w.cell? ⟨g, 4, none⟩ = some (.int .i64 0)
  d5 : w.cell? ⟨g, 5, none⟩ = some (.int .i64 0)
  z0 : w.frozen? ⟨g, 0, none⟩ = false
  z1 : w.frozen? ⟨g, 1, none⟩ = false
  z2 : w.frozen? ⟨g, 2, none⟩ = false
  z3 : w.frozen? ⟨g, 3, none⟩ = false
  z4 : w.frozen? ⟨g, 4, none⟩ = false
  z5 : w.frozen? ⟨g, 5, none⟩ = false
theorem BoxI.new (w : World) (T : TypeId) : BoxI (w.alloc (.cells #[.int .i64 0, .string ⟨#[]⟩, .string ⟨#[]⟩, .int .i64 0, .int .i64 0, .int .i64 0] T)) w.heap.size := by
  constructor <;> simp
theorem BoxI.below {w w' : World} {g B : Nat} (h : BoxI w g) (hb : Below B w w') (hg : g < B) : BoxI w' g :=
  ⟨(hb.cell (p := ⟨g, _, none⟩) hg).trans h.d0, (hb.cell (p := ⟨g, _, none⟩) hg).trans h.d1, (hb.cell (p := ⟨g, _, none⟩) hg).trans h.d2, (hb.cell (p := ⟨g, _, none⟩) hg).trans h.d3, (hb.cell (p := ⟨g, _, none⟩) hg).trans h.d4, (hb.cell (p := ⟨g, _, none⟩) hg).trans h.d5,
   (hb.frozen (p := ⟨g, _, none⟩) hg).trans h.z0, (hb.frozen (p := ⟨g, _, none⟩) hg).trans h.z1, (hb.frozen (p := ⟨g, _, none⟩) hg).trans h.z2, (hb.frozen (p := ⟨g, _, none⟩) hg).trans h.z3, (hb.frozen (p := ⟨g, _, none⟩) hg).trans h.z4, (hb.frozen (p := ⟨g, _, none⟩) hg).trans h.z5⟩
theorem BoxI.far {V : World} {b g j : Nat} {v : Value} (h : BoxI V b) (hne : b ≠ g) : BoxI (V.setCell ⟨g, j, none⟩ v) b := by
  have k : ∀ i, (V.setCell ⟨g, j, none⟩ v).cell? ⟨b, i, none⟩ = V.cell? ⟨b, i, none⟩ := fun i => World.cell?_setCell_far V ⟨g, j, none⟩ ⟨b, i, none⟩ v (fun e => hne e.symm)
  have f : ∀ i, (V.setCell ⟨g, j, none⟩ v).frozen? ⟨b, i, none⟩ = V.frozen? ⟨b, i, none⟩ := fun i => frozen?_setCell _ _ _ _
  exact ⟨(k _).trans h.d0, (k _).trans h.d1, (k _).trans h.d2, (k _).trans h.d3, (k _).trans h.d4, (k _).trans h.d5, (f _).trans h.z0, (f _).trans h.z1, (f _).trans h.z2, (f _).trans h.z3, (f _).trans h.z4, (f _).trans h.z5⟩

set_option maxRecDepth 100000 in
set_option maxHeartbeats 4000000 in
theorem readNum3_any (s : ByteArray) (m : Int) (w : World) (hs : s.size ≤ 1048576) (hm9 : w.cell? ⟨0, 0, none⟩ = some (.int .i64 m)) (ht : RdTabs w) :
    Calls Tryd.prog 17 #[.string s, .int .i64 3] w fun e w' => ∃ v, e = .returned (.tuple #[v, .bool (oneK 3 s)]) ∧ New fInt.cod w v (numK 3 s) w' := by
  obtain ⟨i0, hi, hz0, hz1, hz2⟩ := info_parts infoIntR
  have hmk : ∀ W : World, (Instr.makeSlice 33 (.int .i64 3) (.int .i64 3)).run Tryd.prog W = .ok (.slice (some ⟨W.heap.size, 0, none⟩) 3 3) (W.alloc (.cells (madeCells (Value.int .i64 0).cells (3 * i0.size)) 2)) := fun W => run_make_rowN (P := Tryd.prog) 33 2 i0 _ Tryd.underlying33 hi hz0 .i64 .i64 3 3 (Nat.le_refl _) (by rw [hz2]; decide) (by decide) W
  rw [hz1] at hmk
  have hzero : ∀ W : World, Own fInt (W.alloc (.cells (madeCells #[Value.int .i64 0] 3) 2)) W.heap.size 2 (.slice (some ⟨W.heap.size, 0, none⟩) 3 3) [0, 0, 0] := fun W => by
    rw [made3R]
    exact World.ownsRow_lit (e := 2) (size := 1) W #[Value.int .i64 0, .int .i64 0, .int .i64 0] 3 (Nat.le_refl _) (by decide) rfl
  go_enter Tryd.func17, Tryd.ntmps17
  go_wp2_with fail
  refine (implReadList_any s m _ hs hm9 ht).mono ?_
  rintro e w1 ⟨v1, rfl, hn1⟩
  have hb1 := hn1.below
  have hfail : oneK 3 s = false → ∃ v, Ending.returned (.tuple #[.slice (some ⟨w1.heap.size, 0, none⟩) 3 3, .bool false]) = .returned (.tuple #[v, .bool (oneK 3 s)]) ∧ New fInt.cod w v (numK 3 s) (w1.alloc (.cells (madeCells #[Value.int .i64 0] 3) 2)) := fun h => ⟨_, by rw [h], by
    rw [oneK_no h]
    exact ((hzero w1).new ((Below.refl _ _).alloc (Nat.le_refl _) _) (by intro x hx; simp at hx; subst hx; show _ ∧ _; simp)).later hb1⟩
  have HFAIL := Lib.hid hfail
  clear hfail hzero
  cases hr : rlF s with
  | none =>
    have h1 := oneK_none (k := 3) hr
    rw [show (none : Option (List Int)).isSome = false from rfl]
    clear hn1 hr
    go_wp2
    go_ret2
    exact HFAIL.out h1
  | some xs =>
    have h1 := oneK_some (k := 3) hr
    rw [show (some xs : Option (List Int)).isSome = true from rfl]
    rw [hr] at hn1
    have hn2 : New fInt.cod w v1 xs w1 := hn1
    obtain ⟨⟨fpy, hsy, _, _⟩, _⟩ := id hn2
    obtain ⟨A, cap, rfl, _, _⟩ := hsy.form
    clear hn1 hsy
    by_cases h3 : xs.length = 3
    · rw [decide_eq_true h3] at h1
      have HN := Lib.hid (numK_some hr h3)
      have hn3 : New fInt.cod w (.slice A 3 cap) xs w1 := by rw [← h3]; exact hn2
      have H1 := Lib.hid h1
      have e5 : ((xs.length : Int) == 3) = true := by rw [beq_iff_eq]; omega
      have e6 : ((xs.length : Int) != 3) = false := by unfold bne; rw [e5]; rfl
      clear hr h1
      go_wp2
      go_ret2
      exact ⟨_, by rw [H1.out]; rfl, by rw [HN.out]; exact hn3⟩
    · rw [decide_eq_false h3] at h1
      have H1 := Lib.hid h1
      have e5 : ((xs.length : Int) == 3) = false := by rw [beq_eq_false_iff_ne]; omega
      have e6 : ((xs.length : Int) != 3) = true := by unfold bne; rw [e5]; rfl
      clear hr h1 hn2
      go_wp2
      go_ret2
      exact HFAIL.out H1.out

set_option maxRecDepth 100000 in
set_option maxHeartbeats 8000000 in
theorem l28Read_any (s : ByteArray) (w : World) (hs : s.size ≤ 1048576) :
    Calls Tryd.prog 15 #[.string s] w fun e w' => IRet s e ∧ Below w.heap.size w w' := by
  have hsz := spl_sizeR 32 s
  have HLEN := Lib.hid (fun h => riF_len (s := s) h)
  have HDAY := Lib.hid (fun x a b z (h : splS 32 s = [x, a, b, z]) => riF_day h)
  have HONE := Lib.hid (fun x a b z (h : splS 32 s = [x, a, b, z]) => riF_one h)
  have HBAD := Lib.hid (fun x a b z p q r d (h : splS 32 s = [x, a, b, z]) => riF_bad (p := p) (q := q) (r := r) (d := d) h)
  have HYES := Lib.hid (fun x a b z p q r d (h : splS 32 s = [x, a, b, z]) => riF_yes (p := p) (q := q) (r := r) (d := d) h)
  go_enter Tryd.func15, Tryd.ntmps15
  go_wp2_with fail
  refine (l01Split_any s 32 _ hs).mono ?_
  rintro e w1 ⟨v1, rfl, hown, hb1⟩
  have hX6 : BoxI w1 w.heap.size := (BoxI.new w _).below hb1 (by simp)
  have hB1 : Below w.heap.size w w1 := ((Below.refl _ _).alloc (Nat.le_refl _) _).trans (hb1.mono (by simp))
  have hg1 : w.heap.size < w1.heap.size := by have := hb1.size; simp at this; omega
  have hok : ∀ x ∈ splS 32 s, fStr.ok x := fun x hx => by have := hsz x hx; show _ ≤ _; omega
  obtain ⟨fp1, hsl, _, _⟩ := Sl.of_own (n := (splS 32 s).length) rfl hown hok
  generalize splS 32 s = X at *
  clear hown hok hb1
  obtain ⟨A, cap, rfl, hle, hca⟩ := hsl.form
  by_cases h4 : X.length = 4
  · obtain ⟨x, a, b, z, rfl⟩ : ∃ x a b z, X = [x, a, b, z] := by
      match X, h4 with
      | [x, a, b, z], _ => exact ⟨x, a, b, z, rfl⟩
    have HDAY := Lib.hid (HDAY.out x a b z rfl)
    have HONE := Lib.hid (HONE.out x a b z rfl)
    have HBAD := Lib.hid (fun p q r d => HBAD.out x a b z p q r d rfl)
    have HYES := Lib.hid (fun p q r d => HYES.out x a b z p q r d rfl)
    have hsx := hsz x (by simp)
    have hsa := hsz a (by simp)
    have hsb := hsz b (by simp)
    have hsz' := hsz z (by simp)
    obtain ⟨g, off, rfl, _, _, cx, _⟩ := hsl.cell1 rfl (k := 0) (by simp) rfl
    obtain ⟨g', off', hA', _, _, ca, _⟩ := hsl.cell1 rfl (k := 1) (by simp) rfl
    injection hA' with hA'; injection hA' with ha1 ha2 _; subst ha1 ha2
    obtain ⟨g', off', hA', _, _, cb, _⟩ := hsl.cell1 rfl (k := 2) (by simp) rfl
    injection hA' with hA'; injection hA' with ha1 ha2 _; subst ha1 ha2
    obtain ⟨g', off', hA', _, _, cz, _⟩ := hsl.cell1 rfl (k := 3) (by simp) rfl
    injection hA' with hA'; injection hA' with ha1 ha2 _; subst ha1 ha2
    have cx0 : w1.cell? ⟨g, off, none⟩ = some (.string x) := by simpa using cx
    have ca0 : w1.cell? ⟨g, off + 1, none⟩ = some (.string a) := ca
    have cb0 : w1.cell? ⟨g, off + 2, none⟩ = some (.string b) := cb
    have cz0 : w1.cell? ⟨g, off + 3, none⟩ = some (.string z) := cz
    have hgl := block_lt_of_cell cx0
    have e4 : (([x, a, b, z] : List ByteArray).length : Int) = 4 := rfl
    clear cx ca cb cz hsl hsz h4 HLEN
    go_wp2_with fail
    refine (l02Read_any x _ (by omega)).mono ?_
    rintro e w2 ⟨rfl, hb2⟩
    have hB2 := hB1.trans (hb2.mono hB1.size)
    have hX2 := hX6.below hb2 hg1
    have ca2 := (hb2.cell (p := ⟨g, off + 1, none⟩) hgl).trans ca0
    have cb2 := (hb2.cell (p := ⟨g, off + 2, none⟩) hgl).trans cb0
    have cz2 := (hb2.cell (p := ⟨g, off + 3, none⟩) hgl).trans cz0
    have hg2 : w.heap.size < w2.heap.size := Nat.lt_of_lt_of_le hg1 hb2.size
    have hgl2 : g < w2.heap.size := Nat.lt_of_lt_of_le hgl hb2.size
    clear cx0 ca0 cb0 cz0 hX6 hb2
    go_wp2_with fail
    refine (specReadList_any z _ (by omega)).mono ?_
    rintro e w3 ⟨v3, rfl, hn3⟩
    have hb3 := hn3.below
    have hB3 := hB2.trans (hb3.mono hB2.size)
    have hX3 := hX2.below hb3 hg2
    have hg3 : w.heap.size < w3.heap.size := Nat.lt_of_lt_of_le hg2 hb3.size
    have ca3 := (hb3.cell (p := ⟨g, off + 1, none⟩) hgl2).trans ca2
    have cb3 := (hb3.cell (p := ⟨g, off + 2, none⟩) hgl2).trans cb2
    clear ca2 cb2 cz2 hX2 hb3
    obtain ⟨d0, d1, d2, d3, d4, d5, z0, z1, z2, z3, z4, z5⟩ := id hX3
    cases hd : rdF x with
    | none =>
      have HN := Lib.hid (HDAY.out hd)
      rw [show (none : Option Int).isSome = false from rfl, show (none : Option Int).getD 0 = 0 from rfl]
      clear hn3 hd
      go_wp2
      exact bodyPost_ret (v := .tuple #[iAg n00, .bool false]) (by simp [iAg, n00, results, hit_cellV, d0, d1, d2, d3, d4, d5, Tryd.results15, go_sem]) rfl ⟨IRet.no HN.out, by (repeat (refine Below.setCell ?_ (by first | exact Nat.le_refl _ | (show _ ≤ _; omega)) _)); assumption⟩
    | some d =>
      rw [show (some d).isSome = true from rfl, show (some d).getD 0 = d from rfl]
      have HDD := Lib.hid hd
      obtain ⟨dy, dm, dd, hdok, hdn, _⟩ := rdF_is hd
      have hdr : 0 ≤ d ∧ d ≤ 36524 := by rw [hdn]; exact numD_bounds hdok
      clear hd hdok hdn
      cases hr : rlF z with
      | none =>
        have HN := Lib.hid (HONE.out (oneK_none hr))
        rw [show (none : Option (List Int)).isSome = false from rfl]
        clear hn3 hr
        go_wp2
        exact bodyPost_ret (v := .tuple #[iAg n00, .bool false]) (by simp [iAg, n00, results, hit_cellV, d0, d1, d2, d3, d4, d5, Tryd.results15, go_sem]) rfl ⟨IRet.no HN.out, by (repeat (refine Below.setCell ?_ (by first | exact Nat.le_refl _ | (show _ ≤ _; omega)) _)); assumption⟩
      | some xs =>
        rw [hr] at hn3
        have hn4 : New fInt.cod w2 v3 xs w3 := hn3
        rw [show (some xs : Option (List Int)).isSome = true from rfl]
        obtain ⟨⟨fpy, hsy, _, _⟩, _⟩ := hn4
        have h1 := oneK_some (k := 3) hr
        by_cases hl3 : xs.length = 3
        · rw [decide_eq_true hl3] at h1
          have hnum := numK_some hr hl3
          obtain ⟨p, q, r, rfl⟩ : ∃ p q r, xs = [p, q, r] := by
            match xs, hl3 with
            | [p, q, r], _ => exact ⟨p, q, r, rfl⟩
          have HNO := Lib.hid (HBAD.out p q r d hnum HDD.out)
          have HYE := Lib.hid (HYES.out p q r d h1 hnum HDD.out)
          obtain ⟨A2, cap2, rfl, hle2, _⟩ := hsy.form
          obtain ⟨g2, o2, rfl, _, okp, n0, _⟩ := hsy.cell1 rfl (k := 0) (by simp) rfl
          obtain ⟨g2', o2', hA2, _, okq, n1, _⟩ := hsy.cell1 rfl (k := 1) (by simp) rfl
          injection hA2 with hA2; injection hA2 with ha1 ha2 _; subst ha1 ha2
          obtain ⟨g2', o2', hA2, _, okr, n2, _⟩ := hsy.cell1 rfl (k := 2) (by simp) rfl
          injection hA2 with hA2; injection hA2 with ha1 ha2 _; subst ha1 ha2
          have n00 : w3.cell? ⟨g2, o2, none⟩ = some (.int .i64 p) := by simpa using n0
          have n11 : w3.cell? ⟨g2, o2 + 1, none⟩ = some (.int .i64 q) := n1
          have n22 : w3.cell? ⟨g2, o2 + 2, none⟩ = some (.int .i64 r) := n2
          have e3 : (([p, q, r] : List Int).length : Int) = 3 := rfl
          have hoX : fIncident.ok ⟨d, a, b, p, q, r⟩ := ⟨by show -9223372036854775808 ≤ d ∧ d ≤ 9223372036854775807; omega, by show a.size ≤ 9223372036854775807; omega, by show b.size ≤ 9223372036854775807; omega, okp, okq, okr⟩
          clear n0 n1 n2 hsy hn3 hr HONE HDAY HBAD HYES HDD h1 hnum hl3
          go_wp2
          have gca3 := cell_regrown ca3
          have gcb3 := cell_regrown cb3
          have gn00 := cell_regrown n00
          have gn11 := cell_regrown n11
          have gn22 := cell_regrown n22
          refine wp_region_mix (C := fun w' => ∃ p : Regrown, w' = Go.Sort.grow (redrawn w3 p.d) p.os) [true, true, true, true, true, true, true, true, true, true, true, true, true, true, true, true, true, false, false] (by kernel_rfl) (by kernel_rfl) (by kernel_rfl) (fun _ _ d _ _ h => by cases d <;> exact h) (regrown_of_below (Below.drew (Below.refl _ _))) ?_
          have hS0 : Below (w3.heap.size) w3 w3.drew := Below.drew (Below.refl _ _)
          refine wpMix_pure (by kernel_rfl) (fun K hK => ?_)
          go_big_quiet_op
          refine hK _ ?_; clear hK K
          refine wpMix_pure (by kernel_rfl) (fun K hK => ?_)
          go_big_quiet_op
          refine hK _ ?_; clear hK K
          refine wpMix_pure (by kernel_rfl) (fun K hK => ?_)
          go_big_quiet_op
          refine hK _ ?_; clear hK K
          refine wpMix_pure (by kernel_rfl) (fun K hK => ?_)
          go_big_quiet_op
          refine hK _ ?_; clear hK K
          refine wpMix_pure (by kernel_rfl) (fun K hK => ?_)
          go_big_quiet_op
          refine hK _ ?_; clear hK K
          refine wpMix_pure (by kernel_rfl) (fun K hK => ?_)
          go_big_quiet_op
          refine hK _ ?_; clear hK K
          refine wpMix_pure (by kernel_rfl) (fun K hK => ?_)
          go_big_quiet_op
          refine hK _ ?_; clear hK K
          refine wpMix_pure (by kernel_rfl) (fun K hK => ?_)
          go_big_quiet_op
          refine hK _ ?_; clear hK K
          refine wpMix_pure (by kernel_rfl) (fun K hK => ?_)
          go_big_quiet_op
          refine hK _ ?_; clear hK K
          refine wpMix_pure (by kernel_rfl) (fun K hK => ?_)
          go_big_quiet_op
          refine hK _ ?_; clear hK K
          refine wpMix_pure (by kernel_rfl) (fun K hK => ?_)
          go_big_quiet_op
          refine hK _ ?_; clear hK K
          refine wpMix_pure (by kernel_rfl) (fun K hK => ?_)
          go_big_quiet_op
          refine hK _ ?_; clear hK K
          refine wpMix_pure (by kernel_rfl) (fun K hK => ?_)
          go_big_quiet_op
          refine hK _ ?_; clear hK K
          refine wpMix_pure (by kernel_rfl) (fun K hK => ?_)
          go_big_quiet_op
          refine hK _ ?_; clear hK K
          refine wpMix_pure (by kernel_rfl) (fun K hK => ?_)
          go_big_quiet_op
          refine hK _ ?_; clear hK K
          refine wpMix_pure (by kernel_rfl) (fun K hK => ?_)
          go_big_quiet_op
          refine hK _ ?_; clear hK K
          refine wpMix_pure (by kernel_rfl) (fun K hK => ?_)
          go_big_quiet_op
          refine hK _ ?_; clear hK K
          refine wpMix_act (by kernel_rfl) (fun K hK => ?_)
          go_big_op
          refine hK _ _ (regrown_of_below (by first | exact hS0.alloc hS0.size _ | exact Below.drew ((Below.refl _ _).alloc (Nat.le_refl _) _) | exact (Below.drew (Below.refl _ _)).alloc (Nat.le_refl _) _)) ?_
          clear hK K
          refine wpMix_act (by kernel_rfl) (fun K hK => ?_)
          go_big_op
          refine hK _ _ (regrown_of_below (by first | exact hS0.alloc hS0.size _ | exact Below.drew ((Below.refl _ _).alloc (Nat.le_refl _) _) | exact (Below.drew (Below.refl _ _)).alloc (Nat.le_refl _) _)) ?_
          clear hK K
          refine wpMix_nil ?_
          have hBx : Below w3.heap.size w3 (w3.alloc (.cells #[.int .i64 d, .string a, .string b, .int .i64 p, .int .i64 q, .int .i64 r] 29)).drew := Below.drew ((Below.refl _ _).alloc (Nat.le_refl _) _)
          have hBV := hB3.trans (hBx.mono hB3.size)
          have hXV := hX3.below hBx hg3
          have hpx : PIncident (w3.alloc (.cells #[.int .i64 d, .string a, .string b, .int .i64 p, .int .i64 q, .int .i64 r] 29)).drew w3.heap.size 0 ⟨d, a, b, p, q, r⟩ := (PIncident.box w3 ⟨d, a, b, p, q, r⟩ _).below' (Below.drew (Below.refl _ _))
          have hgV : w3.heap.size < (w3.alloc (.cells #[.int .i64 d, .string a, .string b, .int .i64 p, .int .i64 q, .int .i64 r] 29)).drew.heap.size := by
            show _ < (w3.alloc _).heap.size
            simp
          clear d0 d1 d2 d3 d4 d5 z0 z1 z2 z3 z4 z5 hX3 n00 n11 n22 ca3 cb3 hBx gn00 gn11 gn22 gca3 gcb3 hS0
          generalize (w3.alloc (.cells #[.int .i64 d, .string a, .string b, .int .i64 p, .int .i64 q, .int .i64 r] 29)).drew = V at *
          generalize hwq : w3.heap.size = wq at *
          go_wp2_with fail
          refine (l28One_any wq 0 ⟨d, a, b, p, q, r⟩ _ hpx hoX).mono ?_
          rintro e U ⟨rfl, hbU⟩
          have hBU := hBV.trans (hbU.mono hBV.size)
          have hXU := hXV.below hbU (by omega)
          have hpU := hpx.below' hbU
          clear hXV hpx
          obtain ⟨d0, d1, d2, d3, d4, d5, z0, z1, z2, z3, z4, z5⟩ := hXU
          obtain ⟨x0, x1, x2, x3, x4, x5⟩ := hpU
          cases hgb : incB ⟨d, a, b, p, q, r⟩
          · have HN := Lib.hid (HNO.out hgb)
            clear hgb
            go_wp2
            exact bodyPost_ret (v := .tuple #[iAg n00, .bool false]) (by simp [iAg, n00, results, hit_cellV, d0, d1, d2, d3, d4, d5, Tryd.results15, go_sem]) rfl ⟨IRet.no HN.out, by (repeat (refine Below.setCell ?_ (by first | exact Nat.le_refl _ | (show _ ≤ _; omega)) _)); assumption⟩
          · have HY := Lib.hid (HYE.out hgb)
            clear hgb
            go_wp2
            exact bodyPost_ret (v := .tuple #[iAg ⟨d, a, b, p, q, r⟩, .bool true]) (by simp [iAg, n00, results, hit_cellV, d0, d1, d2, d3, d4, d5, Tryd.results15, go_sem]) rfl ⟨IRet.yes HY.out, by (repeat (refine Below.setCell ?_ (by first | exact Nat.le_refl _ | (show _ ≤ _; omega)) _)); assumption⟩
        · rw [decide_eq_false hl3] at h1
          have HN := Lib.hid (HONE.out h1)
          obtain ⟨A2, cap2, rfl, _, _⟩ := hsy.form
          have e5 : ((xs.length : Int) == 3) = false := by rw [beq_eq_false_iff_ne]; omega
          have e6 : ((xs.length : Int) != 3) = true := by unfold bne; rw [e5]; rfl
          clear hn3 hr hsy h1
          go_wp2
          exact bodyPost_ret (v := .tuple #[iAg n00, .bool false]) (by simp [iAg, n00, results, hit_cellV, d0, d1, d2, d3, d4, d5, Tryd.results15, go_sem]) rfl ⟨IRet.no HN.out, by (repeat (refine Below.setCell ?_ (by first | exact Nat.le_refl _ | (show _ ≤ _; omega)) _)); assumption⟩
  · have HN := Lib.hid (HLEN.out h4)
    obtain ⟨d0, d1, d2, d3, d4, d5, z0, z1, z2, z3, z4, z5⟩ := hX6
    have e5 : ((X.length : Int) == 4) = false := by rw [beq_eq_false_iff_ne]; omega
    have e6 : ((X.length : Int) != 4) = true := by unfold bne; rw [e5]; rfl
    clear hsl h4
    go_wp2
    exact bodyPost_ret (v := .tuple #[iAg n00, .bool false]) (by simp [iAg, n00, results, hit_cellV, d0, d1, d2, d3, d4, d5, Tryd.results15, go_sem]) rfl ⟨IRet.no HN.out, by (repeat (refine Below.setCell ?_ (by first | exact Nat.le_refl _ | (show _ ≤ _; omega)) _)); assumption⟩

theorem nameB_size {s : ByteArray} (h : nameB s = true) : s.size ≤ 10 := by
  by_cases h1 : 10 < s.size
  · rw [nameB_long h1] at h; cases h
  · omega
def itF (x : DIncident) (t : ByteArray) : ByteArray := if incB x then t ++ ⟨#[32]⟩ ++ x.place ++ ⟨#[32]⟩ ++ x.cause ++ ⟨#[32]⟩ ++ listT [x.level, x.caught, x.buried] else ⟨#[]⟩
set_option maxRecDepth 100000 in
set_option maxHeartbeats 8000000 in
theorem IncidentText_any (x : DIncident) (y m d : Int) (w : World) (h : dateOk y m d) (hd : x.day = numD y m d) (hok : fIncident.ok x) (ht : Tab10 w) :
    Calls Tryd.prog 18 #[.agg #[.int .i64 x.day, .string x.place, .string x.cause, .int .i64 x.level, .int .i64 x.caught, .int .i64 x.buried]] w fun e w' => e = .returned (.string (itF x (dayS y m d))) ∧ Below w.heap.size w w' := by
  have hDT := fun (w : World) (ht : Tab10 w) => DateText_any y m d x.day w h hd ht
  have h10 := dayS_size h
  have HF := Lib.hid (show itF x (dayS y m d) = if incB x then dayS y m d ++ ⟨#[32]⟩ ++ x.place ++ ⟨#[32]⟩ ++ x.cause ++ ⟨#[32]⟩ ++ listT [x.level, x.caught, x.buried] else ⟨#[]⟩ from rfl)
  have hoks : ∀ y ∈ [x.level, x.caught, x.buried], fInt.ok y := fun y hy => by
    rcases List.mem_cons.1 hy with rfl | hy
    · exact hok.2.2.2.1
    · rcases List.mem_cons.1 hy with rfl | hy
      · exact hok.2.2.2.2.1
      · rw [List.mem_singleton] at hy; subst hy; exact hok.2.2.2.2.2
  have hls := listT_size hoks (by show 3 ≤ 1000; decide)
  have hl2 := Lib.hid hoks
  have hNS : incB x = true → x.place.size ≤ 10 ∧ x.cause.size ≤ 10 := fun hb => by
    unfold incB at hb
    simp only [Bool.and_eq_true] at hb
    exact ⟨nameB_size hb.1.1.1.1.2, nameB_size hb.1.1.1.2⟩
  generalize itF x (dayS y m d) = R at *
  generalize dayS y m d = t at *
  clear h hd hoks
  have hbx := PIncident.box w x 29
  obtain ⟨c0, c1, c2, c3, c4, c5⟩ := id hbx
  have hB0 : Below w.heap.size w (w.alloc (.cells #[.int .i64 x.day, .string x.place, .string x.cause, .int .i64 x.level, .int .i64 x.caught, .int .i64 x.buried] 29)) := (Below.refl _ _).alloc (Nat.le_refl _) _
  have ht0 := ht.below hB0
  go_enter Tryd.func18, Tryd.ntmps18
  go_wp2_with fail
  refine (incValid_any x _ hok).mono ?_
  rintro e w1 ⟨rfl, hb1⟩
  have hB1 := hB0.trans (hb1.mono hB0.size)
  have hp1 := hbx.below' hb1
  have ht1 := ht0.below hb1
  clear hbx c0 c1 c2 c3 c4 c5 ht0 hb1 hok
  obtain ⟨c0, c1, c2, c3, c4, c5⟩ := id hp1
  have hg1 : w.heap.size < w1.heap.size := hp1.lt
  cases hv : incB x
  · have HX : Hid (R = ⟨#[]⟩) := by show _ = _; rw [HF.out, hv]; rfl
    go_wp2
    go_ret
    exact ⟨ret_str HX.out.symm, hB1⟩
  · have HX : Hid (R = t ++ ⟨#[32]⟩ ++ x.place ++ ⟨#[32]⟩ ++ x.cause ++ ⟨#[32]⟩ ++ listT [x.level, x.caught, x.buried]) := by show _ = _; rw [HF.out, hv]; rfl
    obtain ⟨hps, hcs⟩ := hNS hv
    have s1 : (t ++ ⟨#[32]⟩).size ≤ 11 := by rw [ByteArray.size_append]; show _ + 1 ≤ _; omega
    have s2 : (t ++ ⟨#[32]⟩ ++ x.place).size ≤ 21 := by rw [ByteArray.size_append]; omega
    have s3 : (t ++ ⟨#[32]⟩ ++ x.place ++ ⟨#[32]⟩).size ≤ 22 := by rw [ByteArray.size_append]; show _ + 1 ≤ _; omega
    have s4 : (t ++ ⟨#[32]⟩ ++ x.place ++ ⟨#[32]⟩ ++ x.cause).size ≤ 32 := by rw [ByteArray.size_append]; omega
    have s5 : (t ++ ⟨#[32]⟩ ++ x.place ++ ⟨#[32]⟩ ++ x.cause ++ ⟨#[32]⟩).size ≤ 33 := by rw [ByteArray.size_append]; show _ + 1 ≤ _; omega
    obtain ⟨T, hT⟩ : ∃ T, T = listT [x.level, x.caught, x.buried] := ⟨_, rfl⟩
    have hLT := fun (v : Value) (fp : List Nat) (w : World) (hx : Sl fInt.cod w v [x.level, x.caught, x.buried] fp) (ht : Tab10 w) => ListText_any v [x.level, x.caught, x.buried] fp w hx ht
    rw [← hT] at hls HX hLT
    clear hT HF hv
    go_wp2
    have gc0 := cell_regrown c0
    have gc1 := cell_regrown c1
    have gc2 := cell_regrown c2
    have gc3 := cell_regrown c3
    have gc4 := cell_regrown c4
    have gc5 := cell_regrown c5
    refine wp_region_fork (C := fun w' => ∃ p : Regrown, w' = Go.Sort.grow (redrawn w1 p.d) p.os) [0, 1, 4, 5, 8, 9, 12, 13, 14, 15, 16, 17] 2 [3, 6, 7, 10, 11, 18, 19, 20, 21] [true, true, true, true, true, false, false, true, true] 18 [2, 3, 6, 7, 10, 11, 19, 20, 21] [false, true, true, true, true, true, false, true, true] (by kernel_rfl) (by kernel_rfl) (by kernel_rfl) (fun _ _ d _ _ h => by cases d <;> exact h) (regrown_of_below (Below.drew (Below.refl _ _))) ?_
    simp only [List.map_cons, List.map_nil, List.getD_cons_zero, List.getD_cons_succ]
    have hS0 : Below (w1.heap.size) w1 w1.drew := Below.drew (Below.refl _ _)
    refine wpFork_pure (by kernel_rfl) (fun K hK => ?_)
    go_big_quiet_op
    refine hK _ ?_; clear hK K
    refine wpFork_pure (by kernel_rfl) (fun K hK => ?_)
    go_big_quiet_op
    refine hK _ ?_; clear hK K
    refine wpFork_pure (by kernel_rfl) (fun K hK => ?_)
    go_big_quiet_op
    refine hK _ ?_; clear hK K
    refine wpFork_pure (by kernel_rfl) (fun K hK => ?_)
    go_big_quiet_op
    refine hK _ ?_; clear hK K
    refine wpFork_pure (by kernel_rfl) (fun K hK => ?_)
    go_big_quiet_op
    refine hK _ ?_; clear hK K
    refine wpFork_pure (by kernel_rfl) (fun K hK => ?_)
    go_big_quiet_op
    refine hK _ ?_; clear hK K
    refine wpFork_pure (by kernel_rfl) (fun K hK => ?_)
    go_big_quiet_op
    refine hK _ ?_; clear hK K
    refine wpFork_pure (by kernel_rfl) (fun K hK => ?_)
    go_big_quiet_op
    refine hK _ ?_; clear hK K
    refine wpFork_pure (by kernel_rfl) (fun K hK => ?_)
    go_big_quiet_op
    refine hK _ ?_; clear hK K
    refine wpFork_pure (by kernel_rfl) (fun K hK => ?_)
    go_big_quiet_op
    refine hK _ ?_; clear hK K
    refine wpFork_pure (by kernel_rfl) (fun K hK => ?_)
    go_big_quiet_op
    refine hK _ ?_; clear hK K
    refine wpFork_pure (by kernel_rfl) (fun K hK => ?_)
    go_big_quiet_op
    refine hK _ ?_; clear hK K
    refine wpFork_split ?_ ?_
    · skip
      refine wpMix_act (by kernel_rfl) (fun K hK => ?_)
      go_big_op
      refine (hDT _ (ht1.below hS0)).mono ?_
      rintro e wr1 ⟨rfl, hbr1⟩
      have hbr1S : Below (w1.heap.size) w1 wr1 := hS0.trans (hbr1.mono hS0.size)
      refine hK _ _ (regrown_of_below hbr1S) ?_
      clear hK K
      refine wpMix_pure (by kernel_rfl) (fun K hK => ?_)
      go_big_quiet_op
      refine hK _ ?_; clear hK K
      refine wpMix_pure (by kernel_rfl) (fun K hK => ?_)
      go_big_quiet_op
      refine hK _ ?_; clear hK K
      refine wpMix_pure (by kernel_rfl) (fun K hK => ?_)
      go_big_quiet_op
      refine hK _ ?_; clear hK K
      refine wpMix_pure (by kernel_rfl) (fun K hK => ?_)
      go_big_quiet_op
      refine hK _ ?_; clear hK K
      refine wpMix_pure (by kernel_rfl) (fun K hK => ?_)
      go_big_quiet_op
      refine hK _ ?_; clear hK K
      refine wpMix_act (by kernel_rfl) (fun K hK => ?_)
      go_big_op
      refine hK _ _ (regrown_of_below (hbr1S.alloc hbr1S.size _)) ?_
      clear hK K
      refine mix_world (fun N => Below (w1.heap.size) w1 N ∧ Sl fInt.cod N (.slice (some ⟨wr1.heap.size, 0, none⟩) 3 3) [x.level, x.caught, x.buried] [wr1.heap.size]) ⟨hbr1S.alloc hbr1S.size _, Sl.lit2 (E := fInt) wr1 [x.level, x.caught, x.buried] _ _ rfl hl2.out (by show 0 < 3; decide) (by show 3 ≤ _; decide)⟩ ?_
      rintro wr2 ⟨hbr2S, hbr2F⟩
      refine wpMix_act (by kernel_rfl) (fun K hK => ?_)
      go_big_op
      refine (hLT _ _ _ (by first | exact hbr2F | exact hbr4F.below' hbr5 | exact hbr5F) (ht1.below hbr2S)).mono ?_
      rintro e wr3 ⟨rfl, hbr3⟩
      have hbr3S : Below (w1.heap.size) w1 wr3 := hbr2S.trans (hbr3.mono hbr2S.size)
      refine hK _ _ (regrown_of_below hbr3S) ?_
      clear hK K
      refine wpMix_pure (by kernel_rfl) (fun K hK => ?_)
      go_big_quiet_op
      refine hK _ ?_; clear hK K
      refine wpMix_pure (by kernel_rfl) (fun K hK => ?_)
      go_big_quiet_op
      refine hK _ ?_; clear hK K
      refine wpMix_nil ?_
      have hS := hbr3S
      have hB9 := hB1.trans (hS.mono hB1.size)
      go_wp2
      go_ret
      exact ⟨ret_str HX.out.symm, hB9⟩
    · skip
      refine wpMix_act (by kernel_rfl) (fun K hK => ?_)
      go_big_op
      refine hK _ _ (regrown_of_below (hS0.alloc hS0.size _)) ?_
      clear hK K
      refine mix_world (fun N => Below (w1.heap.size) w1 N ∧ Sl fInt.cod N (.slice (some ⟨w1.drew.heap.size, 0, none⟩) 3 3) [x.level, x.caught, x.buried] [w1.drew.heap.size]) ⟨hS0.alloc hS0.size _, Sl.lit2 (E := fInt) w1.drew [x.level, x.caught, x.buried] _ _ rfl hl2.out (by show 0 < 3; decide) (by show 3 ≤ _; decide)⟩ ?_
      rintro wr4 ⟨hbr4S, hbr4F⟩
      refine wpMix_act (by kernel_rfl) (fun K hK => ?_)
      go_big_op
      refine (hDT _ (ht1.below hbr4S)).mono ?_
      rintro e wr5 ⟨rfl, hbr5⟩
      have hbr5S : Below (w1.heap.size) w1 wr5 := hbr4S.trans (hbr5.mono hbr4S.size)
      refine hK _ _ (regrown_of_below hbr5S) ?_
      clear hK K
      refine wpMix_pure (by kernel_rfl) (fun K hK => ?_)
      go_big_quiet_op
      refine hK _ ?_; clear hK K
      refine wpMix_pure (by kernel_rfl) (fun K hK => ?_)
      go_big_quiet_op
      refine hK _ ?_; clear hK K
      refine wpMix_pure (by kernel_rfl) (fun K hK => ?_)
      go_big_quiet_op
      refine hK _ ?_; clear hK K
      refine wpMix_pure (by kernel_rfl) (fun K hK => ?_)
      go_big_quiet_op
      refine hK _ ?_; clear hK K
      refine wpMix_pure (by kernel_rfl) (fun K hK => ?_)
      go_big_quiet_op
      refine hK _ ?_; clear hK K
      refine wpMix_act (by kernel_rfl) (fun K hK => ?_)
      go_big_op
      refine (hLT _ _ _ (by first | exact hbr2F | exact hbr4F.below' hbr5 | exact hbr5F) (ht1.below hbr5S)).mono ?_
      rintro e wr6 ⟨rfl, hbr6⟩
      have hbr6S : Below (w1.heap.size) w1 wr6 := hbr5S.trans (hbr6.mono hbr5S.size)
      refine hK _ _ (regrown_of_below hbr6S) ?_
      clear hK K
      refine wpMix_pure (by kernel_rfl) (fun K hK => ?_)
      go_big_quiet_op
      refine hK _ ?_; clear hK K
      refine wpMix_pure (by kernel_rfl) (fun K hK => ?_)
      go_big_quiet_op
      refine hK _ ?_; clear hK K
      refine wpMix_nil ?_
      have hS := hbr6S
      have hB9 := hB1.trans (hS.mono hB1.size)
      go_wp2
      go_ret
      exact ⟨ret_str HX.out.symm, hB9⟩

set_option maxRecDepth 100000 in
set_option maxHeartbeats 8000000 in
theorem implReadIncident_any (s : ByteArray) (m : Int) (w : World) (hs : s.size ≤ 1048576) (hm : w.cell? ⟨0, 0, none⟩ = some (.int .i64 m)) (ht : RdTabs w) :
    Calls Tryd.prog 9 #[.string s] w fun e w' => IRet s e ∧ Below w.heap.size w w' := by
  have hsz := spl_sizeR 32 s
  have HLEN := Lib.hid (fun h => riF_len (s := s) h)
  have HDAY := Lib.hid (fun x a b z (h : splS 32 s = [x, a, b, z]) => riF_day h)
  have HONE := Lib.hid (fun x a b z (h : splS 32 s = [x, a, b, z]) => riF_one h)
  have HBAD := Lib.hid (fun x a b z p q r d (h : splS 32 s = [x, a, b, z]) => riF_bad (p := p) (q := q) (r := r) (d := d) h)
  have HYES := Lib.hid (fun x a b z p q r d (h : splS 32 s = [x, a, b, z]) => riF_yes (p := p) (q := q) (r := r) (d := d) h)
  have HW4 := Lib.hid (fun x a b z (h : splS 32 s = [x, a, b, z]) => words4 h)
  go_enter Tryd.func9, Tryd.ntmps9
  go_wp2_with fail
  refine (splitN_any s 32 m _ hs (cell_below ((Below.refl _ _).alloc (Nat.le_refl _) _) hm)).mono ?_
  rintro e w1 ⟨v1, rfl, hown, hb1⟩
  have hX1 : BoxI w1 w.heap.size := (BoxI.new w _).below hb1 (by simp)
  have hB1 : Below w.heap.size w w1 := ((Below.refl _ _).alloc (Nat.le_refl _) _).trans (hb1.mono (by simp))
  have hg1 : w.heap.size < w1.heap.size := by have := hb1.size; simp at this; omega
  have hok : ∀ x ∈ splS 32 s, fStr.ok x := fun x hx => by have := hsz x hx; show _ ≤ _; omega
  obtain ⟨fp1, hsl, _, _⟩ := Sl.of_own (n := (splS 32 s).length) rfl hown hok
  generalize splS 32 s = X at *
  clear hown hok hb1
  obtain ⟨A, cap, rfl, hle, hca⟩ := hsl.form
  by_cases h4 : X.length = 4
  · obtain ⟨x, a, b, z, rfl⟩ : ∃ x a b z, X = [x, a, b, z] := by
      match X, h4 with
      | [x, a, b, z], _ => exact ⟨x, a, b, z, rfl⟩
    have HDAY := Lib.hid (HDAY.out x a b z rfl)
    have HONE := Lib.hid (HONE.out x a b z rfl)
    have HBAD := Lib.hid (fun p q r d => HBAD.out x a b z p q r d rfl)
    have HYES := Lib.hid (fun p q r d => HYES.out x a b z p q r d rfl)
    have hcat := HW4.out x a b z rfl
    have HCAT := Lib.hid hcat
    clear hcat
    have hsx := hsz x (by simp)
    have hsa := hsz a (by simp)
    have hsb := hsz b (by simp)
    have hsz' := hsz z (by simp)
    obtain ⟨g, off, rfl, _, _, cx, _⟩ := hsl.cell1 rfl (k := 0) (by simp) rfl
    obtain ⟨g', off', hA', _, _, ca, _⟩ := hsl.cell1 rfl (k := 1) (by simp) rfl
    injection hA' with hA'; injection hA' with ha1 ha2 _; subst ha1 ha2
    obtain ⟨g', off', hA', _, _, cb, _⟩ := hsl.cell1 rfl (k := 2) (by simp) rfl
    injection hA' with hA'; injection hA' with ha1 ha2 _; subst ha1 ha2
    obtain ⟨g', off', hA', _, _, cz, _⟩ := hsl.cell1 rfl (k := 3) (by simp) rfl
    injection hA' with hA'; injection hA' with ha1 ha2 _; subst ha1 ha2
    have cx0 : w1.cell? ⟨g, off, none⟩ = some (.string x) := by simpa using cx
    have ca0 : w1.cell? ⟨g, off + 1, none⟩ = some (.string a) := ca
    have cb0 : w1.cell? ⟨g, off + 2, none⟩ = some (.string b) := cb
    have cz0 : w1.cell? ⟨g, off + 3, none⟩ = some (.string z) := cz
    have hgl := block_lt_of_cell cx0
    have e4 : (([x, a, b, z] : List ByteArray).length : Int) = 4 := rfl
    clear cx ca cb cz hsl hsz h4 HLEN HW4
    go_wp2_with fail
    refine (implReadDate_any x _ (by omega) (ht.below hB1).tab).mono ?_
    rintro e w2 ⟨rfl, hb2⟩
    have hB2 := hB1.trans (hb2.mono hB1.size)
    have hX2 := hX1.below hb2 hg1
    have ca2 := (hb2.cell (p := ⟨g, off + 1, none⟩) hgl).trans ca0
    have cb2 := (hb2.cell (p := ⟨g, off + 2, none⟩) hgl).trans cb0
    have cz2 := (hb2.cell (p := ⟨g, off + 3, none⟩) hgl).trans cz0
    have hg2 : w.heap.size < w2.heap.size := Nat.lt_of_lt_of_le hg1 hb2.size
    have hgl2 : g < w2.heap.size := Nat.lt_of_lt_of_le hgl hb2.size
    clear cx0 ca0 cb0 cz0 hX1 hb2
    have hDR : ∀ d, (rdF x).getD 0 = d → -9223372036854775808 ≤ d ∧ d ≤ 9223372036854775807 := fun d hd => by
      cases hr : rdF x with
      | none => rw [hr] at hd; have : d = 0 := hd.symm; omega
      | some d' =>
        rw [hr] at hd
        have e : d' = d := hd
        obtain ⟨_, _, _, h1, h2, _⟩ := rdF_is hr
        have := numD_bounds h1
        omega
    generalize hdd : (rdF x).getD 0 = d at *
    have HDD := Lib.hid hdd
    have hdr := hDR d rfl
    generalize hds : (rdF x).isSome = one at *
    have HDS := Lib.hid hds
    clear hdd hds hDR
    go_wp2_with fail
    refine (readNum3_any z m _ (by omega) (cell_below hB2 hm) (ht.below hB2)).mono ?_
    rintro e w3 ⟨v3, rfl, ⟨⟨fpy, hsy, _, _⟩, hb3⟩⟩
    have hB3 := hB2.trans (hb3.mono hB2.size)
    have hX3 := hX2.below hb3 hg2
    have hg3 : w.heap.size < w3.heap.size := Nat.lt_of_lt_of_le hg2 hb3.size
    have ca3 := (hb3.cell (p := ⟨g, off + 1, none⟩) hgl2).trans ca2
    have cb3 := (hb3.cell (p := ⟨g, off + 2, none⟩) hgl2).trans cb2
    clear ca2 cb2 cz2 hX2 hb3
    obtain ⟨p, q, r, hnum⟩ := num3_abcK z
    have HLT := Lib.hid (fun h => (numK_text (k := 3) (b := z) h).1)
    have hokn := numK_ok (k := 3) (b := z)
    rw [hnum] at hsy hokn HLT
    have HNUM := Lib.hid hnum
    clear hnum
    obtain ⟨A2, cap2, rfl, hle2, _⟩ := hsy.form
    obtain ⟨g2, o2, rfl, _, okp, n0, _⟩ := hsy.cell1 rfl (k := 0) (by simp) rfl
    obtain ⟨g2', o2', hA2, _, okq, n1, _⟩ := hsy.cell1 rfl (k := 1) (by simp) rfl
    injection hA2 with hA2; injection hA2 with ha1 ha2 _; subst ha1 ha2
    obtain ⟨g2', o2', hA2, _, okr, n2, _⟩ := hsy.cell1 rfl (k := 2) (by simp) rfl
    injection hA2 with hA2; injection hA2 with ha1 ha2 _; subst ha1 ha2
    have n00 : w3.cell? ⟨g2, o2, none⟩ = some (.int .i64 p) := by simpa using n0
    have n11 : w3.cell? ⟨g2, o2 + 1, none⟩ = some (.int .i64 q) := n1
    have n22 : w3.cell? ⟨g2, o2 + 2, none⟩ = some (.int .i64 r) := n2
    have e3 : (([p, q, r] : List Int).length : Int) = 3 := rfl
    have hoX : fIncident.ok ⟨d, a, b, p, q, r⟩ := ⟨hdr, by show a.size ≤ 9223372036854775807; omega, by show b.size ≤ 9223372036854775807; omega, okp, okq, okr⟩
    clear n0 n1 n2 hsy hokn
    generalize hon : oneK 3 z = two at *
    clear hon
    go_wp2
    have gca3 := cell_regrown ca3
    have gcb3 := cell_regrown cb3
    have gn00 := cell_regrown n00
    have gn11 := cell_regrown n11
    have gn22 := cell_regrown n22
    refine wp_region_mix (C := fun w' => ∃ p : Regrown, w' = Go.Sort.grow (redrawn w3 p.d) p.os) [true, true, true, true, true, true, true, true, true, true, true, true, true, true, true, true, true, false, false] (by kernel_rfl) (by kernel_rfl) (by kernel_rfl) (fun _ _ d _ _ h => by cases d <;> exact h) (regrown_of_below (Below.drew (Below.refl _ _))) ?_
    have hS0 : Below (w3.heap.size) w3 w3.drew := Below.drew (Below.refl _ _)
    refine wpMix_pure (by kernel_rfl) (fun K hK => ?_)
    go_big_quiet_op
    refine hK _ ?_; clear hK K
    refine wpMix_pure (by kernel_rfl) (fun K hK => ?_)
    go_big_quiet_op
    refine hK _ ?_; clear hK K
    refine wpMix_pure (by kernel_rfl) (fun K hK => ?_)
    go_big_quiet_op
    refine hK _ ?_; clear hK K
    refine wpMix_pure (by kernel_rfl) (fun K hK => ?_)
    go_big_quiet_op
    refine hK _ ?_; clear hK K
    refine wpMix_pure (by kernel_rfl) (fun K hK => ?_)
    go_big_quiet_op
    refine hK _ ?_; clear hK K
    refine wpMix_pure (by kernel_rfl) (fun K hK => ?_)
    go_big_quiet_op
    refine hK _ ?_; clear hK K
    refine wpMix_pure (by kernel_rfl) (fun K hK => ?_)
    go_big_quiet_op
    refine hK _ ?_; clear hK K
    refine wpMix_pure (by kernel_rfl) (fun K hK => ?_)
    go_big_quiet_op
    refine hK _ ?_; clear hK K
    refine wpMix_pure (by kernel_rfl) (fun K hK => ?_)
    go_big_quiet_op
    refine hK _ ?_; clear hK K
    refine wpMix_pure (by kernel_rfl) (fun K hK => ?_)
    go_big_quiet_op
    refine hK _ ?_; clear hK K
    refine wpMix_pure (by kernel_rfl) (fun K hK => ?_)
    go_big_quiet_op
    refine hK _ ?_; clear hK K
    refine wpMix_pure (by kernel_rfl) (fun K hK => ?_)
    go_big_quiet_op
    refine hK _ ?_; clear hK K
    refine wpMix_pure (by kernel_rfl) (fun K hK => ?_)
    go_big_quiet_op
    refine hK _ ?_; clear hK K
    refine wpMix_pure (by kernel_rfl) (fun K hK => ?_)
    go_big_quiet_op
    refine hK _ ?_; clear hK K
    refine wpMix_pure (by kernel_rfl) (fun K hK => ?_)
    go_big_quiet_op
    refine hK _ ?_; clear hK K
    refine wpMix_pure (by kernel_rfl) (fun K hK => ?_)
    go_big_quiet_op
    refine hK _ ?_; clear hK K
    refine wpMix_pure (by kernel_rfl) (fun K hK => ?_)
    go_big_quiet_op
    refine hK _ ?_; clear hK K
    refine wpMix_act (by kernel_rfl) (fun K hK => ?_)
    go_big_op
    refine hK _ _ (regrown_of_below (by first | exact hS0.alloc hS0.size _ | exact Below.drew ((Below.refl _ _).alloc (Nat.le_refl _) _) | exact (Below.drew (Below.refl _ _)).alloc (Nat.le_refl _) _)) ?_
    clear hK K
    refine wpMix_act (by kernel_rfl) (fun K hK => ?_)
    go_big_op
    refine hK _ _ (regrown_of_below (by first | exact hS0.alloc hS0.size _ | exact Below.drew ((Below.refl _ _).alloc (Nat.le_refl _) _) | exact (Below.drew (Below.refl _ _)).alloc (Nat.le_refl _) _)) ?_
    clear hK K
    refine wpMix_nil ?_
    have hBx : Below w3.heap.size w3 (w3.alloc (.cells #[.int .i64 d, .string a, .string b, .int .i64 p, .int .i64 q, .int .i64 r] 29)).drew := Below.drew ((Below.refl _ _).alloc (Nat.le_refl _) _)
    have hBV := hB3.trans (hBx.mono hB3.size)
    have hXV := hX3.below hBx hg3
    have hpx : PIncident (w3.alloc (.cells #[.int .i64 d, .string a, .string b, .int .i64 p, .int .i64 q, .int .i64 r] 29)).drew w3.heap.size 0 ⟨d, a, b, p, q, r⟩ := (PIncident.box w3 ⟨d, a, b, p, q, r⟩ _).below' (Below.drew (Below.refl _ _))
    have hgV : w3.heap.size < (w3.alloc (.cells #[.int .i64 d, .string a, .string b, .int .i64 p, .int .i64 q, .int .i64 r] 29)).drew.heap.size := by
      show _ < (w3.alloc _).heap.size
      simp
    clear hX3 n00 n11 n22 ca3 cb3 hBx gn00 gn11 gn22 gca3 gcb3 hS0
    generalize (w3.alloc (.cells #[.int .i64 d, .string a, .string b, .int .i64 p, .int .i64 q, .int .i64 r] 29)).drew = V at *
    generalize hwq : w3.heap.size = wq at *
    obtain ⟨d0, d1, d2, d3, d4, d5, z0, z1, z2, z3, z4, z5⟩ := id hXV
    obtain ⟨x0, x1, x2, x3, x4, x5⟩ := id hpx
    cases one
    · have HN : Hid (riF s = none) := by
        refine Lib.hid (HDAY.out ?_)
        have h2 := HDS.out
        cases hr : rdF x with
        | none => rfl
        | some _ => rw [hr] at h2; cases h2
      go_wp2
      exact bodyPost_ret (v := .tuple #[iAg n00, .bool false]) (by simp [iAg, n00, results, hit_cellV, d0, d1, d2, d3, d4, d5, Tryd.results9, go_sem]) rfl ⟨IRet.no HN.out, by (repeat (refine Below.setCell ?_ (by first | exact Nat.le_refl _ | (show _ ≤ _; omega)) _)); assumption⟩
    · cases two
      · have HN := Lib.hid (HONE.out rfl)
        go_wp2
        exact bodyPost_ret (v := .tuple #[iAg n00, .bool false]) (by simp [iAg, n00, results, hit_cellV, d0, d1, d2, d3, d4, d5, Tryd.results9, go_sem]) rfl ⟨IRet.no HN.out, by (repeat (refine Below.setCell ?_ (by first | exact Nat.le_refl _ | (show _ ≤ _; omega)) _)); assumption⟩
      · have hd1 : rdF x = some d := by
          have h2 := HDS.out
          have h3 := HDD.out
          cases hr : rdF x with
          | none => rw [hr] at h2; cases h2
          | some d' => rw [hr] at h3; rw [show d' = d from h3]
        obtain ⟨dy, dm, dd, hdok, hdn, hds⟩ := rdF_is hd1
        have hlt := HLT.out rfl
        have htx : itF ⟨d, a, b, p, q, r⟩ (dayS dy dm dd) = if incB ⟨d, a, b, p, q, r⟩ then s else ⟨#[]⟩ := by
          unfold itF
          rw [show listT [(⟨d, a, b, p, q, r⟩ : DIncident).level, (⟨d, a, b, p, q, r⟩ : DIncident).caught, (⟨d, a, b, p, q, r⟩ : DIncident).buried] = z from hlt, show dayS dy dm dd = x from hds.symm, show x ++ ⟨#[32]⟩ ++ (⟨d, a, b, p, q, r⟩ : DIncident).place ++ ⟨#[32]⟩ ++ (⟨d, a, b, p, q, r⟩ : DIncident).cause ++ ⟨#[32]⟩ ++ z = s from HCAT.out]
        have hne : s ≠ ⟨#[]⟩ := fun e => by
          have := congrArg ByteArray.size (HCAT.out.trans e)
          rw [ByteArray.size_append, ByteArray.size_append] at this
          exact absurd this (by show ¬ (_ + 1 + z.size = 0); omega)
        have HNO := Lib.hid (HBAD.out p q r d HNUM.out hd1)
        have HYE := Lib.hid (HYES.out p q r d rfl HNUM.out hd1)
        have HTX := Lib.hid htx
        have HDN := Lib.hid hdn
        have htV := (ht.below hBV).tab
        clear htx hlt hds hd1 hdn
        go_wp2_with fail
        refine (IncidentText_any ⟨d, a, b, p, q, r⟩ dy dm dd _ hdok HDN.out hoX htV).mono ?_
        rintro e U ⟨rfl, hbU⟩
        have hBU := hBV.trans (hbU.mono hBV.size)
        have hXU := hXV.below hbU (by omega)
        have hpU := hpx.below' hbU
        clear hXV hpx x0 x1 x2 x3 x4 x5 d0 d1 d2 d3 d4 d5 z0 z1 z2 z3 z4 z5
        obtain ⟨d0, d1, d2, d3, d4, d5, z0, z1, z2, z3, z4, z5⟩ := hXU
        obtain ⟨x0, x1, x2, x3, x4, x5⟩ := hpU
        cases hgb : incB ⟨d, a, b, p, q, r⟩
        · have HN := Lib.hid (HNO.out hgb)
          have e9 : s.toList.isEmpty = false := by
            rw [ByteArray.toList_eq, ← Bool.not_eq_true, List.isEmpty_iff]
            exact fun e => hne (data_inj (by rw [e]))
          rw [show itF ⟨d, a, b, p, q, r⟩ (dayS dy dm dd) = ⟨#[]⟩ from by rw [HTX.out, hgb]; rfl]
          clear hgb
          go_wp2
          exact bodyPost_ret (v := .tuple #[iAg n00, .bool false]) (by simp [iAg, n00, results, hit_cellV, d0, d1, d2, d3, d4, d5, Tryd.results9, go_sem]) rfl ⟨IRet.no HN.out, by (repeat (refine Below.setCell ?_ (by first | exact Nat.le_refl _ | (show _ ≤ _; omega)) _)); assumption⟩
        · have HY := Lib.hid (HYE.out hgb)
          have e9 : (s.toList == s.toList) = true := beq_self_eq_true _
          have e10 : (s.toList != s.toList) = false := by unfold bne; rw [e9]; rfl
          rw [show itF ⟨d, a, b, p, q, r⟩ (dayS dy dm dd) = s from by rw [HTX.out, hgb]; rfl]
          clear hgb
          go_wp2
          exact bodyPost_ret (v := .tuple #[iAg ⟨d, a, b, p, q, r⟩, .bool true]) (by simp [iAg, n00, results, hit_cellV, d0, d1, d2, d3, d4, d5, Tryd.results9, go_sem]) rfl ⟨IRet.yes HY.out, by (repeat (refine Below.setCell ?_ (by first | exact Nat.le_refl _ | (show _ ≤ _; omega)) _)); assumption⟩
  · have HN := Lib.hid (HLEN.out h4)
    obtain ⟨d0, d1, d2, d3, d4, d5, z0, z1, z2, z3, z4, z5⟩ := hX1
    have e5 : ((X.length : Int) == 4) = false := by rw [beq_eq_false_iff_ne]; omega
    have e6 : ((X.length : Int) != 4) = true := by unfold bne; rw [e5]; rfl
    clear hsl h4
    go_wp2
    exact bodyPost_ret (v := .tuple #[iAg n00, .bool false]) (by simp [iAg, n00, results, hit_cellV, d0, d1, d2, d3, d4, d5, Tryd.results9, go_sem]) rfl ⟨IRet.no HN.out, by (repeat (refine Below.setCell ?_ (by first | exact Nat.le_refl _ | (show _ ≤ _; omega)) _)); assumption⟩

end Go.Proofs.YtaaholabodchaaaDoor
