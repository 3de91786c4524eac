/- Parts of the proof: Vk, Cq, Ig, BsObserved, InObserved, Fk, AdObserved. -/
import Derived.Test.YtfgmikgghpflbaaGreatDoorG03
import Derived.Test.YtfgmikgghpflbaaGreatDoorG01
import Derived.Lib.AppendZerosOnto
import Derived.Lib.Overlaps
import Derived.Laws.Externs
import Derived.Deep.RegionHeld
namespace Go.Proofs.YtfgmikgghpflbaaGreatDoor
open Go.RowKit
set_option linter.unusedVariables false

def obs0 : DObserved := ⟨0, 0, 0, 0⟩
def obsBef (a b : DObserved) : Bool := decide (a.hour < b.hour)

def obsOk (xs : List DObserved) (i : Nat) : Bool := obsB (xs.getD i obs0) && (decide (i = 0) || obsBef (xs.getD (i - 1) obs0) (xs.getD i obs0))
def obssB (xs : List DObserved) : Bool := allIdx (obsOk xs) xs.length && decide (xs.length ≤ 48)
theorem obsOk_zero {xs : List DObserved} (h : 0 < xs.length) : obsOk xs 0 = obsB xs[0] := by simp [obsOk, h]
theorem obsOk_succ {xs : List DObserved} {m : Nat} (h : m + 1 < xs.length) : obsOk xs (m + 1) = (obsB xs[m + 1] && obsBef xs[m] xs[m + 1]) := by
  have h1 : m < xs.length := by omega
  simp [obsOk, h, h1]
theorem obssB_bad {xs : List DObserved} {k : Nat} (h : k < xs.length) (h1 : obsOk xs k = false) : obssB xs = false := by
  unfold obssB; rw [allIdx_bad h h1]; rfl
theorem obssB_len {xs : List DObserved} (h : obssB xs = true) : xs.length ≤ 48 := by
  unfold obssB at h; simp at h; exact h.2
theorem obssB_one {xs : List DObserved} (h : obssB xs = true) {k : Nat} (hk : k < xs.length) : obsB xs[k] = true := by
  unfold obssB at h
  rw [Bool.and_eq_true] at h
  have := allIdx_true.1 h.1 k hk
  unfold obsOk at this
  rw [Bool.and_eq_true] at this
  simpa [hk] using this.1
theorem obssB_two {xs : List DObserved} (h : obssB xs = true) {m : Nat} (hm : m + 1 < xs.length) : obsBef xs[m] xs[m + 1] = true := by
  unfold obssB at h
  rw [Bool.and_eq_true] at h
  have := allIdx_true.1 h.1 (m + 1) hm
  rw [obsOk_succ hm, Bool.and_eq_true] at this
  exact this.2
set_option maxRecDepth 100000 in
set_option maxHeartbeats 4000000 in
theorem l04Ok_any (v : Value) (xs : List DObserved) (fp : List Nat) (w : World) (hx : Sl fObserved.cod w v xs fp) :
    Calls Tryz.prog 125 #[v] w fun e w' => e = .returned (.bool (obssB xs)) ∧ Below w.heap.size w w' := by
  obtain ⟨A, cap, rfl, hlen, hcap⟩ := hx.form
  go_enter Tryz.func125, Tryz.ntmps125
  go_wp2
  go_loopw [3] (fun i wr => ∃ k : Nat, k ≤ xs.length ∧ i = .int .i64 k ∧ Hid (allIdx (obsOk xs) k = true) ∧ Below w.heap.size w wr) (fun i _ => xs.length - (intOf i).toNat)
  case atStart => exact ⟨0, Nat.zero_le _, rfl, rfl, Below.refl _ _⟩
  case round =>
    obtain ⟨k, hk, rfl, H0, hb⟩ := hrel
    by_cases hlt : k < xs.length
    · rcases Nat.eq_zero_or_pos k with rfl | hpos
      · obtain ⟨b, off, rfl, _, hok, hp⟩ := PObserved.elem (hx.below' hb) hlt
        have c0 := hp.c0
        have hplt := hp.lt
        go_wp2
        have gc0 := cell_regrown c0
        refine wp_region_mix (C := fun w' => ∃ p : Regrown, w' = Go.Sort.grow (redrawn wr p.d) p.os) [true, true, true, false, true, true, true, true, true, true, true, true, true, true, true, true, true, true, true, true, true, true, true] (by kernel_rfl) (by kernel_rfl) (by kernel_rfl) (fun _ _ d _ _ h => by cases d <;> exact h) (regrown_of_below (Below.drew (Below.refl _ _))) ?_
        have hS0 : Below (wr.heap.size) wr wr.drew := Below.drew (Below.refl _ _)
        refine wpMix_pure (by kernel_rfl) (fun K hK => ?_); go_big_quiet_op; refine hK _ ?_; clear hK K
        refine wpMix_pure (by kernel_rfl) (fun K hK => ?_); go_big_quiet_op; refine hK _ ?_; clear hK K
        refine wpMix_pure (by kernel_rfl) (fun K hK => ?_); go_big_quiet_op; refine hK _ ?_; clear hK K
        refine wpMix_act (by kernel_rfl) (fun K hK => ?_)
        go_big_op
        refine (l04One_any _ _ _ _ (hp.below hS0 hplt) hok).mono ?_
        rintro e wr1 ⟨rfl, hbr1⟩
        have hbr1S : Below (wr.heap.size) wr wr1 := hS0.trans (hbr1.mono hS0.size)
        refine hK _ _ (regrown_of_below hbr1S) ?_
        clear hK K
        cases hq3 : obsB xs[0]
        · skip
          refine wpMix_pure (by kernel_rfl) (fun K hK => ?_); go_big_quiet_op; refine hK _ ?_; clear hK K
          refine wpMix_pure (by kernel_rfl) (fun K hK => ?_); go_big_quiet_op; refine hK _ ?_; clear hK K
          refine wpMix_skip (by kernel_rfl) (fun K hK => ?_)
          simp only [Act.put, List.setIfInBounds_toArray, List.set_cons_zero, List.set_cons_succ]
          refine hK _ ?_; clear hK K
          refine wpMix_skip (by kernel_rfl) (fun K hK => ?_)
          simp only [Act.put, List.setIfInBounds_toArray, List.set_cons_zero, List.set_cons_succ]
          refine hK _ ?_; clear hK K
          refine wpMix_skip (by kernel_rfl) (fun K hK => ?_)
          simp only [Act.put, List.setIfInBounds_toArray, List.set_cons_zero, List.set_cons_succ]
          refine hK _ ?_; clear hK K
          refine wpMix_skip (by kernel_rfl) (fun K hK => ?_)
          simp only [Act.put, List.setIfInBounds_toArray, List.set_cons_zero, List.set_cons_succ]
          refine hK _ ?_; clear hK K
          refine wpMix_skip (by kernel_rfl) (fun K hK => ?_)
          simp only [Act.put, List.setIfInBounds_toArray, List.set_cons_zero, List.set_cons_succ]
          refine hK _ ?_; clear hK K
          refine wpMix_skip (by kernel_rfl) (fun K hK => ?_)
          simp only [Act.put, List.setIfInBounds_toArray, List.set_cons_zero, List.set_cons_succ]
          refine hK _ ?_; clear hK K
          refine wpMix_skip (by kernel_rfl) (fun K hK => ?_)
          simp only [Act.put, List.setIfInBounds_toArray, List.set_cons_zero, List.set_cons_succ]
          refine hK _ ?_; clear hK K
          refine wpMix_skip (by kernel_rfl) (fun K hK => ?_)
          simp only [Act.put, List.setIfInBounds_toArray, List.set_cons_zero, List.set_cons_succ]
          refine hK _ ?_; clear hK K
          refine wpMix_skip (by kernel_rfl) (fun K hK => ?_)
          simp only [Act.put, List.setIfInBounds_toArray, List.set_cons_zero, List.set_cons_succ]
          refine hK _ ?_; clear hK K
          refine wpMix_skip (by kernel_rfl) (fun K hK => ?_)
          simp only [Act.put, List.setIfInBounds_toArray, List.set_cons_zero, List.set_cons_succ]
          refine hK _ ?_; clear hK K
          refine wpMix_skip (by kernel_rfl) (fun K hK => ?_)
          simp only [Act.put, List.setIfInBounds_toArray, List.set_cons_zero, List.set_cons_succ]
          refine hK _ ?_; clear hK K
          refine wpMix_skip (by kernel_rfl) (fun K hK => ?_)
          simp only [Act.put, List.setIfInBounds_toArray, List.set_cons_zero, List.set_cons_succ]
          refine hK _ ?_; clear hK K
          refine wpMix_skip (by kernel_rfl) (fun K hK => ?_)
          simp only [Act.put, List.setIfInBounds_toArray, List.set_cons_zero, List.set_cons_succ]
          refine hK _ ?_; clear hK K
          refine wpMix_skip (by kernel_rfl) (fun K hK => ?_)
          simp only [Act.put, List.setIfInBounds_toArray, List.set_cons_zero, List.set_cons_succ]
          refine hK _ ?_; clear hK K
          refine wpMix_skip (by kernel_rfl) (fun K hK => ?_)
          simp only [Act.put, List.setIfInBounds_toArray, List.set_cons_zero, List.set_cons_succ]
          refine hK _ ?_; clear hK K
          refine wpMix_skip (by kernel_rfl) (fun K hK => ?_)
          simp only [Act.put, List.setIfInBounds_toArray, List.set_cons_zero, List.set_cons_succ]
          refine hK _ ?_; clear hK K
          refine wpMix_pure (by kernel_rfl) (fun K hK => ?_); go_big_quiet_op; refine hK _ ?_; clear hK K
          refine wpMix_nil ?_
          go_wp2
          go_ret
          exact ⟨ret_bool (by rw [obssB_bad hlt (by rw [obsOk_zero hlt]; simp [*])]), hb.trans (hbr1S.mono hb.size)⟩
        · skip
          refine wpMix_pure (by kernel_rfl) (fun K hK => ?_); go_big_quiet_op; refine hK _ ?_; clear hK K
          refine wpMix_pure (by kernel_rfl) (fun K hK => ?_); go_big_quiet_op; refine hK _ ?_; clear hK K
          refine wpMix_pure (by kernel_rfl) (fun K hK => ?_); go_big_quiet_op; refine hK _ ?_; clear hK K
          refine wpMix_pure (by kernel_rfl) (fun K hK => ?_); go_big_quiet_op; refine hK _ ?_; clear hK K
          refine wpMix_pure (by kernel_rfl) (fun K hK => ?_); go_big_quiet_op; refine hK _ ?_; clear hK K
          refine wpMix_skip (by kernel_rfl) (fun K hK => ?_)
          simp only [Act.put, List.setIfInBounds_toArray, List.set_cons_zero, List.set_cons_succ]
          refine hK _ ?_; clear hK K
          refine wpMix_skip (by kernel_rfl) (fun K hK => ?_)
          simp only [Act.put, List.setIfInBounds_toArray, List.set_cons_zero, List.set_cons_succ]
          refine hK _ ?_; clear hK K
          refine wpMix_skip (by kernel_rfl) (fun K hK => ?_)
          simp only [Act.put, List.setIfInBounds_toArray, List.set_cons_zero, List.set_cons_succ]
          refine hK _ ?_; clear hK K
          refine wpMix_skip (by kernel_rfl) (fun K hK => ?_)
          simp only [Act.put, List.setIfInBounds_toArray, List.set_cons_zero, List.set_cons_succ]
          refine hK _ ?_; clear hK K
          refine wpMix_skip (by kernel_rfl) (fun K hK => ?_)
          simp only [Act.put, List.setIfInBounds_toArray, List.set_cons_zero, List.set_cons_succ]
          refine hK _ ?_; clear hK K
          refine wpMix_skip (by kernel_rfl) (fun K hK => ?_)
          simp only [Act.put, List.setIfInBounds_toArray, List.set_cons_zero, List.set_cons_succ]
          refine hK _ ?_; clear hK K
          refine wpMix_skip (by kernel_rfl) (fun K hK => ?_)
          simp only [Act.put, List.setIfInBounds_toArray, List.set_cons_zero, List.set_cons_succ]
          refine hK _ ?_; clear hK K
          refine wpMix_skip (by kernel_rfl) (fun K hK => ?_)
          simp only [Act.put, List.setIfInBounds_toArray, List.set_cons_zero, List.set_cons_succ]
          refine hK _ ?_; clear hK K
          refine wpMix_skip (by kernel_rfl) (fun K hK => ?_)
          simp only [Act.put, List.setIfInBounds_toArray, List.set_cons_zero, List.set_cons_succ]
          refine hK _ ?_; clear hK K
          refine wpMix_skip (by kernel_rfl) (fun K hK => ?_)
          simp only [Act.put, List.setIfInBounds_toArray, List.set_cons_zero, List.set_cons_succ]
          refine hK _ ?_; clear hK K
          refine wpMix_skip (by kernel_rfl) (fun K hK => ?_)
          simp only [Act.put, List.setIfInBounds_toArray, List.set_cons_zero, List.set_cons_succ]
          refine hK _ ?_; clear hK K
          refine wpMix_skip (by kernel_rfl) (fun K hK => ?_)
          simp only [Act.put, List.setIfInBounds_toArray, List.set_cons_zero, List.set_cons_succ]
          refine hK _ ?_; clear hK K
          refine wpMix_pure (by kernel_rfl) (fun K hK => ?_); go_big_quiet_op; refine hK _ ?_; clear hK K
          refine wpMix_pure (by kernel_rfl) (fun K hK => ?_); go_big_quiet_op; refine hK _ ?_; clear hK K
          refine wpMix_nil ?_
          go_wp2
          go_roundw
          case rel => exact ⟨0 + 1, by omega, by go_num, allIdx_step H0.out (by rw [obsOk_zero hlt]; simp [*]), hb.trans (hbr1S.mono hb.size)⟩
          case measure => simp [intOf]; omega
      · obtain ⟨m, rfl⟩ : ∃ m, k = m + 1 := ⟨k - 1, by omega⟩
        have hm : m < xs.length := by omega
        obtain ⟨b, off, rfl, _, hok, hp⟩ := PObserved.elem (hx.below' hb) hlt
        have c0 := hp.c0
        have hplt := hp.lt
        obtain ⟨b1, off1, hA1, _, hokm, hpm⟩ := PObserved.elem (hx.below' hb) hm
        injection hA1 with hA1
        injection hA1 with hA1 hA2 _
        subst hA1 hA2
        have d0 := hpm.c0
        clear hpm
        go_wp2
        have gc0 := cell_regrown c0
        have gd0 := cell_regrown d0
        refine wp_region_mix (C := fun w' => ∃ p : Regrown, w' = Go.Sort.grow (redrawn wr p.d) p.os) [true, true, true, false, true, true, true, true, true, true, true, true, true, true, true, true, true, true, true, true, true, true, true] (by kernel_rfl) (by kernel_rfl) (by kernel_rfl) (fun _ _ d _ _ h => by cases d <;> exact h) (regrown_of_below (Below.drew (Below.refl _ _))) ?_
        have hS0 : Below (wr.heap.size) wr wr.drew := Below.drew (Below.refl _ _)
        refine wpMix_pure (by kernel_rfl) (fun K hK => ?_); go_big_quiet_op; refine hK _ ?_; clear hK K
        refine wpMix_pure (by kernel_rfl) (fun K hK => ?_); go_big_quiet_op; refine hK _ ?_; clear hK K
        refine wpMix_pure (by kernel_rfl) (fun K hK => ?_); go_big_quiet_op; refine hK _ ?_; clear hK K
        refine wpMix_act (by kernel_rfl) (fun K hK => ?_)
        go_big_op
        refine (l04One_any _ _ _ _ (hp.below hS0 hplt) hok).mono ?_
        rintro e wr1 ⟨rfl, hbr1⟩
        have hbr1S : Below (wr.heap.size) wr wr1 := hS0.trans (hbr1.mono hS0.size)
        refine hK _ _ (regrown_of_below hbr1S) ?_
        clear hK K
        cases hq3 : obsB xs[m + 1]
        · skip
          refine wpMix_pure (by kernel_rfl) (fun K hK => ?_); go_big_quiet_op; refine hK _ ?_; clear hK K
          refine wpMix_pure (by kernel_rfl) (fun K hK => ?_); go_big_quiet_op; refine hK _ ?_; clear hK K
          refine wpMix_skip (by kernel_rfl) (fun K hK => ?_)
          simp only [Act.put, List.setIfInBounds_toArray, List.set_cons_zero, List.set_cons_succ]
          refine hK _ ?_; clear hK K
          refine wpMix_skip (by kernel_rfl) (fun K hK => ?_)
          simp only [Act.put, List.setIfInBounds_toArray, List.set_cons_zero, List.set_cons_succ]
          refine hK _ ?_; clear hK K
          refine wpMix_skip (by kernel_rfl) (fun K hK => ?_)
          simp only [Act.put, List.setIfInBounds_toArray, List.set_cons_zero, List.set_cons_succ]
          refine hK _ ?_; clear hK K
          refine wpMix_skip (by kernel_rfl) (fun K hK => ?_)
          simp only [Act.put, List.setIfInBounds_toArray, List.set_cons_zero, List.set_cons_succ]
          refine hK _ ?_; clear hK K
          refine wpMix_skip (by kernel_rfl) (fun K hK => ?_)
          simp only [Act.put, List.setIfInBounds_toArray, List.set_cons_zero, List.set_cons_succ]
          refine hK _ ?_; clear hK K
          refine wpMix_skip (by kernel_rfl) (fun K hK => ?_)
          simp only [Act.put, List.setIfInBounds_toArray, List.set_cons_zero, List.set_cons_succ]
          refine hK _ ?_; clear hK K
          refine wpMix_skip (by kernel_rfl) (fun K hK => ?_)
          simp only [Act.put, List.setIfInBounds_toArray, List.set_cons_zero, List.set_cons_succ]
          refine hK _ ?_; clear hK K
          refine wpMix_skip (by kernel_rfl) (fun K hK => ?_)
          simp only [Act.put, List.setIfInBounds_toArray, List.set_cons_zero, List.set_cons_succ]
          refine hK _ ?_; clear hK K
          refine wpMix_skip (by kernel_rfl) (fun K hK => ?_)
          simp only [Act.put, List.setIfInBounds_toArray, List.set_cons_zero, List.set_cons_succ]
          refine hK _ ?_; clear hK K
          refine wpMix_skip (by kernel_rfl) (fun K hK => ?_)
          simp only [Act.put, List.setIfInBounds_toArray, List.set_cons_zero, List.set_cons_succ]
          refine hK _ ?_; clear hK K
          refine wpMix_skip (by kernel_rfl) (fun K hK => ?_)
          simp only [Act.put, List.setIfInBounds_toArray, List.set_cons_zero, List.set_cons_succ]
          refine hK _ ?_; clear hK K
          refine wpMix_skip (by kernel_rfl) (fun K hK => ?_)
          simp only [Act.put, List.setIfInBounds_toArray, List.set_cons_zero, List.set_cons_succ]
          refine hK _ ?_; clear hK K
          refine wpMix_skip (by kernel_rfl) (fun K hK => ?_)
          simp only [Act.put, List.setIfInBounds_toArray, List.set_cons_zero, List.set_cons_succ]
          refine hK _ ?_; clear hK K
          refine wpMix_skip (by kernel_rfl) (fun K hK => ?_)
          simp only [Act.put, List.setIfInBounds_toArray, List.set_cons_zero, List.set_cons_succ]
          refine hK _ ?_; clear hK K
          refine wpMix_skip (by kernel_rfl) (fun K hK => ?_)
          simp only [Act.put, List.setIfInBounds_toArray, List.set_cons_zero, List.set_cons_succ]
          refine hK _ ?_; clear hK K
          refine wpMix_skip (by kernel_rfl) (fun K hK => ?_)
          simp only [Act.put, List.setIfInBounds_toArray, List.set_cons_zero, List.set_cons_succ]
          refine hK _ ?_; clear hK K
          refine wpMix_pure (by kernel_rfl) (fun K hK => ?_); go_big_quiet_op; refine hK _ ?_; clear hK K
          refine wpMix_nil ?_
          go_wp2
          go_ret
          exact ⟨ret_bool (by rw [obssB_bad hlt (by rw [obsOk_succ hlt]; simp [*])]), hb.trans (hbr1S.mono hb.size)⟩
        · skip
          refine wpMix_pure (by kernel_rfl) (fun K hK => ?_); go_big_quiet_op; refine hK _ ?_; clear hK K
          refine wpMix_pure (by kernel_rfl) (fun K hK => ?_); go_big_quiet_op; refine hK _ ?_; clear hK K
          refine wpMix_pure (by kernel_rfl) (fun K hK => ?_); go_big_quiet_op; refine hK _ ?_; clear hK K
          refine wpMix_pure (by kernel_rfl) (fun K hK => ?_); go_big_quiet_op; refine hK _ ?_; clear hK K
          refine wpMix_pure (by kernel_rfl) (fun K hK => ?_); go_big_quiet_op; refine hK _ ?_; clear hK K
          refine wpMix_pure (by kernel_rfl) (fun K hK => ?_); go_big_quiet_op; refine hK _ ?_; clear hK K
          refine wpMix_pure (by kernel_rfl) (fun K hK => ?_); go_big_quiet_op; refine hK _ ?_; clear hK K
          refine wpMix_pure (by kernel_rfl) (fun K hK => ?_); go_big_quiet_op; refine hK _ ?_; clear hK K
          refine wpMix_pure (by kernel_rfl) (fun K hK => ?_); go_big_quiet_op; refine hK _ ?_; clear hK K
          refine wpMix_pure (by kernel_rfl) (fun K hK => ?_); go_big_quiet_op; refine hK _ ?_; clear hK K
          refine wpMix_pure (by kernel_rfl) (fun K hK => ?_); go_big_quiet_op; refine hK _ ?_; clear hK K
          refine wpMix_pure (by kernel_rfl) (fun K hK => ?_); go_big_quiet_op; refine hK _ ?_; clear hK K
          refine wpMix_pure (by kernel_rfl) (fun K hK => ?_); go_big_quiet_op; refine hK _ ?_; clear hK K
          refine wpMix_pure (by kernel_rfl) (fun K hK => ?_); go_big_quiet_op; refine hK _ ?_; clear hK K
          refine wpMix_pure (by kernel_rfl) (fun K hK => ?_); go_big_quiet_op; refine hK _ ?_; clear hK K
          refine wpMix_pure (by kernel_rfl) (fun K hK => ?_); go_big_quiet_op; refine hK _ ?_; clear hK K
          by_cases hq20 : obsBef xs[m] xs[m + 1] = true
          · skip
            have h20 := hq20
            unfold obsBef at h20
            have e20 : decide (xs[m + 1].hour ≤ xs[m].hour) = false := by simp at h20 ⊢; omega
            clear h20
            refine wpMix_pure (by kernel_rfl) (fun K hK => ?_); go_big_quiet_op; refine hK _ ?_; clear hK K
            refine wpMix_pure (by kernel_rfl) (fun K hK => ?_); go_big_quiet_op; refine hK _ ?_; clear hK K
            refine wpMix_pure (by kernel_rfl) (fun K hK => ?_); go_big_quiet_op; refine hK _ ?_; clear hK K
            refine wpMix_nil ?_
            go_wp2
            go_roundw
            case rel => exact ⟨m + 1 + 1, by omega, by go_num, allIdx_step H0.out (by rw [obsOk_succ hlt]; simp [*]), hb.trans (hbr1S.mono hb.size)⟩
            case measure => simp [intOf]; omega
          · skip
            have h20 := hq20
            unfold obsBef at h20
            have e20 : decide (xs[m + 1].hour ≤ xs[m].hour) = true := by simp at h20 ⊢; omega
            clear h20
            refine wpMix_pure (by kernel_rfl) (fun K hK => ?_); go_big_quiet_op; refine hK _ ?_; clear hK K
            refine wpMix_pure (by kernel_rfl) (fun K hK => ?_); go_big_quiet_op; refine hK _ ?_; clear hK K
            refine wpMix_pure (by kernel_rfl) (fun K hK => ?_); go_big_quiet_op; refine hK _ ?_; clear hK K
            refine wpMix_nil ?_
            go_wp2
            go_ret
            exact ⟨ret_bool (by rw [obssB_bad hlt (by rw [obsOk_succ hlt]; simp [*])]), hb.trans (hbr1S.mono hb.size)⟩
    · have HF := Lib.hid (allIdx_full (by omega) hk H0.out)
      by_cases hle : xs.length ≤ 48
      all_goals
        go_wp2
        go_ret
        exact ⟨ret_bool (by unfold obssB; rw [HF.out]; simp [hle] <;> omega), hb⟩
set_option maxRecDepth 100000 in
set_option maxHeartbeats 4000000 in
theorem ValidObserved_any (v : Value) (xs : List DObserved) (fp : List Nat) (w : World) (hx : Sl fObserved.cod w v xs fp) :
    Calls Tryz.prog 116 #[v] w fun e w' => e = .returned (.bool (obssB xs)) ∧ Below w.heap.size w w' := by
  obtain ⟨A, cap, rfl, hlen, hcap⟩ := hx.form
  by_cases hle : xs.length ≤ 48
  · go_enter Tryz.func116, Tryz.ntmps116
    go_wp2
    go_loopw [10] (fun i wr => ∃ k : Nat, k ≤ xs.length ∧ i = .int .i64 k ∧ Hid (allIdx (obsOk xs) k = true) ∧ Below w.heap.size w wr) (fun i _ => xs.length - (intOf i).toNat)
    case atStart => exact ⟨0, Nat.zero_le _, rfl, rfl, Below.refl _ _⟩
    case round =>
      obtain ⟨k, hk, rfl, H0, hb⟩ := hrel
      by_cases hlt : k < xs.length
      · rcases Nat.eq_zero_or_pos k with rfl | hpos
        · skip
          obtain ⟨b, off, rfl, _, hok, hp⟩ := PObserved.elem (hx.below' hb) hlt
          rw [Nat.zero_mul, Nat.add_zero] at hp
          obtain ⟨c0, c1, c2, c3⟩ := id hp
          go_wp2
          refine at_world (fun W => Below wr.heap.size wr W ∧ PObserved W wr.heap.size 0 xs[0]) ⟨(Below.refl _ _).alloc (Nat.le_refl _) _, PObserved.box wr xs[0] _⟩ ?_
          clear c0 c1 c2 c3
          rintro W ⟨hW, hpW⟩
          obtain ⟨c0, c1, c2, c3⟩ := id hpW
          have gc0 := cell_regrown c0
          have gc1 := cell_regrown c1
          have gc2 := cell_regrown c2
          have gc3 := cell_regrown c3
          refine wp_region_mix (C := fun w' => ∃ p : Regrown, w' = Go.Sort.grow (redrawn W p.d) p.os) [true, false, true, true, true, true, true, true, true, true, true, true, true, true, true, true, true, true] (by kernel_rfl) (by kernel_rfl) (by kernel_rfl) (fun _ _ d _ _ h => by cases d <;> exact h) (regrown_of_below (Below.drew (Below.refl _ _))) ?_
          have hS0 : Below (W.heap.size) W W.drew := Below.drew (Below.refl _ _)
          refine wpMix_pure (by kernel_rfl) (fun K hK => ?_); go_big_quiet_op; refine hK _ ?_; clear hK K
          refine wpMix_act (by kernel_rfl) (fun K hK => ?_)
          go_big_op
          refine (validObserved_any xs[0] _ hok).mono ?_
          rintro e wr1 ⟨rfl, hbr1⟩
          have hbr1S : Below (W.heap.size) W wr1 := hS0.trans (hbr1.mono hS0.size)
          refine hK _ _ (regrown_of_below hbr1S) ?_
          clear hK K
          cases hq1 : obsB xs[0]
          · skip
            refine wpMix_pure (by kernel_rfl) (fun K hK => ?_); go_big_quiet_op; refine hK _ ?_; clear hK K
            refine wpMix_pure (by kernel_rfl) (fun K hK => ?_); go_big_quiet_op; refine hK _ ?_; clear hK K
            refine wpMix_skip (by kernel_rfl) (fun K hK => ?_)
            simp only [Act.put, List.setIfInBounds_toArray, List.set_cons_zero, List.set_cons_succ]
            refine hK _ ?_; clear hK K
            refine wpMix_skip (by kernel_rfl) (fun K hK => ?_)
            simp only [Act.put, List.setIfInBounds_toArray, List.set_cons_zero, List.set_cons_succ]
            refine hK _ ?_; clear hK K
            refine wpMix_skip (by kernel_rfl) (fun K hK => ?_)
            simp only [Act.put, List.setIfInBounds_toArray, List.set_cons_zero, List.set_cons_succ]
            refine hK _ ?_; clear hK K
            refine wpMix_skip (by kernel_rfl) (fun K hK => ?_)
            simp only [Act.put, List.setIfInBounds_toArray, List.set_cons_zero, List.set_cons_succ]
            refine hK _ ?_; clear hK K
            refine wpMix_skip (by kernel_rfl) (fun K hK => ?_)
            simp only [Act.put, List.setIfInBounds_toArray, List.set_cons_zero, List.set_cons_succ]
            refine hK _ ?_; clear hK K
            refine wpMix_skip (by kernel_rfl) (fun K hK => ?_)
            simp only [Act.put, List.setIfInBounds_toArray, List.set_cons_zero, List.set_cons_succ]
            refine hK _ ?_; clear hK K
            refine wpMix_skip (by kernel_rfl) (fun K hK => ?_)
            simp only [Act.put, List.setIfInBounds_toArray, List.set_cons_zero, List.set_cons_succ]
            refine hK _ ?_; clear hK K
            refine wpMix_skip (by kernel_rfl) (fun K hK => ?_)
            simp only [Act.put, List.setIfInBounds_toArray, List.set_cons_zero, List.set_cons_succ]
            refine hK _ ?_; clear hK K
            refine wpMix_skip (by kernel_rfl) (fun K hK => ?_)
            simp only [Act.put, List.setIfInBounds_toArray, List.set_cons_zero, List.set_cons_succ]
            refine hK _ ?_; clear hK K
            refine wpMix_skip (by kernel_rfl) (fun K hK => ?_)
            simp only [Act.put, List.setIfInBounds_toArray, List.set_cons_zero, List.set_cons_succ]
            refine hK _ ?_; clear hK K
            refine wpMix_skip (by kernel_rfl) (fun K hK => ?_)
            simp only [Act.put, List.setIfInBounds_toArray, List.set_cons_zero, List.set_cons_succ]
            refine hK _ ?_; clear hK K
            refine wpMix_skip (by kernel_rfl) (fun K hK => ?_)
            simp only [Act.put, List.setIfInBounds_toArray, List.set_cons_zero, List.set_cons_succ]
            refine hK _ ?_; clear hK K
            refine wpMix_skip (by kernel_rfl) (fun K hK => ?_)
            simp only [Act.put, List.setIfInBounds_toArray, List.set_cons_zero, List.set_cons_succ]
            refine hK _ ?_; clear hK K
            refine wpMix_pure (by kernel_rfl) (fun K hK => ?_); go_big_quiet_op; refine hK _ ?_; clear hK K
            refine wpMix_nil ?_
            go_wp2
            go_ret
            exact ⟨ret_bool (by rw [obssB_bad hlt (by rw [obsOk_zero hlt]; simp [*])]), hb.trans (hW.trans (hbr1S.mono hW.size) |>.mono hb.size)⟩
          · skip
            refine wpMix_pure (by kernel_rfl) (fun K hK => ?_); go_big_quiet_op; refine hK _ ?_; clear hK K
            refine wpMix_pure (by kernel_rfl) (fun K hK => ?_); go_big_quiet_op; refine hK _ ?_; clear hK K
            refine wpMix_pure (by kernel_rfl) (fun K hK => ?_); go_big_quiet_op; refine hK _ ?_; clear hK K
            refine wpMix_pure (by kernel_rfl) (fun K hK => ?_); go_big_quiet_op; refine hK _ ?_; clear hK K
            refine wpMix_pure (by kernel_rfl) (fun K hK => ?_); go_big_quiet_op; refine hK _ ?_; clear hK K
            refine wpMix_skip (by kernel_rfl) (fun K hK => ?_)
            simp only [Act.put, List.setIfInBounds_toArray, List.set_cons_zero, List.set_cons_succ]
            refine hK _ ?_; clear hK K
            refine wpMix_skip (by kernel_rfl) (fun K hK => ?_)
            simp only [Act.put, List.setIfInBounds_toArray, List.set_cons_zero, List.set_cons_succ]
            refine hK _ ?_; clear hK K
            refine wpMix_skip (by kernel_rfl) (fun K hK => ?_)
            simp only [Act.put, List.setIfInBounds_toArray, List.set_cons_zero, List.set_cons_succ]
            refine hK _ ?_; clear hK K
            refine wpMix_skip (by kernel_rfl) (fun K hK => ?_)
            simp only [Act.put, List.setIfInBounds_toArray, List.set_cons_zero, List.set_cons_succ]
            refine hK _ ?_; clear hK K
            refine wpMix_skip (by kernel_rfl) (fun K hK => ?_)
            simp only [Act.put, List.setIfInBounds_toArray, List.set_cons_zero, List.set_cons_succ]
            refine hK _ ?_; clear hK K
            refine wpMix_skip (by kernel_rfl) (fun K hK => ?_)
            simp only [Act.put, List.setIfInBounds_toArray, List.set_cons_zero, List.set_cons_succ]
            refine hK _ ?_; clear hK K
            refine wpMix_skip (by kernel_rfl) (fun K hK => ?_)
            simp only [Act.put, List.setIfInBounds_toArray, List.set_cons_zero, List.set_cons_succ]
            refine hK _ ?_; clear hK K
            refine wpMix_skip (by kernel_rfl) (fun K hK => ?_)
            simp only [Act.put, List.setIfInBounds_toArray, List.set_cons_zero, List.set_cons_succ]
            refine hK _ ?_; clear hK K
            refine wpMix_skip (by kernel_rfl) (fun K hK => ?_)
            simp only [Act.put, List.setIfInBounds_toArray, List.set_cons_zero, List.set_cons_succ]
            refine hK _ ?_; clear hK K
            refine wpMix_pure (by kernel_rfl) (fun K hK => ?_); go_big_quiet_op; refine hK _ ?_; clear hK K
            refine wpMix_pure (by kernel_rfl) (fun K hK => ?_); go_big_quiet_op; refine hK _ ?_; clear hK K
            refine wpMix_nil ?_
            go_wp2
            go_roundw
            case rel => exact ⟨0 + 1, by omega, by go_num, allIdx_step H0.out (by rw [obsOk_zero hlt]; simp [*]), hb.trans (hW.trans (hbr1S.mono hW.size) |>.mono hb.size)⟩
            case measure => simp [intOf]; omega
        · obtain ⟨m, rfl⟩ : ∃ m, k = m + 1 := ⟨k - 1, by omega⟩
          have hm : m < xs.length := by omega
          obtain ⟨b, off, rfl, _, hok, hp⟩ := PObserved.elem (hx.below' hb) hlt
          skip
          obtain ⟨c0, c1, c2, c3⟩ := id hp
          obtain ⟨b1, off1, hA1, _, hokm, hpm⟩ := PObserved.elem (hx.below' hb) hm
          injection hA1 with hA1
          injection hA1 with hA1 hA2 _
          subst hA1 hA2
          have d0 := hpm.c0
          go_wp2
          refine at_world (fun W => Below wr.heap.size wr W ∧ PObserved W wr.heap.size 0 xs[m + 1] ∧ W.cell? ⟨b, off + m * 4, none⟩ = some (.int .i64 xs[m].hour)) ⟨(Below.refl _ _).alloc (Nat.le_refl _) _, PObserved.box wr xs[m + 1] _, (((Below.refl _ _).alloc (Nat.le_refl _) _).cell (block_lt_of_cell d0)).trans d0⟩ ?_
          clear c0 c1 c2 c3 d0 hpm
          rintro W ⟨hW, hpW, d0⟩
          obtain ⟨c0, c1, c2, c3⟩ := id hpW
          have gc0 := cell_regrown c0
          have gc1 := cell_regrown c1
          have gc2 := cell_regrown c2
          have gc3 := cell_regrown c3
          have gd0 := cell_regrown d0
          refine wp_region_mix (C := fun w' => ∃ p : Regrown, w' = Go.Sort.grow (redrawn W p.d) p.os) [true, false, true, true, true, true, true, true, true, true, true, true, true, true, true, true, true, true] (by kernel_rfl) (by kernel_rfl) (by kernel_rfl) (fun _ _ d _ _ h => by cases d <;> exact h) (regrown_of_below (Below.drew (Below.refl _ _))) ?_
          have hS0 : Below (W.heap.size) W W.drew := Below.drew (Below.refl _ _)
          refine wpMix_pure (by kernel_rfl) (fun K hK => ?_); go_big_quiet_op; refine hK _ ?_; clear hK K
          refine wpMix_act (by kernel_rfl) (fun K hK => ?_)
          go_big_op
          refine (validObserved_any xs[m + 1] _ hok).mono ?_
          rintro e wr1 ⟨rfl, hbr1⟩
          have hbr1S : Below (W.heap.size) W wr1 := hS0.trans (hbr1.mono hS0.size)
          refine hK _ _ (regrown_of_below hbr1S) ?_
          clear hK K
          cases hq1 : obsB xs[m + 1]
          · skip
            refine wpMix_pure (by kernel_rfl) (fun K hK => ?_); go_big_quiet_op; refine hK _ ?_; clear hK K
            refine wpMix_pure (by kernel_rfl) (fun K hK => ?_); go_big_quiet_op; refine hK _ ?_; clear hK K
            refine wpMix_skip (by kernel_rfl) (fun K hK => ?_)
            simp only [Act.put, List.setIfInBounds_toArray, List.set_cons_zero, List.set_cons_succ]
            refine hK _ ?_; clear hK K
            refine wpMix_skip (by kernel_rfl) (fun K hK => ?_)
            simp only [Act.put, List.setIfInBounds_toArray, List.set_cons_zero, List.set_cons_succ]
            refine hK _ ?_; clear hK K
            refine wpMix_skip (by kernel_rfl) (fun K hK => ?_)
            simp only [Act.put, List.setIfInBounds_toArray, List.set_cons_zero, List.set_cons_succ]
            refine hK _ ?_; clear hK K
            refine wpMix_skip (by kernel_rfl) (fun K hK => ?_)
            simp only [Act.put, List.setIfInBounds_toArray, List.set_cons_zero, List.set_cons_succ]
            refine hK _ ?_; clear hK K
            refine wpMix_skip (by kernel_rfl) (fun K hK => ?_)
            simp only [Act.put, List.setIfInBounds_toArray, List.set_cons_zero, List.set_cons_succ]
            refine hK _ ?_; clear hK K
            refine wpMix_skip (by kernel_rfl) (fun K hK => ?_)
            simp only [Act.put, List.setIfInBounds_toArray, List.set_cons_zero, List.set_cons_succ]
            refine hK _ ?_; clear hK K
            refine wpMix_skip (by kernel_rfl) (fun K hK => ?_)
            simp only [Act.put, List.setIfInBounds_toArray, List.set_cons_zero, List.set_cons_succ]
            refine hK _ ?_; clear hK K
            refine wpMix_skip (by kernel_rfl) (fun K hK => ?_)
            simp only [Act.put, List.setIfInBounds_toArray, List.set_cons_zero, List.set_cons_succ]
            refine hK _ ?_; clear hK K
            refine wpMix_skip (by kernel_rfl) (fun K hK => ?_)
            simp only [Act.put, List.setIfInBounds_toArray, List.set_cons_zero, List.set_cons_succ]
            refine hK _ ?_; clear hK K
            refine wpMix_skip (by kernel_rfl) (fun K hK => ?_)
            simp only [Act.put, List.setIfInBounds_toArray, List.set_cons_zero, List.set_cons_succ]
            refine hK _ ?_; clear hK K
            refine wpMix_skip (by kernel_rfl) (fun K hK => ?_)
            simp only [Act.put, List.setIfInBounds_toArray, List.set_cons_zero, List.set_cons_succ]
            refine hK _ ?_; clear hK K
            refine wpMix_skip (by kernel_rfl) (fun K hK => ?_)
            simp only [Act.put, List.setIfInBounds_toArray, List.set_cons_zero, List.set_cons_succ]
            refine hK _ ?_; clear hK K
            refine wpMix_skip (by kernel_rfl) (fun K hK => ?_)
            simp only [Act.put, List.setIfInBounds_toArray, List.set_cons_zero, List.set_cons_succ]
            refine hK _ ?_; clear hK K
            refine wpMix_pure (by kernel_rfl) (fun K hK => ?_); go_big_quiet_op; refine hK _ ?_; clear hK K
            refine wpMix_nil ?_
            go_wp2
            go_ret
            exact ⟨ret_bool (by rw [obssB_bad hlt (by rw [obsOk_succ hlt]; simp [*])]), hb.trans (hW.trans (hbr1S.mono hW.size) |>.mono hb.size)⟩
          · skip
            refine wpMix_pure (by kernel_rfl) (fun K hK => ?_); go_big_quiet_op; refine hK _ ?_; clear hK K
            refine wpMix_pure (by kernel_rfl) (fun K hK => ?_); go_big_quiet_op; refine hK _ ?_; clear hK K
            refine wpMix_pure (by kernel_rfl) (fun K hK => ?_); go_big_quiet_op; refine hK _ ?_; clear hK K
            refine wpMix_pure (by kernel_rfl) (fun K hK => ?_); go_big_quiet_op; refine hK _ ?_; clear hK K
            refine wpMix_pure (by kernel_rfl) (fun K hK => ?_); go_big_quiet_op; refine hK _ ?_; clear hK K
            refine wpMix_pure (by kernel_rfl) (fun K hK => ?_); go_big_quiet_op; refine hK _ ?_; clear hK K
            refine wpMix_pure (by kernel_rfl) (fun K hK => ?_); go_big_quiet_op; refine hK _ ?_; clear hK K
            refine wpMix_pure (by kernel_rfl) (fun K hK => ?_); go_big_quiet_op; refine hK _ ?_; clear hK K
            refine wpMix_pure (by kernel_rfl) (fun K hK => ?_); go_big_quiet_op; refine hK _ ?_; clear hK K
            refine wpMix_pure (by kernel_rfl) (fun K hK => ?_); go_big_quiet_op; refine hK _ ?_; clear hK K
            refine wpMix_pure (by kernel_rfl) (fun K hK => ?_); go_big_quiet_op; refine hK _ ?_; clear hK K
            refine wpMix_pure (by kernel_rfl) (fun K hK => ?_); go_big_quiet_op; refine hK _ ?_; clear hK K
            refine wpMix_pure (by kernel_rfl) (fun K hK => ?_); go_big_quiet_op; refine hK _ ?_; clear hK K
            by_cases hq15 : obsBef xs[m] xs[m + 1] = true
            · skip
              have h20 := hq15
              unfold obsBef at h20
              have e20 : decide (xs[m + 1].hour ≤ xs[m].hour) = false := by simp at h20 ⊢; omega
              clear h20
              refine wpMix_pure (by kernel_rfl) (fun K hK => ?_); go_big_quiet_op; refine hK _ ?_; clear hK K
              refine wpMix_pure (by kernel_rfl) (fun K hK => ?_); go_big_quiet_op; refine hK _ ?_; clear hK K
              refine wpMix_pure (by kernel_rfl) (fun K hK => ?_); go_big_quiet_op; refine hK _ ?_; clear hK K
              refine wpMix_nil ?_
              go_wp2
              go_roundw
              case rel => exact ⟨m + 1 + 1, by omega, by go_num, allIdx_step H0.out (by rw [obsOk_succ hlt]; simp [*]), hb.trans (hW.trans (hbr1S.mono hW.size) |>.mono hb.size)⟩
              case measure => simp [intOf]; omega
            · skip
              have h20 := hq15
              unfold obsBef at h20
              have e20 : decide (xs[m + 1].hour ≤ xs[m].hour) = true := by simp at h20 ⊢; omega
              clear h20
              refine wpMix_pure (by kernel_rfl) (fun K hK => ?_); go_big_quiet_op; refine hK _ ?_; clear hK K
              refine wpMix_pure (by kernel_rfl) (fun K hK => ?_); go_big_quiet_op; refine hK _ ?_; clear hK K
              refine wpMix_pure (by kernel_rfl) (fun K hK => ?_); go_big_quiet_op; refine hK _ ?_; clear hK K
              refine wpMix_nil ?_
              go_wp2
              go_ret
              exact ⟨ret_bool (by rw [obssB_bad hlt (by rw [obsOk_succ hlt]; simp [*])]), hb.trans (hW.trans (hbr1S.mono hW.size) |>.mono hb.size)⟩
      · have HF := Lib.hid (allIdx_full (by omega) hk H0.out)
        go_wp2
        go_ret
        exact ⟨ret_bool (by unfold obssB; rw [HF.out]; simp [hle]), hb⟩
  · go_enter Tryz.func116, Tryz.ntmps116
    go_wp2
    go_ret
    exact ⟨ret_bool (by unfold obssB; simp <;> omega), Below.refl _ _⟩

def test0 : DTest := ⟨0, 0, 0, 0, 0⟩
def testBef (a b : DTest) : Bool := decide (a.hour ≤ b.hour)

def testOk (xs : List DTest) (i : Nat) : Bool := testB (xs.getD i test0) && (decide (i = 0) || testBef (xs.getD (i - 1) test0) (xs.getD i test0))
def testsB (xs : List DTest) : Bool := allIdx (testOk xs) xs.length && decide (xs.length ≤ 16)
theorem testOk_zero {xs : List DTest} (h : 0 < xs.length) : testOk xs 0 = testB xs[0] := by simp [testOk, h]
theorem testOk_succ {xs : List DTest} {m : Nat} (h : m + 1 < xs.length) : testOk xs (m + 1) = (testB xs[m + 1] && testBef xs[m] xs[m + 1]) := by
  have h1 : m < xs.length := by omega
  simp [testOk, h, h1]
theorem testsB_bad {xs : List DTest} {k : Nat} (h : k < xs.length) (h1 : testOk xs k = false) : testsB xs = false := by
  unfold testsB; rw [allIdx_bad h h1]; rfl
theorem testsB_len {xs : List DTest} (h : testsB xs = true) : xs.length ≤ 16 := by
  unfold testsB at h; simp at h; exact h.2
theorem testsB_one {xs : List DTest} (h : testsB xs = true) {k : Nat} (hk : k < xs.length) : testB xs[k] = true := by
  unfold testsB at h
  rw [Bool.and_eq_true] at h
  have := allIdx_true.1 h.1 k hk
  unfold testOk at this
  rw [Bool.and_eq_true] at this
  simpa [hk] using this.1
theorem testsB_two {xs : List DTest} (h : testsB xs = true) {m : Nat} (hm : m + 1 < xs.length) : testBef xs[m] xs[m + 1] = true := by
  unfold testsB at h
  rw [Bool.and_eq_true] at h
  have := allIdx_true.1 h.1 (m + 1) hm
  rw [testOk_succ hm, Bool.and_eq_true] at this
  exact this.2
set_option maxRecDepth 100000 in
set_option maxHeartbeats 4000000 in
theorem ValidTests_any (v : Value) (xs : List DTest) (fp : List Nat) (w : World) (hx : Sl fTest.cod w v xs fp) :
    Calls Tryz.prog 88 #[v] w fun e w' => e = .returned (.bool (testsB xs)) ∧ Below w.heap.size w w' := by
  obtain ⟨A, cap, rfl, hlen, hcap⟩ := hx.form
  by_cases hle : xs.length ≤ 16
  · go_enter Tryz.func88, Tryz.ntmps88
    go_wp2
    go_loopw [10] (fun i wr => ∃ k : Nat, k ≤ xs.length ∧ i = .int .i64 k ∧ Hid (allIdx (testOk xs) k = true) ∧ Below w.heap.size w wr) (fun i _ => xs.length - (intOf i).toNat)
    case atStart => exact ⟨0, Nat.zero_le _, rfl, rfl, Below.refl _ _⟩
    case round =>
      obtain ⟨k, hk, rfl, H0, hb⟩ := hrel
      by_cases hlt : k < xs.length
      · rcases Nat.eq_zero_or_pos k with rfl | hpos
        · skip
          obtain ⟨b, off, rfl, _, hok, hp⟩ := PTest.elem (hx.below' hb) hlt
          rw [Nat.zero_mul, Nat.add_zero] at hp
          obtain ⟨c0, c1, c2, c3, c4⟩ := id hp
          go_wp2
          refine at_world (fun W => Below wr.heap.size wr W ∧ PTest W wr.heap.size 0 xs[0]) ⟨(Below.refl _ _).alloc (Nat.le_refl _) _, PTest.box wr xs[0] _⟩ ?_
          clear c0 c1 c2 c3 c4
          rintro W ⟨hW, hpW⟩
          obtain ⟨c0, c1, c2, c3, c4⟩ := id hpW
          have gc0 := cell_regrown c0
          have gc1 := cell_regrown c1
          have gc2 := cell_regrown c2
          have gc3 := cell_regrown c3
          have gc4 := cell_regrown c4
          refine wp_region_mix (C := fun w' => ∃ p : Regrown, w' = Go.Sort.grow (redrawn W p.d) p.os) [true, false, true, true, true, true, true, true, true, true, true, true, true, true, true, true, true, true] (by kernel_rfl) (by kernel_rfl) (by kernel_rfl) (fun _ _ d _ _ h => by cases d <;> exact h) (regrown_of_below (Below.drew (Below.refl _ _))) ?_
          have hS0 : Below (W.heap.size) W W.drew := Below.drew (Below.refl _ _)
          refine wpMix_pure (by kernel_rfl) (fun K hK => ?_); go_big_quiet_op; refine hK _ ?_; clear hK K
          refine wpMix_act (by kernel_rfl) (fun K hK => ?_)
          go_big_op
          refine (validTest_any xs[0] _ hok).mono ?_
          rintro e wr1 ⟨rfl, hbr1⟩
          have hbr1S : Below (W.heap.size) W wr1 := hS0.trans (hbr1.mono hS0.size)
          refine hK _ _ (regrown_of_below hbr1S) ?_
          clear hK K
          cases hq1 : testB xs[0]
          · skip
            refine wpMix_pure (by kernel_rfl) (fun K hK => ?_); go_big_quiet_op; refine hK _ ?_; clear hK K
            refine wpMix_pure (by kernel_rfl) (fun K hK => ?_); go_big_quiet_op; refine hK _ ?_; clear hK K
            refine wpMix_skip (by kernel_rfl) (fun K hK => ?_)
            simp only [Act.put, List.setIfInBounds_toArray, List.set_cons_zero, List.set_cons_succ]
            refine hK _ ?_; clear hK K
            refine wpMix_skip (by kernel_rfl) (fun K hK => ?_)
            simp only [Act.put, List.setIfInBounds_toArray, List.set_cons_zero, List.set_cons_succ]
            refine hK _ ?_; clear hK K
            refine wpMix_skip (by kernel_rfl) (fun K hK => ?_)
            simp only [Act.put, List.setIfInBounds_toArray, List.set_cons_zero, List.set_cons_succ]
            refine hK _ ?_; clear hK K
            refine wpMix_skip (by kernel_rfl) (fun K hK => ?_)
            simp only [Act.put, List.setIfInBounds_toArray, List.set_cons_zero, List.set_cons_succ]
            refine hK _ ?_; clear hK K
            refine wpMix_skip (by kernel_rfl) (fun K hK => ?_)
            simp only [Act.put, List.setIfInBounds_toArray, List.set_cons_zero, List.set_cons_succ]
            refine hK _ ?_; clear hK K
            refine wpMix_skip (by kernel_rfl) (fun K hK => ?_)
            simp only [Act.put, List.setIfInBounds_toArray, List.set_cons_zero, List.set_cons_succ]
            refine hK _ ?_; clear hK K
            refine wpMix_skip (by kernel_rfl) (fun K hK => ?_)
            simp only [Act.put, List.setIfInBounds_toArray, List.set_cons_zero, List.set_cons_succ]
            refine hK _ ?_; clear hK K
            refine wpMix_skip (by kernel_rfl) (fun K hK => ?_)
            simp only [Act.put, List.setIfInBounds_toArray, List.set_cons_zero, List.set_cons_succ]
            refine hK _ ?_; clear hK K
            refine wpMix_skip (by kernel_rfl) (fun K hK => ?_)
            simp only [Act.put, List.setIfInBounds_toArray, List.set_cons_zero, List.set_cons_succ]
            refine hK _ ?_; clear hK K
            refine wpMix_skip (by kernel_rfl) (fun K hK => ?_)
            simp only [Act.put, List.setIfInBounds_toArray, List.set_cons_zero, List.set_cons_succ]
            refine hK _ ?_; clear hK K
            refine wpMix_skip (by kernel_rfl) (fun K hK => ?_)
            simp only [Act.put, List.setIfInBounds_toArray, List.set_cons_zero, List.set_cons_succ]
            refine hK _ ?_; clear hK K
            refine wpMix_skip (by kernel_rfl) (fun K hK => ?_)
            simp only [Act.put, List.setIfInBounds_toArray, List.set_cons_zero, List.set_cons_succ]
            refine hK _ ?_; clear hK K
            refine wpMix_skip (by kernel_rfl) (fun K hK => ?_)
            simp only [Act.put, List.setIfInBounds_toArray, List.set_cons_zero, List.set_cons_succ]
            refine hK _ ?_; clear hK K
            refine wpMix_pure (by kernel_rfl) (fun K hK => ?_); go_big_quiet_op; refine hK _ ?_; clear hK K
            refine wpMix_nil ?_
            go_wp2
            go_ret
            exact ⟨ret_bool (by rw [testsB_bad hlt (by rw [testOk_zero hlt]; simp [*])]), hb.trans (hW.trans (hbr1S.mono hW.size) |>.mono hb.size)⟩
          · skip
            refine wpMix_pure (by kernel_rfl) (fun K hK => ?_); go_big_quiet_op; refine hK _ ?_; clear hK K
            refine wpMix_pure (by kernel_rfl) (fun K hK => ?_); go_big_quiet_op; refine hK _ ?_; clear hK K
            refine wpMix_pure (by kernel_rfl) (fun K hK => ?_); go_big_quiet_op; refine hK _ ?_; clear hK K
            refine wpMix_pure (by kernel_rfl) (fun K hK => ?_); go_big_quiet_op; refine hK _ ?_; clear hK K
            refine wpMix_pure (by kernel_rfl) (fun K hK => ?_); go_big_quiet_op; refine hK _ ?_; clear hK K
            refine wpMix_skip (by kernel_rfl) (fun K hK => ?_)
            simp only [Act.put, List.setIfInBounds_toArray, List.set_cons_zero, List.set_cons_succ]
            refine hK _ ?_; clear hK K
            refine wpMix_skip (by kernel_rfl) (fun K hK => ?_)
            simp only [Act.put, List.setIfInBounds_toArray, List.set_cons_zero, List.set_cons_succ]
            refine hK _ ?_; clear hK K
            refine wpMix_skip (by kernel_rfl) (fun K hK => ?_)
            simp only [Act.put, List.setIfInBounds_toArray, List.set_cons_zero, List.set_cons_succ]
            refine hK _ ?_; clear hK K
            refine wpMix_skip (by kernel_rfl) (fun K hK => ?_)
            simp only [Act.put, List.setIfInBounds_toArray, List.set_cons_zero, List.set_cons_succ]
            refine hK _ ?_; clear hK K
            refine wpMix_skip (by kernel_rfl) (fun K hK => ?_)
            simp only [Act.put, List.setIfInBounds_toArray, List.set_cons_zero, List.set_cons_succ]
            refine hK _ ?_; clear hK K
            refine wpMix_skip (by kernel_rfl) (fun K hK => ?_)
            simp only [Act.put, List.setIfInBounds_toArray, List.set_cons_zero, List.set_cons_succ]
            refine hK _ ?_; clear hK K
            refine wpMix_skip (by kernel_rfl) (fun K hK => ?_)
            simp only [Act.put, List.setIfInBounds_toArray, List.set_cons_zero, List.set_cons_succ]
            refine hK _ ?_; clear hK K
            refine wpMix_skip (by kernel_rfl) (fun K hK => ?_)
            simp only [Act.put, List.setIfInBounds_toArray, List.set_cons_zero, List.set_cons_succ]
            refine hK _ ?_; clear hK K
            refine wpMix_skip (by kernel_rfl) (fun K hK => ?_)
            simp only [Act.put, List.setIfInBounds_toArray, List.set_cons_zero, List.set_cons_succ]
            refine hK _ ?_; clear hK K
            refine wpMix_pure (by kernel_rfl) (fun K hK => ?_); go_big_quiet_op; refine hK _ ?_; clear hK K
            refine wpMix_pure (by kernel_rfl) (fun K hK => ?_); go_big_quiet_op; refine hK _ ?_; clear hK K
            refine wpMix_nil ?_
            go_wp2
            go_roundw
            case rel => exact ⟨0 + 1, by omega, by go_num, allIdx_step H0.out (by rw [testOk_zero hlt]; simp [*]), hb.trans (hW.trans (hbr1S.mono hW.size) |>.mono hb.size)⟩
            case measure => simp [intOf]; omega
        · obtain ⟨m, rfl⟩ : ∃ m, k = m + 1 := ⟨k - 1, by omega⟩
          have hm : m < xs.length := by omega
          obtain ⟨b, off, rfl, _, hok, hp⟩ := PTest.elem (hx.below' hb) hlt
          skip
          obtain ⟨c0, c1, c2, c3, c4⟩ := id hp
          obtain ⟨b1, off1, hA1, _, hokm, hpm⟩ := PTest.elem (hx.below' hb) hm
          injection hA1 with hA1
          injection hA1 with hA1 hA2 _
          subst hA1 hA2
          have d0 := hpm.c4
          go_wp2
          refine at_world (fun W => Below wr.heap.size wr W ∧ PTest W wr.heap.size 0 xs[m + 1] ∧ W.cell? ⟨b, off + m * 5 + 4, none⟩ = some (.int .i64 xs[m].hour)) ⟨(Below.refl _ _).alloc (Nat.le_refl _) _, PTest.box wr xs[m + 1] _, (((Below.refl _ _).alloc (Nat.le_refl _) _).cell (block_lt_of_cell d0)).trans d0⟩ ?_
          clear c0 c1 c2 c3 c4 d0 hpm
          rintro W ⟨hW, hpW, d0⟩
          obtain ⟨c0, c1, c2, c3, c4⟩ := id hpW
          have gc0 := cell_regrown c0
          have gc1 := cell_regrown c1
          have gc2 := cell_regrown c2
          have gc3 := cell_regrown c3
          have gc4 := cell_regrown c4
          have gd0 := cell_regrown d0
          refine wp_region_mix (C := fun w' => ∃ p : Regrown, w' = Go.Sort.grow (redrawn W p.d) p.os) [true, false, true, true, true, true, true, true, true, true, true, true, true, true, true, true, true, true] (by kernel_rfl) (by kernel_rfl) (by kernel_rfl) (fun _ _ d _ _ h => by cases d <;> exact h) (regrown_of_below (Below.drew (Below.refl _ _))) ?_
          have hS0 : Below (W.heap.size) W W.drew := Below.drew (Below.refl _ _)
          refine wpMix_pure (by kernel_rfl) (fun K hK => ?_); go_big_quiet_op; refine hK _ ?_; clear hK K
          refine wpMix_act (by kernel_rfl) (fun K hK => ?_)
          go_big_op
          refine (validTest_any xs[m + 1] _ hok).mono ?_
          rintro e wr1 ⟨rfl, hbr1⟩
          have hbr1S : Below (W.heap.size) W wr1 := hS0.trans (hbr1.mono hS0.size)
          refine hK _ _ (regrown_of_below hbr1S) ?_
          clear hK K
          cases hq1 : testB xs[m + 1]
          · skip
            refine wpMix_pure (by kernel_rfl) (fun K hK => ?_); go_big_quiet_op; refine hK _ ?_; clear hK K
            refine wpMix_pure (by kernel_rfl) (fun K hK => ?_); go_big_quiet_op; refine hK _ ?_; clear hK K
            refine wpMix_skip (by kernel_rfl) (fun K hK => ?_)
            simp only [Act.put, List.setIfInBounds_toArray, List.set_cons_zero, List.set_cons_succ]
            refine hK _ ?_; clear hK K
            refine wpMix_skip (by kernel_rfl) (fun K hK => ?_)
            simp only [Act.put, List.setIfInBounds_toArray, List.set_cons_zero, List.set_cons_succ]
            refine hK _ ?_; clear hK K
            refine wpMix_skip (by kernel_rfl) (fun K hK => ?_)
            simp only [Act.put, List.setIfInBounds_toArray, List.set_cons_zero, List.set_cons_succ]
            refine hK _ ?_; clear hK K
            refine wpMix_skip (by kernel_rfl) (fun K hK => ?_)
            simp only [Act.put, List.setIfInBounds_toArray, List.set_cons_zero, List.set_cons_succ]
            refine hK _ ?_; clear hK K
            refine wpMix_skip (by kernel_rfl) (fun K hK => ?_)
            simp only [Act.put, List.setIfInBounds_toArray, List.set_cons_zero, List.set_cons_succ]
            refine hK _ ?_; clear hK K
            refine wpMix_skip (by kernel_rfl) (fun K hK => ?_)
            simp only [Act.put, List.setIfInBounds_toArray, List.set_cons_zero, List.set_cons_succ]
            refine hK _ ?_; clear hK K
            refine wpMix_skip (by kernel_rfl) (fun K hK => ?_)
            simp only [Act.put, List.setIfInBounds_toArray, List.set_cons_zero, List.set_cons_succ]
            refine hK _ ?_; clear hK K
            refine wpMix_skip (by kernel_rfl) (fun K hK => ?_)
            simp only [Act.put, List.setIfInBounds_toArray, List.set_cons_zero, List.set_cons_succ]
            refine hK _ ?_; clear hK K
            refine wpMix_skip (by kernel_rfl) (fun K hK => ?_)
            simp only [Act.put, List.setIfInBounds_toArray, List.set_cons_zero, List.set_cons_succ]
            refine hK _ ?_; clear hK K
            refine wpMix_skip (by kernel_rfl) (fun K hK => ?_)
            simp only [Act.put, List.setIfInBounds_toArray, List.set_cons_zero, List.set_cons_succ]
            refine hK _ ?_; clear hK K
            refine wpMix_skip (by kernel_rfl) (fun K hK => ?_)
            simp only [Act.put, List.setIfInBounds_toArray, List.set_cons_zero, List.set_cons_succ]
            refine hK _ ?_; clear hK K
            refine wpMix_skip (by kernel_rfl) (fun K hK => ?_)
            simp only [Act.put, List.setIfInBounds_toArray, List.set_cons_zero, List.set_cons_succ]
            refine hK _ ?_; clear hK K
            refine wpMix_skip (by kernel_rfl) (fun K hK => ?_)
            simp only [Act.put, List.setIfInBounds_toArray, List.set_cons_zero, List.set_cons_succ]
            refine hK _ ?_; clear hK K
            refine wpMix_pure (by kernel_rfl) (fun K hK => ?_); go_big_quiet_op; refine hK _ ?_; clear hK K
            refine wpMix_nil ?_
            go_wp2
            go_ret
            exact ⟨ret_bool (by rw [testsB_bad hlt (by rw [testOk_succ hlt]; simp [*])]), hb.trans (hW.trans (hbr1S.mono hW.size) |>.mono hb.size)⟩
          · skip
            refine wpMix_pure (by kernel_rfl) (fun K hK => ?_); go_big_quiet_op; refine hK _ ?_; clear hK K
            refine wpMix_pure (by kernel_rfl) (fun K hK => ?_); go_big_quiet_op; refine hK _ ?_; clear hK K
            refine wpMix_pure (by kernel_rfl) (fun K hK => ?_); go_big_quiet_op; refine hK _ ?_; clear hK K
            refine wpMix_pure (by kernel_rfl) (fun K hK => ?_); go_big_quiet_op; refine hK _ ?_; clear hK K
            refine wpMix_pure (by kernel_rfl) (fun K hK => ?_); go_big_quiet_op; refine hK _ ?_; clear hK K
            refine wpMix_pure (by kernel_rfl) (fun K hK => ?_); go_big_quiet_op; refine hK _ ?_; clear hK K
            refine wpMix_pure (by kernel_rfl) (fun K hK => ?_); go_big_quiet_op; refine hK _ ?_; clear hK K
            refine wpMix_pure (by kernel_rfl) (fun K hK => ?_); go_big_quiet_op; refine hK _ ?_; clear hK K
            refine wpMix_pure (by kernel_rfl) (fun K hK => ?_); go_big_quiet_op; refine hK _ ?_; clear hK K
            refine wpMix_pure (by kernel_rfl) (fun K hK => ?_); go_big_quiet_op; refine hK _ ?_; clear hK K
            refine wpMix_pure (by kernel_rfl) (fun K hK => ?_); go_big_quiet_op; refine hK _ ?_; clear hK K
            refine wpMix_pure (by kernel_rfl) (fun K hK => ?_); go_big_quiet_op; refine hK _ ?_; clear hK K
            refine wpMix_pure (by kernel_rfl) (fun K hK => ?_); go_big_quiet_op; refine hK _ ?_; clear hK K
            by_cases hq15 : testBef xs[m] xs[m + 1] = true
            · skip
              have h20 := hq15
              unfold testBef at h20
              have e20 : decide (xs[m + 1].hour < xs[m].hour) = false := by simp at h20 ⊢; omega
              clear h20
              refine wpMix_pure (by kernel_rfl) (fun K hK => ?_); go_big_quiet_op; refine hK _ ?_; clear hK K
              refine wpMix_pure (by kernel_rfl) (fun K hK => ?_); go_big_quiet_op; refine hK _ ?_; clear hK K
              refine wpMix_pure (by kernel_rfl) (fun K hK => ?_); go_big_quiet_op; refine hK _ ?_; clear hK K
              refine wpMix_nil ?_
              go_wp2
              go_roundw
              case rel => exact ⟨m + 1 + 1, by omega, by go_num, allIdx_step H0.out (by rw [testOk_succ hlt]; simp [*]), hb.trans (hW.trans (hbr1S.mono hW.size) |>.mono hb.size)⟩
              case measure => simp [intOf]; omega
            · skip
              have h20 := hq15
              unfold testBef at h20
              have e20 : decide (xs[m + 1].hour < xs[m].hour) = true := by simp at h20 ⊢; omega
              clear h20
              refine wpMix_pure (by kernel_rfl) (fun K hK => ?_); go_big_quiet_op; refine hK _ ?_; clear hK K
              refine wpMix_pure (by kernel_rfl) (fun K hK => ?_); go_big_quiet_op; refine hK _ ?_; clear hK K
              refine wpMix_pure (by kernel_rfl) (fun K hK => ?_); go_big_quiet_op; refine hK _ ?_; clear hK K
              refine wpMix_nil ?_
              go_wp2
              go_ret
              exact ⟨ret_bool (by rw [testsB_bad hlt (by rw [testOk_succ hlt]; simp [*])]), hb.trans (hW.trans (hbr1S.mono hW.size) |>.mono hb.size)⟩
      · have HF := Lib.hid (allIdx_full (by omega) hk H0.out)
        go_wp2
        go_ret
        exact ⟨ret_bool (by unfold testsB; rw [HF.out]; simp [hle]), hb⟩
  · go_enter Tryz.func88, Tryz.ntmps88
    go_wp2
    go_ret
    exact ⟨ret_bool (by unfold testsB; simp <;> omega), Below.refl _ _⟩

def stand0 : DStand := ⟨⟨#[]⟩, 0, 0, 0, 0⟩
def standBef (a b : DStand) : Bool := ltS a.id b.id

def standOk (xs : List DStand) (i : Nat) : Bool := standB (xs.getD i stand0) && (decide (i = 0) || standBef (xs.getD (i - 1) stand0) (xs.getD i stand0))
def standsB (xs : List DStand) : Bool := allIdx (standOk xs) xs.length && decide (xs.length ≤ 16)
theorem standOk_zero {xs : List DStand} (h : 0 < xs.length) : standOk xs 0 = standB xs[0] := by simp [standOk, h]
theorem standOk_succ {xs : List DStand} {m : Nat} (h : m + 1 < xs.length) : standOk xs (m + 1) = (standB xs[m + 1] && standBef xs[m] xs[m + 1]) := by
  have h1 : m < xs.length := by omega
  simp [standOk, h, h1]
theorem standsB_bad {xs : List DStand} {k : Nat} (h : k < xs.length) (h1 : standOk xs k = false) : standsB xs = false := by
  unfold standsB; rw [allIdx_bad h h1]; rfl
theorem standsB_len {xs : List DStand} (h : standsB xs = true) : xs.length ≤ 16 := by
  unfold standsB at h; simp at h; exact h.2
theorem standsB_one {xs : List DStand} (h : standsB xs = true) {k : Nat} (hk : k < xs.length) : standB xs[k] = true := by
  unfold standsB at h
  rw [Bool.and_eq_true] at h
  have := allIdx_true.1 h.1 k hk
  unfold standOk at this
  rw [Bool.and_eq_true] at this
  simpa [hk] using this.1
theorem standsB_two {xs : List DStand} (h : standsB xs = true) {m : Nat} (hm : m + 1 < xs.length) : standBef xs[m] xs[m + 1] = true := by
  unfold standsB at h
  rw [Bool.and_eq_true] at h
  have := allIdx_true.1 h.1 (m + 1) hm
  rw [standOk_succ hm, Bool.and_eq_true] at this
  exact this.2

def ver0 : DVerified := ⟨0, 0, 0⟩
def verBef (a b : DVerified) : Bool := decide (a.day < b.day)

def verOk (xs : List DVerified) (i : Nat) : Bool := verB (xs.getD i ver0) && (decide (i = 0) || verBef (xs.getD (i - 1) ver0) (xs.getD i ver0))
def versB (xs : List DVerified) : Bool := allIdx (verOk xs) xs.length && decide (xs.length ≤ 64)
theorem verOk_zero {xs : List DVerified} (h : 0 < xs.length) : verOk xs 0 = verB xs[0] := by simp [verOk, h]
theorem verOk_succ {xs : List DVerified} {m : Nat} (h : m + 1 < xs.length) : verOk xs (m + 1) = (verB xs[m + 1] && verBef xs[m] xs[m + 1]) := by
  have h1 : m < xs.length := by omega
  simp [verOk, h, h1]
theorem versB_bad {xs : List DVerified} {k : Nat} (h : k < xs.length) (h1 : verOk xs k = false) : versB xs = false := by
  unfold versB; rw [allIdx_bad h h1]; rfl
theorem versB_len {xs : List DVerified} (h : versB xs = true) : xs.length ≤ 64 := by
  unfold versB at h; simp at h; exact h.2
theorem versB_one {xs : List DVerified} (h : versB xs = true) {k : Nat} (hk : k < xs.length) : verB xs[k] = true := by
  unfold versB at h
  rw [Bool.and_eq_true] at h
  have := allIdx_true.1 h.1 k hk
  unfold verOk at this
  rw [Bool.and_eq_true] at this
  simpa [hk] using this.1
theorem versB_two {xs : List DVerified} (h : versB xs = true) {m : Nat} (hm : m + 1 < xs.length) : verBef xs[m] xs[m + 1] = true := by
  unfold versB at h
  rw [Bool.and_eq_true] at h
  have := allIdx_true.1 h.1 (m + 1) hm
  rw [verOk_succ hm, Bool.and_eq_true] at this
  exact this.2
set_option maxRecDepth 100000 in
set_option maxHeartbeats 4000000 in
theorem l20Ok_any (v : Value) (xs : List DVerified) (fp : List Nat) (w : World) (hx : Sl fVerified.cod w v xs fp) :
    Calls Tryz.prog 162 #[v] w fun e w' => e = .returned (.bool (versB xs)) ∧ Below w.heap.size w w' := by
  obtain ⟨A, cap, rfl, hlen, hcap⟩ := hx.form
  go_enter Tryz.func162, Tryz.ntmps162
  go_wp2
  go_loopw [3] (fun i wr => ∃ k : Nat, k ≤ xs.length ∧ i = .int .i64 k ∧ Hid (allIdx (verOk xs) k = true) ∧ Below w.heap.size w wr) (fun i _ => xs.length - (intOf i).toNat)
  case atStart => exact ⟨0, Nat.zero_le _, rfl, rfl, Below.refl _ _⟩
  case round =>
    obtain ⟨k, hk, rfl, H0, hb⟩ := hrel
    by_cases hlt : k < xs.length
    · rcases Nat.eq_zero_or_pos k with rfl | hpos
      · obtain ⟨b, off, rfl, _, hok, hp⟩ := PVerified.elem (hx.below' hb) hlt
        have c0 := hp.c0
        have hplt := hp.lt
        go_wp2
        have gc0 := cell_regrown c0
        refine wp_region_mix (C := fun w' => ∃ p : Regrown, w' = Go.Sort.grow (redrawn wr p.d) p.os) [true, true, true, false, true, true, true, true, true, true, true, true, true, true, true, true, true, true, true, true, true, true, true] (by kernel_rfl) (by kernel_rfl) (by kernel_rfl) (fun _ _ d _ _ h => by cases d <;> exact h) (regrown_of_below (Below.drew (Below.refl _ _))) ?_
        have hS0 : Below (wr.heap.size) wr wr.drew := Below.drew (Below.refl _ _)
        refine wpMix_pure (by kernel_rfl) (fun K hK => ?_); go_big_quiet_op; refine hK _ ?_; clear hK K
        refine wpMix_pure (by kernel_rfl) (fun K hK => ?_); go_big_quiet_op; refine hK _ ?_; clear hK K
        refine wpMix_pure (by kernel_rfl) (fun K hK => ?_); go_big_quiet_op; refine hK _ ?_; clear hK K
        refine wpMix_act (by kernel_rfl) (fun K hK => ?_)
        go_big_op
        refine (l20One_any _ _ _ _ (hp.below hS0 hplt) hok).mono ?_
        rintro e wr1 ⟨rfl, hbr1⟩
        have hbr1S : Below (wr.heap.size) wr wr1 := hS0.trans (hbr1.mono hS0.size)
        refine hK _ _ (regrown_of_below hbr1S) ?_
        clear hK K
        cases hq3 : verB xs[0]
        · skip
          refine wpMix_pure (by kernel_rfl) (fun K hK => ?_); go_big_quiet_op; refine hK _ ?_; clear hK K
          refine wpMix_pure (by kernel_rfl) (fun K hK => ?_); go_big_quiet_op; refine hK _ ?_; clear hK K
          refine wpMix_skip (by kernel_rfl) (fun K hK => ?_)
          simp only [Act.put, List.setIfInBounds_toArray, List.set_cons_zero, List.set_cons_succ]
          refine hK _ ?_; clear hK K
          refine wpMix_skip (by kernel_rfl) (fun K hK => ?_)
          simp only [Act.put, List.setIfInBounds_toArray, List.set_cons_zero, List.set_cons_succ]
          refine hK _ ?_; clear hK K
          refine wpMix_skip (by kernel_rfl) (fun K hK => ?_)
          simp only [Act.put, List.setIfInBounds_toArray, List.set_cons_zero, List.set_cons_succ]
          refine hK _ ?_; clear hK K
          refine wpMix_skip (by kernel_rfl) (fun K hK => ?_)
          simp only [Act.put, List.setIfInBounds_toArray, List.set_cons_zero, List.set_cons_succ]
          refine hK _ ?_; clear hK K
          refine wpMix_skip (by kernel_rfl) (fun K hK => ?_)
          simp only [Act.put, List.setIfInBounds_toArray, List.set_cons_zero, List.set_cons_succ]
          refine hK _ ?_; clear hK K
          refine wpMix_skip (by kernel_rfl) (fun K hK => ?_)
          simp only [Act.put, List.setIfInBounds_toArray, List.set_cons_zero, List.set_cons_succ]
          refine hK _ ?_; clear hK K
          refine wpMix_skip (by kernel_rfl) (fun K hK => ?_)
          simp only [Act.put, List.setIfInBounds_toArray, List.set_cons_zero, List.set_cons_succ]
          refine hK _ ?_; clear hK K
          refine wpMix_skip (by kernel_rfl) (fun K hK => ?_)
          simp only [Act.put, List.setIfInBounds_toArray, List.set_cons_zero, List.set_cons_succ]
          refine hK _ ?_; clear hK K
          refine wpMix_skip (by kernel_rfl) (fun K hK => ?_)
          simp only [Act.put, List.setIfInBounds_toArray, List.set_cons_zero, List.set_cons_succ]
          refine hK _ ?_; clear hK K
          refine wpMix_skip (by kernel_rfl) (fun K hK => ?_)
          simp only [Act.put, List.setIfInBounds_toArray, List.set_cons_zero, List.set_cons_succ]
          refine hK _ ?_; clear hK K
          refine wpMix_skip (by kernel_rfl) (fun K hK => ?_)
          simp only [Act.put, List.setIfInBounds_toArray, List.set_cons_zero, List.set_cons_succ]
          refine hK _ ?_; clear hK K
          refine wpMix_skip (by kernel_rfl) (fun K hK => ?_)
          simp only [Act.put, List.setIfInBounds_toArray, List.set_cons_zero, List.set_cons_succ]
          refine hK _ ?_; clear hK K
          refine wpMix_skip (by kernel_rfl) (fun K hK => ?_)
          simp only [Act.put, List.setIfInBounds_toArray, List.set_cons_zero, List.set_cons_succ]
          refine hK _ ?_; clear hK K
          refine wpMix_skip (by kernel_rfl) (fun K hK => ?_)
          simp only [Act.put, List.setIfInBounds_toArray, List.set_cons_zero, List.set_cons_succ]
          refine hK _ ?_; clear hK K
          refine wpMix_skip (by kernel_rfl) (fun K hK => ?_)
          simp only [Act.put, List.setIfInBounds_toArray, List.set_cons_zero, List.set_cons_succ]
          refine hK _ ?_; clear hK K
          refine wpMix_skip (by kernel_rfl) (fun K hK => ?_)
          simp only [Act.put, List.setIfInBounds_toArray, List.set_cons_zero, List.set_cons_succ]
          refine hK _ ?_; clear hK K
          refine wpMix_pure (by kernel_rfl) (fun K hK => ?_); go_big_quiet_op; refine hK _ ?_; clear hK K
          refine wpMix_nil ?_
          go_wp2
          go_ret
          exact ⟨ret_bool (by rw [versB_bad hlt (by rw [verOk_zero hlt]; simp [*])]), hb.trans (hbr1S.mono hb.size)⟩
        · skip
          refine wpMix_pure (by kernel_rfl) (fun K hK => ?_); go_big_quiet_op; refine hK _ ?_; clear hK K
          refine wpMix_pure (by kernel_rfl) (fun K hK => ?_); go_big_quiet_op; refine hK _ ?_; clear hK K
          refine wpMix_pure (by kernel_rfl) (fun K hK => ?_); go_big_quiet_op; refine hK _ ?_; clear hK K
          refine wpMix_pure (by kernel_rfl) (fun K hK => ?_); go_big_quiet_op; refine hK _ ?_; clear hK K
          refine wpMix_pure (by kernel_rfl) (fun K hK => ?_); go_big_quiet_op; refine hK _ ?_; clear hK K
          refine wpMix_skip (by kernel_rfl) (fun K hK => ?_)
          simp only [Act.put, List.setIfInBounds_toArray, List.set_cons_zero, List.set_cons_succ]
          refine hK _ ?_; clear hK K
          refine wpMix_skip (by kernel_rfl) (fun K hK => ?_)
          simp only [Act.put, List.setIfInBounds_toArray, List.set_cons_zero, List.set_cons_succ]
          refine hK _ ?_; clear hK K
          refine wpMix_skip (by kernel_rfl) (fun K hK => ?_)
          simp only [Act.put, List.setIfInBounds_toArray, List.set_cons_zero, List.set_cons_succ]
          refine hK _ ?_; clear hK K
          refine wpMix_skip (by kernel_rfl) (fun K hK => ?_)
          simp only [Act.put, List.setIfInBounds_toArray, List.set_cons_zero, List.set_cons_succ]
          refine hK _ ?_; clear hK K
          refine wpMix_skip (by kernel_rfl) (fun K hK => ?_)
          simp only [Act.put, List.setIfInBounds_toArray, List.set_cons_zero, List.set_cons_succ]
          refine hK _ ?_; clear hK K
          refine wpMix_skip (by kernel_rfl) (fun K hK => ?_)
          simp only [Act.put, List.setIfInBounds_toArray, List.set_cons_zero, List.set_cons_succ]
          refine hK _ ?_; clear hK K
          refine wpMix_skip (by kernel_rfl) (fun K hK => ?_)
          simp only [Act.put, List.setIfInBounds_toArray, List.set_cons_zero, List.set_cons_succ]
          refine hK _ ?_; clear hK K
          refine wpMix_skip (by kernel_rfl) (fun K hK => ?_)
          simp only [Act.put, List.setIfInBounds_toArray, List.set_cons_zero, List.set_cons_succ]
          refine hK _ ?_; clear hK K
          refine wpMix_skip (by kernel_rfl) (fun K hK => ?_)
          simp only [Act.put, List.setIfInBounds_toArray, List.set_cons_zero, List.set_cons_succ]
          refine hK _ ?_; clear hK K
          refine wpMix_skip (by kernel_rfl) (fun K hK => ?_)
          simp only [Act.put, List.setIfInBounds_toArray, List.set_cons_zero, List.set_cons_succ]
          refine hK _ ?_; clear hK K
          refine wpMix_skip (by kernel_rfl) (fun K hK => ?_)
          simp only [Act.put, List.setIfInBounds_toArray, List.set_cons_zero, List.set_cons_succ]
          refine hK _ ?_; clear hK K
          refine wpMix_skip (by kernel_rfl) (fun K hK => ?_)
          simp only [Act.put, List.setIfInBounds_toArray, List.set_cons_zero, List.set_cons_succ]
          refine hK _ ?_; clear hK K
          refine wpMix_pure (by kernel_rfl) (fun K hK => ?_); go_big_quiet_op; refine hK _ ?_; clear hK K
          refine wpMix_pure (by kernel_rfl) (fun K hK => ?_); go_big_quiet_op; refine hK _ ?_; clear hK K
          refine wpMix_nil ?_
          go_wp2
          go_roundw
          case rel => exact ⟨0 + 1, by omega, by go_num, allIdx_step H0.out (by rw [verOk_zero hlt]; simp [*]), hb.trans (hbr1S.mono hb.size)⟩
          case measure => simp [intOf]; omega
      · obtain ⟨m, rfl⟩ : ∃ m, k = m + 1 := ⟨k - 1, by omega⟩
        have hm : m < xs.length := by omega
        obtain ⟨b, off, rfl, _, hok, hp⟩ := PVerified.elem (hx.below' hb) hlt
        have c0 := hp.c0
        have hplt := hp.lt
        obtain ⟨b1, off1, hA1, _, hokm, hpm⟩ := PVerified.elem (hx.below' hb) hm
        injection hA1 with hA1
        injection hA1 with hA1 hA2 _
        subst hA1 hA2
        have d0 := hpm.c0
        clear hpm
        go_wp2
        have gc0 := cell_regrown c0
        have gd0 := cell_regrown d0
        refine wp_region_mix (C := fun w' => ∃ p : Regrown, w' = Go.Sort.grow (redrawn wr p.d) p.os) [true, true, true, false, true, true, true, true, true, true, true, true, true, true, true, true, true, true, true, true, true, true, true] (by kernel_rfl) (by kernel_rfl) (by kernel_rfl) (fun _ _ d _ _ h => by cases d <;> exact h) (regrown_of_below (Below.drew (Below.refl _ _))) ?_
        have hS0 : Below (wr.heap.size) wr wr.drew := Below.drew (Below.refl _ _)
        refine wpMix_pure (by kernel_rfl) (fun K hK => ?_); go_big_quiet_op; refine hK _ ?_; clear hK K
        refine wpMix_pure (by kernel_rfl) (fun K hK => ?_); go_big_quiet_op; refine hK _ ?_; clear hK K
        refine wpMix_pure (by kernel_rfl) (fun K hK => ?_); go_big_quiet_op; refine hK _ ?_; clear hK K
        refine wpMix_act (by kernel_rfl) (fun K hK => ?_)
        go_big_op
        refine (l20One_any _ _ _ _ (hp.below hS0 hplt) hok).mono ?_
        rintro e wr1 ⟨rfl, hbr1⟩
        have hbr1S : Below (wr.heap.size) wr wr1 := hS0.trans (hbr1.mono hS0.size)
        refine hK _ _ (regrown_of_below hbr1S) ?_
        clear hK K
        cases hq3 : verB xs[m + 1]
        · skip
          refine wpMix_pure (by kernel_rfl) (fun K hK => ?_); go_big_quiet_op; refine hK _ ?_; clear hK K
          refine wpMix_pure (by kernel_rfl) (fun K hK => ?_); go_big_quiet_op; refine hK _ ?_; clear hK K
          refine wpMix_skip (by kernel_rfl) (fun K hK => ?_)
          simp only [Act.put, List.setIfInBounds_toArray, List.set_cons_zero, List.set_cons_succ]
          refine hK _ ?_; clear hK K
          refine wpMix_skip (by kernel_rfl) (fun K hK => ?_)
          simp only [Act.put, List.setIfInBounds_toArray, List.set_cons_zero, List.set_cons_succ]
          refine hK _ ?_; clear hK K
          refine wpMix_skip (by kernel_rfl) (fun K hK => ?_)
          simp only [Act.put, List.setIfInBounds_toArray, List.set_cons_zero, List.set_cons_succ]
          refine hK _ ?_; clear hK K
          refine wpMix_skip (by kernel_rfl) (fun K hK => ?_)
          simp only [Act.put, List.setIfInBounds_toArray, List.set_cons_zero, List.set_cons_succ]
          refine hK _ ?_; clear hK K
          refine wpMix_skip (by kernel_rfl) (fun K hK => ?_)
          simp only [Act.put, List.setIfInBounds_toArray, List.set_cons_zero, List.set_cons_succ]
          refine hK _ ?_; clear hK K
          refine wpMix_skip (by kernel_rfl) (fun K hK => ?_)
          simp only [Act.put, List.setIfInBounds_toArray, List.set_cons_zero, List.set_cons_succ]
          refine hK _ ?_; clear hK K
          refine wpMix_skip (by kernel_rfl) (fun K hK => ?_)
          simp only [Act.put, List.setIfInBounds_toArray, List.set_cons_zero, List.set_cons_succ]
          refine hK _ ?_; clear hK K
          refine wpMix_skip (by kernel_rfl) (fun K hK => ?_)
          simp only [Act.put, List.setIfInBounds_toArray, List.set_cons_zero, List.set_cons_succ]
          refine hK _ ?_; clear hK K
          refine wpMix_skip (by kernel_rfl) (fun K hK => ?_)
          simp only [Act.put, List.setIfInBounds_toArray, List.set_cons_zero, List.set_cons_succ]
          refine hK _ ?_; clear hK K
          refine wpMix_skip (by kernel_rfl) (fun K hK => ?_)
          simp only [Act.put, List.setIfInBounds_toArray, List.set_cons_zero, List.set_cons_succ]
          refine hK _ ?_; clear hK K
          refine wpMix_skip (by kernel_rfl) (fun K hK => ?_)
          simp only [Act.put, List.setIfInBounds_toArray, List.set_cons_zero, List.set_cons_succ]
          refine hK _ ?_; clear hK K
          refine wpMix_skip (by kernel_rfl) (fun K hK => ?_)
          simp only [Act.put, List.setIfInBounds_toArray, List.set_cons_zero, List.set_cons_succ]
          refine hK _ ?_; clear hK K
          refine wpMix_skip (by kernel_rfl) (fun K hK => ?_)
          simp only [Act.put, List.setIfInBounds_toArray, List.set_cons_zero, List.set_cons_succ]
          refine hK _ ?_; clear hK K
          refine wpMix_skip (by kernel_rfl) (fun K hK => ?_)
          simp only [Act.put, List.setIfInBounds_toArray, List.set_cons_zero, List.set_cons_succ]
          refine hK _ ?_; clear hK K
          refine wpMix_skip (by kernel_rfl) (fun K hK => ?_)
          simp only [Act.put, List.setIfInBounds_toArray, List.set_cons_zero, List.set_cons_succ]
          refine hK _ ?_; clear hK K
          refine wpMix_skip (by kernel_rfl) (fun K hK => ?_)
          simp only [Act.put, List.setIfInBounds_toArray, List.set_cons_zero, List.set_cons_succ]
          refine hK _ ?_; clear hK K
          refine wpMix_pure (by kernel_rfl) (fun K hK => ?_); go_big_quiet_op; refine hK _ ?_; clear hK K
          refine wpMix_nil ?_
          go_wp2
          go_ret
          exact ⟨ret_bool (by rw [versB_bad hlt (by rw [verOk_succ hlt]; simp [*])]), hb.trans (hbr1S.mono hb.size)⟩
        · skip
          refine wpMix_pure (by kernel_rfl) (fun K hK => ?_); go_big_quiet_op; refine hK _ ?_; clear hK K
          refine wpMix_pure (by kernel_rfl) (fun K hK => ?_); go_big_quiet_op; refine hK _ ?_; clear hK K
          refine wpMix_pure (by kernel_rfl) (fun K hK => ?_); go_big_quiet_op; refine hK _ ?_; clear hK K
          refine wpMix_pure (by kernel_rfl) (fun K hK => ?_); go_big_quiet_op; refine hK _ ?_; clear hK K
          refine wpMix_pure (by kernel_rfl) (fun K hK => ?_); go_big_quiet_op; refine hK _ ?_; clear hK K
          refine wpMix_pure (by kernel_rfl) (fun K hK => ?_); go_big_quiet_op; refine hK _ ?_; clear hK K
          refine wpMix_pure (by kernel_rfl) (fun K hK => ?_); go_big_quiet_op; refine hK _ ?_; clear hK K
          refine wpMix_pure (by kernel_rfl) (fun K hK => ?_); go_big_quiet_op; refine hK _ ?_; clear hK K
          refine wpMix_pure (by kernel_rfl) (fun K hK => ?_); go_big_quiet_op; refine hK _ ?_; clear hK K
          refine wpMix_pure (by kernel_rfl) (fun K hK => ?_); go_big_quiet_op; refine hK _ ?_; clear hK K
          refine wpMix_pure (by kernel_rfl) (fun K hK => ?_); go_big_quiet_op; refine hK _ ?_; clear hK K
          refine wpMix_pure (by kernel_rfl) (fun K hK => ?_); go_big_quiet_op; refine hK _ ?_; clear hK K
          refine wpMix_pure (by kernel_rfl) (fun K hK => ?_); go_big_quiet_op; refine hK _ ?_; clear hK K
          refine wpMix_pure (by kernel_rfl) (fun K hK => ?_); go_big_quiet_op; refine hK _ ?_; clear hK K
          refine wpMix_pure (by kernel_rfl) (fun K hK => ?_); go_big_quiet_op; refine hK _ ?_; clear hK K
          refine wpMix_pure (by kernel_rfl) (fun K hK => ?_); go_big_quiet_op; refine hK _ ?_; clear hK K
          by_cases hq20 : verBef xs[m] xs[m + 1] = true
          · skip
            have h20 := hq20
            unfold verBef at h20
            have e20 : decide (xs[m + 1].day ≤ xs[m].day) = false := by simp at h20 ⊢; omega
            clear h20
            refine wpMix_pure (by kernel_rfl) (fun K hK => ?_); go_big_quiet_op; refine hK _ ?_; clear hK K
            refine wpMix_pure (by kernel_rfl) (fun K hK => ?_); go_big_quiet_op; refine hK _ ?_; clear hK K
            refine wpMix_pure (by kernel_rfl) (fun K hK => ?_); go_big_quiet_op; refine hK _ ?_; clear hK K
            refine wpMix_nil ?_
            go_wp2
            go_roundw
            case rel => exact ⟨m + 1 + 1, by omega, by go_num, allIdx_step H0.out (by rw [verOk_succ hlt]; simp [*]), hb.trans (hbr1S.mono hb.size)⟩
            case measure => simp [intOf]; omega
          · skip
            have h20 := hq20
            unfold verBef at h20
            have e20 : decide (xs[m + 1].day ≤ xs[m].day) = true := by simp at h20 ⊢; omega
            clear h20
            refine wpMix_pure (by kernel_rfl) (fun K hK => ?_); go_big_quiet_op; refine hK _ ?_; clear hK K
            refine wpMix_pure (by kernel_rfl) (fun K hK => ?_); go_big_quiet_op; refine hK _ ?_; clear hK K
            refine wpMix_pure (by kernel_rfl) (fun K hK => ?_); go_big_quiet_op; refine hK _ ?_; clear hK K
            refine wpMix_nil ?_
            go_wp2
            go_ret
            exact ⟨ret_bool (by rw [versB_bad hlt (by rw [verOk_succ hlt]; simp [*])]), hb.trans (hbr1S.mono hb.size)⟩
    · have HF := Lib.hid (allIdx_full (by omega) hk H0.out)
      by_cases hle : xs.length ≤ 64
      all_goals
        go_wp2
        go_ret
        exact ⟨ret_bool (by unfold versB; rw [HF.out]; simp [hle] <;> omega), hb⟩
set_option maxRecDepth 100000 in
set_option maxHeartbeats 4000000 in
theorem ValidVerified_any (v : Value) (xs : List DVerified) (fp : List Nat) (w : World) (hx : Sl fVerified.cod w v xs fp) :
    Calls Tryz.prog 143 #[v] w fun e w' => e = .returned (.bool (versB xs)) ∧ Below w.heap.size w w' := by
  obtain ⟨A, cap, rfl, hlen, hcap⟩ := hx.form
  by_cases hle : xs.length ≤ 64
  · go_enter Tryz.func143, Tryz.ntmps143
    go_wp2
    go_loopw [10] (fun i wr => ∃ k : Nat, k ≤ xs.length ∧ i = .int .i64 k ∧ Hid (allIdx (verOk xs) k = true) ∧ Below w.heap.size w wr) (fun i _ => xs.length - (intOf i).toNat)
    case atStart => exact ⟨0, Nat.zero_le _, rfl, rfl, Below.refl _ _⟩
    case round =>
      obtain ⟨k, hk, rfl, H0, hb⟩ := hrel
      by_cases hlt : k < xs.length
      · rcases Nat.eq_zero_or_pos k with rfl | hpos
        · skip
          obtain ⟨b, off, rfl, _, hok, hp⟩ := PVerified.elem (hx.below' hb) hlt
          rw [Nat.zero_mul, Nat.add_zero] at hp
          obtain ⟨c0, c1, c2⟩ := id hp
          go_wp2
          refine at_world (fun W => Below wr.heap.size wr W ∧ PVerified W wr.heap.size 0 xs[0]) ⟨(Below.refl _ _).alloc (Nat.le_refl _) _, PVerified.box wr xs[0] _⟩ ?_
          clear c0 c1 c2
          rintro W ⟨hW, hpW⟩
          obtain ⟨c0, c1, c2⟩ := id hpW
          have gc0 := cell_regrown c0
          have gc1 := cell_regrown c1
          have gc2 := cell_regrown c2
          refine wp_region_mix (C := fun w' => ∃ p : Regrown, w' = Go.Sort.grow (redrawn W p.d) p.os) [true, false, true, true, true, true, true, true, true, true, true, true, true, true, true, true, true, true] (by kernel_rfl) (by kernel_rfl) (by kernel_rfl) (fun _ _ d _ _ h => by cases d <;> exact h) (regrown_of_below (Below.drew (Below.refl _ _))) ?_
          have hS0 : Below (W.heap.size) W W.drew := Below.drew (Below.refl _ _)
          refine wpMix_pure (by kernel_rfl) (fun K hK => ?_); go_big_quiet_op; refine hK _ ?_; clear hK K
          refine wpMix_act (by kernel_rfl) (fun K hK => ?_)
          go_big_op
          refine (validVerified_any xs[0] _ hok).mono ?_
          rintro e wr1 ⟨rfl, hbr1⟩
          have hbr1S : Below (W.heap.size) W wr1 := hS0.trans (hbr1.mono hS0.size)
          refine hK _ _ (regrown_of_below hbr1S) ?_
          clear hK K
          cases hq1 : verB xs[0]
          · skip
            refine wpMix_pure (by kernel_rfl) (fun K hK => ?_); go_big_quiet_op; refine hK _ ?_; clear hK K
            refine wpMix_pure (by kernel_rfl) (fun K hK => ?_); go_big_quiet_op; refine hK _ ?_; clear hK K
            refine wpMix_skip (by kernel_rfl) (fun K hK => ?_)
            simp only [Act.put, List.setIfInBounds_toArray, List.set_cons_zero, List.set_cons_succ]
            refine hK _ ?_; clear hK K
            refine wpMix_skip (by kernel_rfl) (fun K hK => ?_)
            simp only [Act.put, List.setIfInBounds_toArray, List.set_cons_zero, List.set_cons_succ]
            refine hK _ ?_; clear hK K
            refine wpMix_skip (by kernel_rfl) (fun K hK => ?_)
            simp only [Act.put, List.setIfInBounds_toArray, List.set_cons_zero, List.set_cons_succ]
            refine hK _ ?_; clear hK K
            refine wpMix_skip (by kernel_rfl) (fun K hK => ?_)
            simp only [Act.put, List.setIfInBounds_toArray, List.set_cons_zero, List.set_cons_succ]
            refine hK _ ?_; clear hK K
            refine wpMix_skip (by kernel_rfl) (fun K hK => ?_)
            simp only [Act.put, List.setIfInBounds_toArray, List.set_cons_zero, List.set_cons_succ]
            refine hK _ ?_; clear hK K
            refine wpMix_skip (by kernel_rfl) (fun K hK => ?_)
            simp only [Act.put, List.setIfInBounds_toArray, List.set_cons_zero, List.set_cons_succ]
            refine hK _ ?_; clear hK K
            refine wpMix_skip (by kernel_rfl) (fun K hK => ?_)
            simp only [Act.put, List.setIfInBounds_toArray, List.set_cons_zero, List.set_cons_succ]
            refine hK _ ?_; clear hK K
            refine wpMix_skip (by kernel_rfl) (fun K hK => ?_)
            simp only [Act.put, List.setIfInBounds_toArray, List.set_cons_zero, List.set_cons_succ]
            refine hK _ ?_; clear hK K
            refine wpMix_skip (by kernel_rfl) (fun K hK => ?_)
            simp only [Act.put, List.setIfInBounds_toArray, List.set_cons_zero, List.set_cons_succ]
            refine hK _ ?_; clear hK K
            refine wpMix_skip (by kernel_rfl) (fun K hK => ?_)
            simp only [Act.put, List.setIfInBounds_toArray, List.set_cons_zero, List.set_cons_succ]
            refine hK _ ?_; clear hK K
            refine wpMix_skip (by kernel_rfl) (fun K hK => ?_)
            simp only [Act.put, List.setIfInBounds_toArray, List.set_cons_zero, List.set_cons_succ]
            refine hK _ ?_; clear hK K
            refine wpMix_skip (by kernel_rfl) (fun K hK => ?_)
            simp only [Act.put, List.setIfInBounds_toArray, List.set_cons_zero, List.set_cons_succ]
            refine hK _ ?_; clear hK K
            refine wpMix_skip (by kernel_rfl) (fun K hK => ?_)
            simp only [Act.put, List.setIfInBounds_toArray, List.set_cons_zero, List.set_cons_succ]
            refine hK _ ?_; clear hK K
            refine wpMix_pure (by kernel_rfl) (fun K hK => ?_); go_big_quiet_op; refine hK _ ?_; clear hK K
            refine wpMix_nil ?_
            go_wp2
            go_ret
            exact ⟨ret_bool (by rw [versB_bad hlt (by rw [verOk_zero hlt]; simp [*])]), hb.trans (hW.trans (hbr1S.mono hW.size) |>.mono hb.size)⟩
          · skip
            refine wpMix_pure (by kernel_rfl) (fun K hK => ?_); go_big_quiet_op; refine hK _ ?_; clear hK K
            refine wpMix_pure (by kernel_rfl) (fun K hK => ?_); go_big_quiet_op; refine hK _ ?_; clear hK K
            refine wpMix_pure (by kernel_rfl) (fun K hK => ?_); go_big_quiet_op; refine hK _ ?_; clear hK K
            refine wpMix_pure (by kernel_rfl) (fun K hK => ?_); go_big_quiet_op; refine hK _ ?_; clear hK K
            refine wpMix_pure (by kernel_rfl) (fun K hK => ?_); go_big_quiet_op; refine hK _ ?_; clear hK K
            refine wpMix_skip (by kernel_rfl) (fun K hK => ?_)
            simp only [Act.put, List.setIfInBounds_toArray, List.set_cons_zero, List.set_cons_succ]
            refine hK _ ?_; clear hK K
            refine wpMix_skip (by kernel_rfl) (fun K hK => ?_)
            simp only [Act.put, List.setIfInBounds_toArray, List.set_cons_zero, List.set_cons_succ]
            refine hK _ ?_; clear hK K
            refine wpMix_skip (by kernel_rfl) (fun K hK => ?_)
            simp only [Act.put, List.setIfInBounds_toArray, List.set_cons_zero, List.set_cons_succ]
            refine hK _ ?_; clear hK K
            refine wpMix_skip (by kernel_rfl) (fun K hK => ?_)
            simp only [Act.put, List.setIfInBounds_toArray, List.set_cons_zero, List.set_cons_succ]
            refine hK _ ?_; clear hK K
            refine wpMix_skip (by kernel_rfl) (fun K hK => ?_)
            simp only [Act.put, List.setIfInBounds_toArray, List.set_cons_zero, List.set_cons_succ]
            refine hK _ ?_; clear hK K
            refine wpMix_skip (by kernel_rfl) (fun K hK => ?_)
            simp only [Act.put, List.setIfInBounds_toArray, List.set_cons_zero, List.set_cons_succ]
            refine hK _ ?_; clear hK K
            refine wpMix_skip (by kernel_rfl) (fun K hK => ?_)
            simp only [Act.put, List.setIfInBounds_toArray, List.set_cons_zero, List.set_cons_succ]
            refine hK _ ?_; clear hK K
            refine wpMix_skip (by kernel_rfl) (fun K hK => ?_)
            simp only [Act.put, List.setIfInBounds_toArray, List.set_cons_zero, List.set_cons_succ]
            refine hK _ ?_; clear hK K
            refine wpMix_skip (by kernel_rfl) (fun K hK => ?_)
            simp only [Act.put, List.setIfInBounds_toArray, List.set_cons_zero, List.set_cons_succ]
            refine hK _ ?_; clear hK K
            refine wpMix_pure (by kernel_rfl) (fun K hK => ?_); go_big_quiet_op; refine hK _ ?_; clear hK K
            refine wpMix_pure (by kernel_rfl) (fun K hK => ?_); go_big_quiet_op; refine hK _ ?_; clear hK K
            refine wpMix_nil ?_
            go_wp2
            go_roundw
            case rel => exact ⟨0 + 1, by omega, by go_num, allIdx_step H0.out (by rw [verOk_zero hlt]; simp [*]), hb.trans (hW.trans (hbr1S.mono hW.size) |>.mono hb.size)⟩
            case measure => simp [intOf]; omega
        · obtain ⟨m, rfl⟩ : ∃ m, k = m + 1 := ⟨k - 1, by omega⟩
          have hm : m < xs.length := by omega
          obtain ⟨b, off, rfl, _, hok, hp⟩ := PVerified.elem (hx.below' hb) hlt
          skip
          obtain ⟨c0, c1, c2⟩ := id hp
          obtain ⟨b1, off1, hA1, _, hokm, hpm⟩ := PVerified.elem (hx.below' hb) hm
          injection hA1 with hA1
          injection hA1 with hA1 hA2 _
          subst hA1 hA2
          have d0 := hpm.c0
          go_wp2
          refine at_world (fun W => Below wr.heap.size wr W ∧ PVerified W wr.heap.size 0 xs[m + 1] ∧ W.cell? ⟨b, off + m * 3, none⟩ = some (.int .i64 xs[m].day)) ⟨(Below.refl _ _).alloc (Nat.le_refl _) _, PVerified.box wr xs[m + 1] _, (((Below.refl _ _).alloc (Nat.le_refl _) _).cell (block_lt_of_cell d0)).trans d0⟩ ?_
          clear c0 c1 c2 d0 hpm
          rintro W ⟨hW, hpW, d0⟩
          obtain ⟨c0, c1, c2⟩ := id hpW
          have gc0 := cell_regrown c0
          have gc1 := cell_regrown c1
          have gc2 := cell_regrown c2
          have gd0 := cell_regrown d0
          refine wp_region_mix (C := fun w' => ∃ p : Regrown, w' = Go.Sort.grow (redrawn W p.d) p.os) [true, false, true, true, true, true, true, true, true, true, true, true, true, true, true, true, true, true] (by kernel_rfl) (by kernel_rfl) (by kernel_rfl) (fun _ _ d _ _ h => by cases d <;> exact h) (regrown_of_below (Below.drew (Below.refl _ _))) ?_
          have hS0 : Below (W.heap.size) W W.drew := Below.drew (Below.refl _ _)
          refine wpMix_pure (by kernel_rfl) (fun K hK => ?_); go_big_quiet_op; refine hK _ ?_; clear hK K
          refine wpMix_act (by kernel_rfl) (fun K hK => ?_)
          go_big_op
          refine (validVerified_any xs[m + 1] _ hok).mono ?_
          rintro e wr1 ⟨rfl, hbr1⟩
          have hbr1S : Below (W.heap.size) W wr1 := hS0.trans (hbr1.mono hS0.size)
          refine hK _ _ (regrown_of_below hbr1S) ?_
          clear hK K
          cases hq1 : verB xs[m + 1]
          · skip
            refine wpMix_pure (by kernel_rfl) (fun K hK => ?_); go_big_quiet_op; refine hK _ ?_; clear hK K
            refine wpMix_pure (by kernel_rfl) (fun K hK => ?_); go_big_quiet_op; refine hK _ ?_; clear hK K
            refine wpMix_skip (by kernel_rfl) (fun K hK => ?_)
            simp only [Act.put, List.setIfInBounds_toArray, List.set_cons_zero, List.set_cons_succ]
            refine hK _ ?_; clear hK K
            refine wpMix_skip (by kernel_rfl) (fun K hK => ?_)
            simp only [Act.put, List.setIfInBounds_toArray, List.set_cons_zero, List.set_cons_succ]
            refine hK _ ?_; clear hK K
            refine wpMix_skip (by kernel_rfl) (fun K hK => ?_)
            simp only [Act.put, List.setIfInBounds_toArray, List.set_cons_zero, List.set_cons_succ]
            refine hK _ ?_; clear hK K
            refine wpMix_skip (by kernel_rfl) (fun K hK => ?_)
            simp only [Act.put, List.setIfInBounds_toArray, List.set_cons_zero, List.set_cons_succ]
            refine hK _ ?_; clear hK K
            refine wpMix_skip (by kernel_rfl) (fun K hK => ?_)
            simp only [Act.put, List.setIfInBounds_toArray, List.set_cons_zero, List.set_cons_succ]
            refine hK _ ?_; clear hK K
            refine wpMix_skip (by kernel_rfl) (fun K hK => ?_)
            simp only [Act.put, List.setIfInBounds_toArray, List.set_cons_zero, List.set_cons_succ]
            refine hK _ ?_; clear hK K
            refine wpMix_skip (by kernel_rfl) (fun K hK => ?_)
            simp only [Act.put, List.setIfInBounds_toArray, List.set_cons_zero, List.set_cons_succ]
            refine hK _ ?_; clear hK K
            refine wpMix_skip (by kernel_rfl) (fun K hK => ?_)
            simp only [Act.put, List.setIfInBounds_toArray, List.set_cons_zero, List.set_cons_succ]
            refine hK _ ?_; clear hK K
            refine wpMix_skip (by kernel_rfl) (fun K hK => ?_)
            simp only [Act.put, List.setIfInBounds_toArray, List.set_cons_zero, List.set_cons_succ]
            refine hK _ ?_; clear hK K
            refine wpMix_skip (by kernel_rfl) (fun K hK => ?_)
            simp only [Act.put, List.setIfInBounds_toArray, List.set_cons_zero, List.set_cons_succ]
            refine hK _ ?_; clear hK K
            refine wpMix_skip (by kernel_rfl) (fun K hK => ?_)
            simp only [Act.put, List.setIfInBounds_toArray, List.set_cons_zero, List.set_cons_succ]
            refine hK _ ?_; clear hK K
            refine wpMix_skip (by kernel_rfl) (fun K hK => ?_)
            simp only [Act.put, List.setIfInBounds_toArray, List.set_cons_zero, List.set_cons_succ]
            refine hK _ ?_; clear hK K
            refine wpMix_skip (by kernel_rfl) (fun K hK => ?_)
            simp only [Act.put, List.setIfInBounds_toArray, List.set_cons_zero, List.set_cons_succ]
            refine hK _ ?_; clear hK K
            refine wpMix_pure (by kernel_rfl) (fun K hK => ?_); go_big_quiet_op; refine hK _ ?_; clear hK K
            refine wpMix_nil ?_
            go_wp2
            go_ret
            exact ⟨ret_bool (by rw [versB_bad hlt (by rw [verOk_succ hlt]; simp [*])]), hb.trans (hW.trans (hbr1S.mono hW.size) |>.mono hb.size)⟩
          · skip
            refine wpMix_pure (by kernel_rfl) (fun K hK => ?_); go_big_quiet_op; refine hK _ ?_; clear hK K
            refine wpMix_pure (by kernel_rfl) (fun K hK => ?_); go_big_quiet_op; refine hK _ ?_; clear hK K
            refine wpMix_pure (by kernel_rfl) (fun K hK => ?_); go_big_quiet_op; refine hK _ ?_; clear hK K
            refine wpMix_pure (by kernel_rfl) (fun K hK => ?_); go_big_quiet_op; refine hK _ ?_; clear hK K
            refine wpMix_pure (by kernel_rfl) (fun K hK => ?_); go_big_quiet_op; refine hK _ ?_; clear hK K
            refine wpMix_pure (by kernel_rfl) (fun K hK => ?_); go_big_quiet_op; refine hK _ ?_; clear hK K
            refine wpMix_pure (by kernel_rfl) (fun K hK => ?_); go_big_quiet_op; refine hK _ ?_; clear hK K
            refine wpMix_pure (by kernel_rfl) (fun K hK => ?_); go_big_quiet_op; refine hK _ ?_; clear hK K
            refine wpMix_pure (by kernel_rfl) (fun K hK => ?_); go_big_quiet_op; refine hK _ ?_; clear hK K
            refine wpMix_pure (by kernel_rfl) (fun K hK => ?_); go_big_quiet_op; refine hK _ ?_; clear hK K
            refine wpMix_pure (by kernel_rfl) (fun K hK => ?_); go_big_quiet_op; refine hK _ ?_; clear hK K
            refine wpMix_pure (by kernel_rfl) (fun K hK => ?_); go_big_quiet_op; refine hK _ ?_; clear hK K
            refine wpMix_pure (by kernel_rfl) (fun K hK => ?_); go_big_quiet_op; refine hK _ ?_; clear hK K
            by_cases hq15 : verBef xs[m] xs[m + 1] = true
            · skip
              have h20 := hq15
              unfold verBef at h20
              have e20 : decide (xs[m + 1].day ≤ xs[m].day) = false := by simp at h20 ⊢; omega
              clear h20
              refine wpMix_pure (by kernel_rfl) (fun K hK => ?_); go_big_quiet_op; refine hK _ ?_; clear hK K
              refine wpMix_pure (by kernel_rfl) (fun K hK => ?_); go_big_quiet_op; refine hK _ ?_; clear hK K
              refine wpMix_pure (by kernel_rfl) (fun K hK => ?_); go_big_quiet_op; refine hK _ ?_; clear hK K
              refine wpMix_nil ?_
              go_wp2
              go_roundw
              case rel => exact ⟨m + 1 + 1, by omega, by go_num, allIdx_step H0.out (by rw [verOk_succ hlt]; simp [*]), hb.trans (hW.trans (hbr1S.mono hW.size) |>.mono hb.size)⟩
              case measure => simp [intOf]; omega
            · skip
              have h20 := hq15
              unfold verBef at h20
              have e20 : decide (xs[m + 1].day ≤ xs[m].day) = true := by simp at h20 ⊢; omega
              clear h20
              refine wpMix_pure (by kernel_rfl) (fun K hK => ?_); go_big_quiet_op; refine hK _ ?_; clear hK K
              refine wpMix_pure (by kernel_rfl) (fun K hK => ?_); go_big_quiet_op; refine hK _ ?_; clear hK K
              refine wpMix_pure (by kernel_rfl) (fun K hK => ?_); go_big_quiet_op; refine hK _ ?_; clear hK K
              refine wpMix_nil ?_
              go_wp2
              go_ret
              exact ⟨ret_bool (by rw [versB_bad hlt (by rw [verOk_succ hlt]; simp [*])]), hb.trans (hW.trans (hbr1S.mono hW.size) |>.mono hb.size)⟩
      · have HF := Lib.hid (allIdx_full (by omega) hk H0.out)
        go_wp2
        go_ret
        exact ⟨ret_bool (by unfold versB; rw [HF.out]; simp [hle]), hb⟩
  · go_enter Tryz.func143, Tryz.ntmps143
    go_wp2
    go_ret
    exact ⟨ret_bool (by unfold versB; simp <;> omega), Below.refl _ _⟩

def shot0 : DShot := ⟨⟨#[]⟩, 0, 0, 0, 0⟩
def shotBef (a b : DShot) : Bool := ltS a.id b.id

def shotOk (xs : List DShot) (i : Nat) : Bool := shotB (xs.getD i shot0) && (decide (i = 0) || shotBef (xs.getD (i - 1) shot0) (xs.getD i shot0))
def shotsB (xs : List DShot) : Bool := allIdx (shotOk xs) xs.length && decide (xs.length ≤ 8)
theorem shotOk_zero {xs : List DShot} (h : 0 < xs.length) : shotOk xs 0 = shotB xs[0] := by simp [shotOk, h]
theorem shotOk_succ {xs : List DShot} {m : Nat} (h : m + 1 < xs.length) : shotOk xs (m + 1) = (shotB xs[m + 1] && shotBef xs[m] xs[m + 1]) := by
  have h1 : m < xs.length := by omega
  simp [shotOk, h, h1]
theorem shotsB_bad {xs : List DShot} {k : Nat} (h : k < xs.length) (h1 : shotOk xs k = false) : shotsB xs = false := by
  unfold shotsB; rw [allIdx_bad h h1]; rfl
theorem shotsB_len {xs : List DShot} (h : shotsB xs = true) : xs.length ≤ 8 := by
  unfold shotsB at h; simp at h; exact h.2
theorem shotsB_one {xs : List DShot} (h : shotsB xs = true) {k : Nat} (hk : k < xs.length) : shotB xs[k] = true := by
  unfold shotsB at h
  rw [Bool.and_eq_true] at h
  have := allIdx_true.1 h.1 k hk
  unfold shotOk at this
  rw [Bool.and_eq_true] at this
  simpa [hk] using this.1
theorem shotsB_two {xs : List DShot} (h : shotsB xs = true) {m : Nat} (hm : m + 1 < xs.length) : shotBef xs[m] xs[m + 1] = true := by
  unfold shotsB at h
  rw [Bool.and_eq_true] at h
  have := allIdx_true.1 h.1 (m + 1) hm
  rw [shotOk_succ hm, Bool.and_eq_true] at this
  exact this.2
end Go.Proofs.YtfgmikgghpflbaaGreatDoor

namespace Go.Proofs.YtfgmikgghpflbaaGreatDoor
open Go.RowKit
set_option linter.unusedVariables false

def cmT (a b : ByteArray) : Int := if ltS a b then -1 else if ltS b a then 1 else 0
theorem cmT_zero {a b : ByteArray} : cmT a b = 0 ↔ a = b := by
  unfold cmT
  constructor
  · intro h
    cases h1 : ltS a b with
    | true => rw [h1] at h; simp at h
    | false =>
      cases h2 : ltS b a with
      | true => rw [h1, h2] at h; simp at h
      | false => exact ltS_tri h1 h2
  · rintro rfl; simp [ltS_irrefl]
theorem cmT_lt {a b : ByteArray} : cmT a b < 0 ↔ ltS a b = true := by
  unfold cmT
  cases h1 : ltS a b with
  | true => simp
  | false => cases h2 : ltS b a <;> simp
theorem cmT_bounds (a b : ByteArray) : -1 ≤ cmT a b ∧ cmT a b ≤ 1 := by
  unfold cmT
  cases ltS a b <;> cases ltS b a <;> simp
def cmI (a b : Int) : Int := if a < b then -1 else if b < a then 1 else 0
theorem cmI_zero {a b : Int} : cmI a b = 0 ↔ a = b := by
  unfold cmI
  split
  · constructor
    · intro h; cases h
    · intro h; omega
  · split
    · constructor
      · intro h; cases h
      · intro h; omega
    · constructor
      · intro _; omega
      · intro _; rfl
theorem cmI_lt {a b : Int} : cmI a b < 0 ↔ a < b := by
  unfold cmI
  split
  · rename_i h; simp [h]
  · rename_i h
    split <;> simp <;> omega
theorem cmI_bounds (a b : Int) : -1 ≤ cmI a b ∧ cmI a b ≤ 1 := by
  unfold cmI
  (repeat' split) <;> simp
set_option maxRecDepth 100000 in
set_option maxHeartbeats 400000 in
theorem isNaNT_any (a : ByteArray) (w : World) : Calls Tryz.prog 231 #[.string a] w fun e w' => e = .returned (.bool false) ∧ w = w' := by
  have e1 : (a.toList == a.toList) = true := by simp
  go_enter Tryz.func231, Tryz.ntmps231
  go_wp2
  go_ret
  exact ⟨rfl, rfl⟩
set_option maxRecDepth 100000 in
set_option maxHeartbeats 1000000 in
theorem compareT_any (a b : ByteArray) (w : World) : Calls Tryz.prog 197 #[.string a, .string b] w fun e w' => e = .returned (.int .i64 (cmT a b)) ∧ w = w' := by
  cases h1 : ltS a b
  · have e1 : Op.bytesLess a.toList b.toList = false := h1
    cases h2 : ltS b a
    · have e2 : (Op.bytesLess a.toList b.toList || a.toList == b.toList) = true := by rw [leS_eq, h2]; rfl
      have e3 : (a.toList == b.toList) = true := eqS_true.2 (ltS_tri h1 h2)
      go_enter Tryz.func197, Tryz.ntmps197
      go_wp2_with (go_at_call 231; refine (isNaNT_any _ _).mono ?_; rintro e w' ⟨rfl, rfl⟩)
      go_ret
      exact ⟨ret_int (by unfold cmT; rw [h1, h2]; rfl), rfl⟩
    · have e2 : (Op.bytesLess a.toList b.toList || a.toList == b.toList) = false := by rw [leS_eq, h2]; rfl
      have e3 : (a.toList == b.toList) = false := bytes_beq_false (fun e => by subst e; rw [ltS_irrefl] at h2; cases h2)
      go_enter Tryz.func197, Tryz.ntmps197
      go_wp2_with (go_at_call 231; refine (isNaNT_any _ _).mono ?_; rintro e w' ⟨rfl, rfl⟩)
      go_ret
      exact ⟨ret_int (by unfold cmT; rw [h1, h2]; rfl), rfl⟩
  · have e1 : Op.bytesLess a.toList b.toList = true := h1
    go_enter Tryz.func197, Tryz.ntmps197
    go_wp2_with (go_at_call 231; refine (isNaNT_any _ _).mono ?_; rintro e w' ⟨rfl, rfl⟩)
    go_ret
    exact ⟨ret_int (by unfold cmT; rw [h1]; rfl), rfl⟩
set_option maxRecDepth 100000 in
set_option maxHeartbeats 400000 in
theorem isNaNI_any (a : Int) (w : World) : Calls Tryz.prog 203 #[.int .i64 a] w fun e w' => e = .returned (.bool false) ∧ w = w' := by
  go_enter Tryz.func203, Tryz.ntmps203
  go_wp2
  go_ret
  exact ⟨rfl, rfl⟩
set_option maxRecDepth 100000 in
set_option maxHeartbeats 1000000 in
theorem compareI_any (a b : Int) (w : World) : Calls Tryz.prog 156 #[.int .i64 a, .int .i64 b] w fun e w' => e = .returned (.int .i64 (cmI a b)) ∧ w = w' := by
  by_cases h1 : a < b
  · go_enter Tryz.func156, Tryz.ntmps156
    go_wp2_with (go_at_call 203; refine (isNaNI_any _ _).mono ?_; rintro e w' ⟨rfl, rfl⟩)
    go_ret
    exact ⟨ret_int (by unfold cmI; rw [if_pos h1]), rfl⟩
  · by_cases h2 : b < a
    · go_enter Tryz.func156, Tryz.ntmps156
      go_wp2_with (go_at_call 203; refine (isNaNI_any _ _).mono ?_; rintro e w' ⟨rfl, rfl⟩)
      go_ret
      exact ⟨ret_int (by unfold cmI; rw [if_neg (Int.not_lt.2 h1), if_pos h2]), rfl⟩
    · go_enter Tryz.func156, Tryz.ntmps156
      go_wp2_with (go_at_call 203; refine (isNaNI_any _ _).mono ?_; rintro e w' ⟨rfl, rfl⟩)
      go_ret
      exact ⟨ret_int (by unfold cmI; rw [if_neg (Int.not_lt.2 h1), if_neg (Int.not_lt.2 h2)]), rfl⟩
def orI : List Int → Int
  | [] => 0
  | x :: xs => if x = 0 then orI xs else x
theorem orI_cons (x : Int) (xs : List Int) : orI (x :: xs) = if x = 0 then orI xs else x := rfl
theorem orI_two (a b : Int) : orI [a, b] = if a = 0 then b else a := by
  unfold orI; split
  · unfold orI orI; split <;> simp_all
  · rfl
set_option maxRecDepth 100000 in
set_option maxHeartbeats 1000000 in
theorem orJ_any (v : Value) (xs : List Int) (fp : List Nat) (w : World) (hx : Sl fInt.cod w v xs fp) :
    Calls Tryz.prog 176 #[v] w fun e w' => e = .returned (.int .i64 (orI xs)) ∧ w = w' := by
  obtain ⟨A, cap, rfl, hlen, hcap⟩ := hx.form
  go_enter Tryz.func176, Tryz.ntmps176
  go_wp2
  go_loop [8] (fun i => ∃ k : Nat, k ≤ xs.length ∧ i = .int .i64 k ∧ Hid (orI xs = orI (xs.drop k))) (fun i => xs.length - (intOf i).toNat)
  case atStart => exact ⟨0, Nat.zero_le _, rfl, rfl⟩
  case round =>
    obtain ⟨k, hk, rfl, H0⟩ := hrel
    by_cases hlt : k < xs.length
    · obtain ⟨b, off, rfl, _, hok, hc, _⟩ := hx.cell1 rfl hlt rfl
      have hd : xs.drop k = xs[k] :: xs.drop (k + 1) := List.drop_eq_getElem_cons hlt
      by_cases hz : xs[k] = 0
      · have HN : Hid (orI xs = orI (xs.drop (k + 1))) := by show _ = _; rw [H0.out, hd, orI_cons, if_pos hz]
        have e1 : (xs[k] == 0) = true := by simpa using hz
        have e2 : (xs[k] != 0) = false := by simpa using hz
        clear hd hz H0
        go_wp2
        go_round
        case rel => exact ⟨k + 1, by omega, by go_num, HN⟩
        case measure => simp [intOf]; omega
      · have HN : Hid (orI xs = xs[k]) := by show _ = _; rw [H0.out, hd, orI_cons, if_neg hz]
        have e1 : (xs[k] == 0) = false := by simpa using hz
        have e2 : (xs[k] != 0) = true := by simpa using hz
        clear hd hz H0
        go_wp2
        go_ret
        exact ⟨ret_int HN.out.symm, rfl⟩
    · have HN : Hid (orI xs = 0) := by show _ = _; rw [H0.out, List.drop_of_length_le (by omega)]; rfl
      clear H0
      go_wp2
      go_ret
      exact ⟨ret_int HN.out.symm, rfl⟩
theorem orI_three (a b c : Int) : orI [a, b, c] = if a = 0 then (if b = 0 then c else b) else a := by
  rw [orI_cons]
  split
  · exact orI_two b c
  · rfl
theorem cmT_ok (a b : ByteArray) : fInt.ok (cmT a b) := by
  have := cmT_bounds a b
  show _ ∧ _
  omega
theorem cmI_ok (a b : Int) : fInt.ok (cmI a b) := by
  have := cmI_bounds a b
  show _ ∧ _
  omega
end Go.Proofs.YtfgmikgghpflbaaGreatDoor

namespace Go.Proofs.YtfgmikgghpflbaaGreatDoor
open Go.RowKit
set_option linter.unusedVariables false

/-- A row of the call's own that holds the list. -/
def OwnK {α : Type} (E : Flat α) (T : TypeId) (w : World) (xs : List α) (e : Ending) (w' : World) : Prop := ∃ v, e = .returned v ∧ Own E w' w.heap.size T v xs ∧ Below w.heap.size w w'
theorem rowp_ {cur A B : List Value} {n p j : Nat} {u : Value} (hct : cur.take n = A ++ B) (hA : A.length = p) (hu : B[j]? = some u) : cur[p + j]? = some u := by
  have hj : p + j < n := by
    have h1 : (A ++ B).length ≤ n := by rw [← hct, List.length_take]; omega
    rw [List.length_append] at h1
    have h2 : j < B.length := by
      rcases Nat.lt_or_ge j B.length with h | h
      · exact h
      · rw [List.getElem?_eq_none h] at hu; cases hu
    omega
  have h := congrArg (fun l : List Value => l[p + j]?) hct
  simp only [List.getElem?_take, if_pos hj] at h
  rw [h, List.getElem?_append_right (by omega), hA, Nat.add_sub_cancel_left]
  exact hu
theorem arr3_ (A : List Value) (X Y : Array Value) : (A ++ (X.toList ++ Y.toList)).toArray = A.toArray ++ X ++ Y := by
  apply Array.ext'; simp
theorem rowh_ {cur A B : List Value} {n j : Nat} {u : Value} (hct : cur.take n = A ++ B) (hu : A[j]? = some u) : cur[j]? = some u := by
  have h2 : j < A.length := by
    rcases Nat.lt_or_ge j A.length with h | h
    · exact h
    · rw [List.getElem?_eq_none h] at hu; cases hu
  have hj : j < n := by
    have h1 : (A ++ B).length ≤ n := by rw [← hct, List.length_take]; omega
    rw [List.length_append] at h1
    omega
  have h := congrArg (fun l : List Value => l[j]?) hct
  simp only [List.getElem?_take, if_pos hj] at h
  rw [h, List.getElem?_append_left h2]
  exact hu
theorem ownM_ {w : World} {base base' : Nat} {e : TypeId} {size : Nat} {v : Value} {n : Nat} {xs : List Value} (h : w.ownsRow base e size v n xs) (hb : base' ≤ base) : w.ownsRow base' e size v n xs := by
  obtain ⟨h1, h2⟩ := h
  refine ⟨h1, ?_⟩
  rcases h2 with h2 | ⟨g, cap, cur, hv, hg, r⟩
  · exact .inl h2
  · exact .inr ⟨g, cap, cur, hv, by omega, r⟩
theorem ownO_ {w : World} {base : Nat} {e : TypeId} {size : Nat} {v : Value} {n : Nat} {xs : List Value} (h : w.ownsRow base e size v n xs) (hn : 0 < n) :
    ∃ g cap, v = .slice (some ⟨g, 0, none⟩) n cap ∧ base ≤ g ∧ g < w.heap.size ∧ n ≤ cap ∧ cap ≤ 9223372036854775807 := by
  obtain ⟨h1, h2⟩ := h
  rcases h2 with ⟨_, h0⟩ | ⟨g, cap, cur, hv, hg, hh, hnc, hcm, _, _⟩
  · omega
  · refine ⟨g, cap, hv, hg, ?_, hnc, by unfold maxLen at hcm; exact hcm⟩
    rcases Nat.lt_or_ge g w.heap.size with hlt | hge
    · exact hlt
    · rw [Array.getElem?_eq_none hge] at hh; cases hh
/-- How many stand ahead. -/
def posF {α : Type} (p : α → Bool) (xs : List α) : Nat := (xs.takeWhile p).length
theorem posF_is {α : Type} (p : α → Bool) (xs : List α) (k : Nat) (hk : k ≤ xs.length) (h1 : ∀ m (h : m < xs.length), m < k → p xs[m] = true) (h2 : ∀ h : k < xs.length, p xs[k] = false) : posF p xs = k := by
  unfold posF
  induction xs generalizing k with
  | nil => simp at hk; subst hk; rfl
  | cons x xs ih =>
    cases k with
    | zero =>
      have := h2 (by simp)
      rw [List.takeWhile_cons, show p x = false from this]; rfl
    | succ k =>
      have h3 : p x = true := h1 0 (by simp) (by omega)
      rw [List.takeWhile_cons, h3, if_pos rfl, List.length_cons]
      congr 1
      refine ih k (by simpa using hk) (fun m h hm => ?_) (fun h => ?_)
      · have := h1 (m + 1) (by simpa using h) (by omega); simpa using this
      · have := h2 (by simpa using h); simpa using this
theorem posF_le {α : Type} (p : α → Bool) (xs : List α) : posF p xs ≤ xs.length := by
  unfold posF
  exact (List.takeWhile_prefix p).length_le
end Go.Proofs.YtfgmikgghpflbaaGreatDoor

namespace Go.Proofs.YtfgmikgghpflbaaGreatDoor
open Go.RowKit
set_option linter.unusedVariables false

set_option maxRecDepth 100000 in
set_option maxHeartbeats 1000000 in
theorem hourBefore_any (x : DObserved) (h : Int) (w : World) :
    Calls Tryz.prog 118 #[.agg #[.int .i64 x.hour, .int .i64 x.snow, .int .i64 x.degrees, .int .i64 x.wind], .int .i64 h] w fun e w' => e = .returned (.int .i64 (cmI x.hour h)) ∧ Below w.heap.size w w' := by
  go_enter Tryz.func118, Tryz.ntmps118
  go_wp2_with fail
  refine (compareI_any _ _ _).mono ?_
  rintro e w' ⟨rfl, rfl⟩
  go_wp2
  go_ret
  exact ⟨rfl, (Below.refl _ _).alloc (Nat.le_refl _) _⟩
def atObserved (xs : List DObserved) (t : Int) : Nat := posF (fun y => decide (cmI y.hour t < 0)) xs
def hasObserved (xs : List DObserved) (t : Int) : Bool := match xs[atObserved xs t]? with | some y => cmI y.hour t == 0 | none => false
set_option maxRecDepth 100000 in
set_option maxHeartbeats 4000000 in
theorem bsearchObserved_any (v : Value) (xs : List DObserved) (fp : List Nat) (t : Int) (w : World) (hx : Sl fObserved.cod w v xs fp) (hor : ∀ (a b : Nat) (hab : a ≤ b) (hb : b < xs.length), cmI xs[b].hour t < 0 → cmI (xs[a]'(by omega)).hour t < 0) (hl : xs.length ≤ 1000000) :
    Calls Tryz.prog 117 #[v, .int .i64 t, .func (.func 118) #[] #[]] w fun e w' => e = .returned (.tuple #[.int .i64 (atObserved xs t), .bool (hasObserved xs t)]) ∧ Below w.heap.size w w' := by
  obtain ⟨A, cap, rfl, hlen, hcap⟩ := hx.form
  go_enter Tryz.func117, Tryz.ntmps117
  go_wp2
  go_loopw [9, 10] (fun i j wr => ∃ a b : Nat, a ≤ b ∧ b ≤ xs.length ∧ i = .int .i64 a ∧ j = .int .i64 b ∧ Hid (∀ m (h : m < xs.length), m < a → cmI xs[m].hour t < 0) ∧ Hid (∀ m (h : m < xs.length), b ≤ m → 0 ≤ cmI xs[m].hour t) ∧ Below w.heap.size w wr) (fun i j _ => (intOf j).toNat - (intOf i).toNat)
  case atStart => exact ⟨0, xs.length, Nat.zero_le _, Nat.le_refl _, rfl, rfl, fun m _ h => absurd h (Nat.not_lt_zero _), fun m h1 h2 => absurd h1 (by omega), Below.refl _ _⟩
  case round =>
    obtain ⟨a, b, hab, hbn, rfl, rfl, HA, HB, hb⟩ := hrel
    skip
    by_cases hlt : a < b
    · obtain ⟨m, hm⟩ : ∃ m, m = (a + b) / 2 := ⟨_, rfl⟩
      have em : ((a : Int) + (b : Int)) / 2 = (m : Int) := by omega
      have hmn : m < xs.length := by omega
      have hmb : m < b := by omega
      have ham : a ≤ m := by omega
      clear hm
      obtain ⟨b1, off, rfl, _, hok, hpm⟩ := PObserved.elem (hx.below' hb) hmn
      obtain ⟨c0, c1, c2, c3⟩ := id hpm
      by_cases hq : cmI xs[m].hour t < 0
      · have e14 : decide (cmI xs[m].hour t < 0) = true := decide_eq_true hq
        go_wp2_with fail
        refine (hourBefore_any _ _ _ ).mono ?_
        rintro e w3 ⟨rfl, hb3⟩
        have HA2 : Hid (∀ i (h : i < xs.length), i < m + 1 → cmI xs[i].hour t < 0) := fun i h him => hor i m (by omega) hmn hq
        clear HA hq
        go_wp2
        go_roundw
        case rel => exact ⟨m + 1, b, by omega, hbn, by go_num, rfl, HA2, HB, hb.trans (hb3.mono hb.size)⟩
        case measure => simp [intOf]; omega
      · have e14 : decide (cmI xs[m].hour t < 0) = false := decide_eq_false hq
        go_wp2_with fail
        refine (hourBefore_any _ _ _ ).mono ?_
        rintro e w3 ⟨rfl, hb3⟩
        have HB2 : Hid (∀ i (h : i < xs.length), m ≤ i → 0 ≤ cmI xs[i].hour t) := fun i h him => by rcases Int.lt_or_le (cmI xs[i].hour t) 0 with hc | hc; exact absurd (hor m i him h hc) (by omega); exact hc
        clear HB hq
        go_wp2
        go_roundw
        case rel => exact ⟨a, m, ham, by omega, rfl, by go_num, HA, HB2, hb.trans (hb3.mono hb.size)⟩
        case measure => simp [intOf]; omega
    · obtain rfl : b = a := by omega
      have HAT : Hid (atObserved xs t = b) := posF_is _ xs b hbn (fun m h1 h2 => decide_eq_true (HA.out m h1 h2)) (fun h => decide_eq_false (by have := HB.out b h (Nat.le_refl _); omega))
      by_cases hlt2 : b < xs.length
      · obtain ⟨b1, off, rfl, _, hok, hpm⟩ := PObserved.elem (hx.below' hb) hlt2
        obtain ⟨c0, c1, c2, c3⟩ := id hpm
        have HK : Hid (hasObserved xs t = (cmI xs[b].hour t == 0)) := by
          show hasObserved xs t = _
          unfold hasObserved
          rw [HAT.out, List.getElem?_eq_getElem hlt2]
        go_wp2_with fail
        refine (hourBefore_any _ _ _ ).mono ?_
        rintro e w3 ⟨rfl, hb3⟩
        go_wp2
        go_ret2
        exact ⟨by rw [HAT.out, HK.out]; first | rfl | simp [*], hb.trans (hb3.mono hb.size)⟩
      · have HK : Hid (hasObserved xs t = false) := by
          show hasObserved xs t = _
          unfold hasObserved
          rw [HAT.out, List.getElem?_eq_none (by omega)]
        go_wp2
        go_ret2
        exact ⟨by rw [HAT.out, HK.out]; first | rfl | simp [*], hb⟩

end Go.Proofs.YtfgmikgghpflbaaGreatDoor

namespace Go.Proofs.YtfgmikgghpflbaaGreatDoor
open Go.RowKit
set_option linter.unusedVariables false

theorem infoObservedK : (Tryz.prog.info? 66).map (fun i => (i.zero, i.size, i.bytes)) = some (some (.agg #[.int .i64 0, .int .i64 0, .int .i64 0, .int .i64 0]), 4, 32) := by kernel_rfl
set_option maxRecDepth 100000 in
set_option maxHeartbeats 1000000 in
theorem cloneObserved_any (v : Value) (xs : List DObserved) (fp : List Nat) (w : World) (hx : Sl fObserved.cod w v xs fp) (hl : xs.length ≤ 1000000) :
    Calls Tryz.prog 121 #[v] w fun e w' => OwnK fObserved 66 w xs e w' := by
  obtain ⟨A, cap, rfl, hlen, hcap⟩ := hx.form
  obtain ⟨i0, hi, hz0, hz1, hz2⟩ := info_parts infoObservedK
  have hsrc := (hx.below' ((Below.refl _ _).alloc (Nat.le_refl _) (.cells #[] 66))).src
  have ho := Own.lit0 fObserved w 66
  have hb0 : Below w.heap.size w (w.alloc (.cells #[] 66)) := (Below.refl _ _).alloc (Nat.le_refl _) _
  have hs2 := hb0.size
  have q22 : ∀ (w : World) (a : Option Addr) (n c n' c' : Nat), (binOp .eql 64 (.slice a n c) (.slice none n' c')).run Tryz.prog w = .ok (.bool a.isNone) w := fun w a n c n' c' => Lib.run_eql_slice_nil w _ _ a n c n' c' Tryz.underlying64
  cases A with
  | none =>
    have hnil : xs = [] := by
      rcases Nat.eq_zero_or_pos xs.length with h0 | h0
      · exact List.eq_nil_of_length_eq_zero h0
      · obtain ⟨b, off, hA, _⟩ := hx.cells h0
        cases hA
    subst hnil
    go_enter Tryz.func121, Tryz.ntmps121
    go_wp2
    go_ret
    exact ⟨_, rfl, Own.nil _ _ _ _, Below.refl _ _⟩
  | some ad =>
    go_enter Tryz.func121, Tryz.ntmps121
    go_wp2_with (at_builtin; refine wpList_append_src (E := fObserved) rfl _ _ 64 rfl w.heap.size 66 i0 (.agg #[.int .i64 0, .int .i64 0, .int .i64 0, .int .i64 0]) 32 Tryz.underlying64 hi hz0 hz1 hz2 rfl (.slice (some ⟨w.heap.size, 0, none⟩) 0 0) [] rfl ho _ xs rfl hsrc (by simp; omega) (by decide) hs2 ?_)
    intro v' u hown hbu
    try rw [List.nil_append] at hown
    go_wp2
    go_ret
    exact ⟨_, rfl, hown, hb0.trans hbu⟩
theorem insert_rowObserved {cur A t B : List Value} {at_ n cap : Nat} (hlt : at_ < n) (hroom : n < cap) (hcl : cur.length = cap * 4) (hct : cur.take (n * 4) = A ++ B) (hA : A.length = at_ * 4) (hB : B.length = (n - at_) * 4) (ht : t.length = 4) :
    (splice (splice cur ((at_ + 1) * 4) B) (at_ * 4) t).length = cap * 4 ∧ (splice (splice cur ((at_ + 1) * 4) B) (at_ * 4) t).take ((n + 1) * 4) = A ++ (t ++ B) := by
  have e1 : (at_ + 1) * 4 = at_ * 4 + 4 := by omega
  have e2 : (n + 1) * 4 = at_ * 4 + 4 + (n - at_) * 4 := by omega
  have e3 : n * 4 = at_ * 4 + (n - at_) * 4 := by omega
  rw [e3] at hct
  have h1 : (splice cur (at_ * 4 + 4) B).length = cur.length := length_splice _ _ _ (by omega)
  rw [e1, e2]
  exact ⟨by rw [length_splice _ _ _ (by omega), h1, hcl], splice_shift hct hA hB ht (by omega)⟩
theorem fill_rowObserved {cur A t B : List Value} {at_ n cap : Nat} (hlt : at_ < n) (hroom : n < cap) (hcl : cur.length = cap * 4) (hct : cur.take (at_ * 4) = A) (hA : A.length = at_ * 4) (hB : B.length = (n - at_) * 4) (ht : t.length = 4) :
    (splice (splice cur (at_ * 4) t) ((at_ + 1) * 4) B).length = cap * 4 ∧ (splice (splice cur (at_ * 4) t) ((at_ + 1) * 4) B).take ((n + 1) * 4) = A ++ (t ++ B) := by
  have e1 : (at_ + 1) * 4 = at_ * 4 + 4 := by omega
  have e2 : (n + 1) * 4 = at_ * 4 + 4 + (n - at_) * 4 := by omega
  have h1 : (splice cur (at_ * 4) t).length = cur.length := length_splice _ _ _ (by omega)
  rw [e1, e2]
  exact ⟨by rw [length_splice _ _ _ (by omega), h1, hcl], splice_fill hct hA hB ht (by omega)⟩
set_option maxRecDepth 100000 in
set_option maxHeartbeats 2000000 in
/-- Put in at the end: an append. -/
theorem insertObserved_end (v : Value) (xs : List DObserved) (t : DObserved) (nb base : Nat) (w : World) (hown : Own fObserved w base 66 v xs) (hs : Src fObserved w (.slice (some ⟨nb, 0, none⟩) 1 1) [t]) (hl : xs.length ≤ 1000000) (hbase : base ≤ w.heap.size) :
    Calls Tryz.prog 120 #[v, .int .i64 xs.length, .slice (some ⟨nb, 0, none⟩) 1 1] w fun e w' => ∃ v', e = .returned v' ∧ Own fObserved w' base 66 v' (xs ++ [t]) ∧ Below base w w' := by
  obtain ⟨i0, hi, hz0, hz1, hz2⟩ := info_parts infoObservedK
  rcases Nat.eq_zero_or_pos xs.length with h0 | h0
  · obtain rfl := List.eq_nil_of_length_eq_zero h0
    have hF : ∃ A cap, v = .slice A 0 cap := by
      obtain ⟨h1, h2⟩ := hown
      rcases h2 with ⟨hv, _⟩ | ⟨g, cap, cur, hv, _⟩
      · exact ⟨_, _, hv⟩
      · exact ⟨_, _, hv⟩
    obtain ⟨A, cap, rfl⟩ := hF
    go_enter Tryz.func120, Tryz.ntmps120
    go_wp2_with (at_builtin; refine wpList_append_src (E := fObserved) rfl _ _ 64 rfl base 66 i0 (.agg #[.int .i64 0, .int .i64 0, .int .i64 0, .int .i64 0]) 32 Tryz.underlying64 hi hz0 hz1 hz2 rfl _ [] rfl hown _ [t] rfl hs (by simp <;> omega) (by decide) hbase ?_)
    all_goals
      intro v' u hown' hbu
      go_wp2
      go_ret
      exact ⟨_, rfl, hown', hbu⟩
  · have hown' : w.ownsRow base 66 4 v xs.length (xs.flatMap fObserved.enc) := hown
    obtain ⟨g, cap, rfl, hg, hgw, hc1, hc2⟩ := ownO_ hown' h0
    clear hown'
    go_enter Tryz.func120, Tryz.ntmps120
    go_wp2_with (at_builtin; refine wpList_append_src (E := fObserved) rfl _ _ 64 rfl base 66 i0 (.agg #[.int .i64 0, .int .i64 0, .int .i64 0, .int .i64 0]) 32 Tryz.underlying64 hi hz0 hz1 hz2 rfl _ xs rfl hown _ [t] rfl hs (by simp <;> omega) (by decide) hbase ?_)
    all_goals
      intro v' u hown' hbu
      go_wp2
      go_ret
      exact ⟨_, rfl, hown', hbu⟩
set_option maxRecDepth 100000 in
set_option maxHeartbeats 4000000 in
/-- Put in ahead of others. -/
theorem insertObserved_mid (xs : List DObserved) (t : DObserved) (g cap at_ nb base : Nat) (w : World) (hown : w.ownsRow base 66 4 (.slice (some ⟨g, 0, none⟩) xs.length cap) xs.length (xs.flatMap fObserved.enc)) (hlt : at_ < xs.length)
    (hnb : w.heap[nb]? = some (.cells #[.int .i64 t.hour, .int .i64 t.snow, .int .i64 t.degrees, .int .i64 t.wind] 66 (0, 0))) (hne : nb ≠ g) (hl : xs.length ≤ 1000000) (hbase : base ≤ w.heap.size) :
    Calls Tryz.prog 120 #[.slice (some ⟨g, 0, none⟩) xs.length cap, .int .i64 at_, .slice (some ⟨nb, 0, none⟩) 1 1] w fun e w' => ∃ v', e = .returned v' ∧ Own fObserved w' base 66 v' (xs.take at_ ++ t :: xs.drop at_) ∧ Below base w w' := by
  obtain ⟨i0, hi, hz0, hz1, hz2⟩ := info_parts infoObservedK
  have hsz : (Tryz.prog.info? 66).map (·.size) = some 4 := by rw [hi]; simp [hz1]
  have hszf : ∀ w : World, (Go.sizeOf 66).run Tryz.prog w = .ok 4 w := fun w => by simp [sizeOf, typeInfo, hi, hz1]
  obtain ⟨cur, hrow, hcl, hct, hc1, hc2, hg⟩ := own_row hown
  unfold maxLen at hc2
  obtain ⟨A, hA⟩ : ∃ A, A = (xs.take at_).flatMap fObserved.enc := ⟨_, rfl⟩
  obtain ⟨B, hB⟩ : ∃ B, B = (xs.drop at_).flatMap fObserved.enc := ⟨_, rfl⟩
  have hAB : xs.flatMap fObserved.enc = A ++ B := by rw [hA, hB, ← List.flatMap_append, List.take_append_drop]
  have hAl : A.length = at_ * 4 := by rw [hA, flat_len fObserved.enc 4 _ (fun x _ => fObserved.len x)]; simp; omega
  have hBl : B.length = (xs.length - at_) * 4 := by rw [hB, flat_len fObserved.enc 4 _ (fun x _ => fObserved.len x)]; simp
  have hBone : ∀ u ∈ B, u.oneCell' = true := fun u hu => by
    rw [hB] at hu
    obtain ⟨y, _, hy⟩ := List.mem_flatMap.1 hu
    exact fObserved.one y u hy
  have HE := Lib.hid (show (xs.take at_ ++ t :: xs.drop at_).flatMap fObserved.enc = A ++ (fObserved.enc t ++ B) by rw [List.flatMap_append, List.flatMap_cons, hA, hB])
  have HL := Lib.hid (show (xs.take at_ ++ t :: xs.drop at_).length = xs.length + 1 by simp; omega)
  rw [hAB] at hct
  have htl : (fObserved.enc t).length = 4 := fObserved.len t
  have htone : ∀ u ∈ fObserved.enc t, u.oneCell' = true := fObserved.one t
  have hnw : nb < w.heap.size := by
    rcases Nat.lt_or_ge nb w.heap.size with h | h
    · exact h
    · rw [Array.getElem?_eq_none h] at hnb; cases hnb
  have hgw : g < w.heap.size := by
    rcases Nat.lt_or_ge g w.heap.size with h | h
    · exact h
    · rw [Array.getElem?_eq_none h] at hrow; cases hrow
  have hsrcT : ∀ W : World, W.heap[nb]? = w.heap[nb]? → ∀ (j : Nat) u, (fObserved.enc t)[j]? = some u → W.cell? ((⟨nb, 0, none⟩ : Addr).add j) = some u := fun W hW j u hu => by
    rw [addr_add, World.cell?, hW, hnb]
    simpa [fObserved] using hu
  have hov : ∀ off lb cb, (callFunc 190 #[.slice (some ⟨nb, 0, none⟩) 1 1, .slice (some ⟨g, off, none⟩) lb cb]).run Tryz.prog w = .ok (.value (.bool false)) w := fun off lb cb => by
    rw [run_callFunc_extern Tryz.func190 (by kernel_rfl) (by kernel_rfl) (by kernel_rfl) (e := Extern.SlicesOverlaps.overlaps #[64, 64] #[4]) (by kernel_rfl),
      Lib.run_overlaps_apart w 64 4 66 Tryz.underlying64 4 hszf ⟨nb, 0, none⟩ ⟨g, off, none⟩ 1 1 lb cb hne 66 66 4 cur.length (by simp [World.shape?, hnb]) (by simp [World.shape?, hrow]) (by omega) (by simp [World.frozen?, hnb]) (by simp [World.frozen?, hnb])]
    rfl
  generalize xs.length = n at *
  have e1 : ((at_ : Int) == (n : Int)) = false := by rw [beq_eq_false_iff_ne]; omega
  clear hown hA hB hAB hnb
  rcases Nat.lt_or_ge n cap with hroom | hroom
  · have hsrcB : ∀ (j : Nat) u, B[j]? = some u → w.drew.cell? ((⟨g, at_ * 4, none⟩ : Addr).add j) = some u := fun j u hu => by
      rw [addr_add]
      exact (row_cell hrow _).trans (rowp_ hct hAl hu)
    obtain ⟨hRl, hRt⟩ := insert_rowObserved hlt hroom hcl hct hAl hBl htl
    clear hi hz0
    go_enter Tryz.func120, Tryz.ntmps120
    go_wp2_with (simp only [hov])
    refine wp_region_mix (C := fun _ => True) [true, true, true, true, true, true, true, true, false] (by kernel_rfl) (by kernel_rfl) (by kernel_rfl) (fun _ _ d _ _ h => by cases d <;> exact h) trivial ?_
    have hS0 : Below (w.heap.size) w w.drew := Below.drew (Below.refl _ _)
    refine wpMix_pure (by kernel_rfl) (fun K hK => ?_); go_big_quiet_op; refine hK _ ?_; clear hK K
    refine wpMix_pure (by kernel_rfl) (fun K hK => ?_); go_big_quiet_op; refine hK _ ?_; clear hK K
    refine wpMix_pure (by kernel_rfl) (fun K hK => ?_); go_big_quiet_op; refine hK _ ?_; clear hK K
    refine wpMix_pure (by kernel_rfl) (fun K hK => ?_); go_big_quiet_op; refine hK _ ?_; clear hK K
    refine wpMix_pure (by kernel_rfl) (fun K hK => ?_); go_big_quiet_op; refine hK _ ?_; clear hK K
    refine wpMix_pure (by kernel_rfl) (fun K hK => ?_); go_big_quiet_op; refine hK _ ?_; clear hK K
    refine wpMix_pure (by kernel_rfl) (fun K hK => ?_); go_big_quiet_op; refine hK _ ?_; clear hK K
    refine wpMix_pure (by kernel_rfl) (fun K hK => ?_); go_big_quiet_op; refine hK _ ?_; clear hK K
    refine wpMix_act (by kernel_rfl) (fun K hK => ?_)
    refine wp_copy_at _ _ 64 64 rfl 66 Tryz.underlying64 4 hsz g ((at_ + 1) * 4) _ _ ⟨g, at_ * 4, none⟩ _ _ rfl rfl cur 66 hrow B (n - at_) (by simp only [Nat.min_def]; split <;> omega) hBl hsrcB (by omega) hBone ?_
    intro w5 hrow5 hoth5 hb5
    try simp only [Act.put, List.setIfInBounds_toArray, List.set_cons_zero, List.set_cons_succ]
    refine hK _ _ trivial ?_
    clear hK K
    refine wpMix_nil ?_
    have HR5 := Lib.hid hrow5
    clear hrow5
    have hl5 : (splice cur ((at_ + 1) * 4) B).length = cur.length := length_splice _ _ _ (by omega)
    go_wp2_with (refine wpList_copy_at rfl _ _ 64 64 rfl 66 Tryz.underlying64 4 hsz g (at_ * 4) _ _ ⟨nb, 0, none⟩ _ _ rfl rfl (splice cur ((at_ + 1) * 4) B) 66 HR5.out (fObserved.enc t) (1) (by simp only [Nat.min_def]; split <;> omega) (by omega) (hsrcT w5 (hoth5 nb hne)) (by omega) htone ?_)
    intro w6 hrow6 hoth6 hb6
    have HR6 := Lib.hid hrow6
    clear hrow6
    go_wp2
    go_ret
    refine ⟨_, rfl, ?_, (((Below.refl base w).drew).trans (hb5.mono hg)).trans (hb6.mono hg)⟩
    show World.ownsRow _ base _ 4 _ (xs.take at_ ++ t :: xs.drop at_).length ((xs.take at_ ++ t :: xs.drop at_).flatMap fObserved.enc)
    rw [HL.out, HE.out]
    exact own_of_row HR6.out hg hroom (by unfold maxLen; omega) hRl hRt

  · have hbig : (n + 1) * 32 ≤ 140737488355328 := by omega
    have hcapN : ¬ ((cap : Int) = (at_ : Int)) := by omega
    have hold : (Builtin.firstCells i0.size at_ (.slice (some ⟨g, 0, none⟩) at_ cap)).run Tryz.prog w.drew = .ok A.toArray w.drew := by
      rw [hz1]
      exact run_firstCells_some w.drew 4 at_ ⟨g, 0, none⟩ at_ cap A (by rw [hAl]) (fun j v hj => by
        rw [addr_add]
        refine (row_cell (w := w.drew) hrow _).trans ?_
        rw [Nat.zero_add]
        exact rowh_ hct hj)
    have hrz : ∀ ty, (Builtin.append_ #[64, 3] ty #[.slice (some ⟨g, 0, none⟩) at_ cap, .int .i64 ((n : Int) + 1 - (at_ : Int))]).run Tryz.prog w =
        .ok (.slice (some ⟨w.heap.size, 0, none⟩) (n + 1) (grownCap w (n + 1) cap 66)) (w.drew.alloc (.cells (A.toArray ++ Builtin.zeroCells (Value.agg #[.int .i64 0, .int .i64 0, .int .i64 0, .int .i64 0]).cells (n + 1 - at_) ++ Builtin.zeroCells (Value.agg #[.int .i64 0, .int .i64 0, .int .i64 0, .int .i64 0]).cells (grownCap w (n + 1) cap 66 - (n + 1))) 66)) := fun ty => by
      have hik : at_ + (n + 1 - at_) = n + 1 := by omega
      have hkk : (n : Int) + 1 - (at_ : Int) = ((n + 1 - at_ : Nat) : Int) := by omega
      have h := Lib.run_append_grow_zeros w 64 3 ty 66 i0 _ .i64 .i64 Tryz.underlying64 Tryz.underlying3 hi hz0 (some ⟨g, 0, none⟩) at_ cap A hold (n + 1 - at_) (by omega) (by omega) (by omega) (by omega) (by rw [hz2]; omega) (by rw [hz2, hik]; exact growslice_fits (by omega) hbig)
      rw [hik] at h
      rw [hkk]
      exact h
    obtain ⟨G, hG⟩ : ∃ G, G = grownCap w (n + 1) cap 66 := ⟨_, rfl⟩
    have hGn : n + 1 ≤ G := by rw [hG]; exact grownCap_ge w _ _ _
    have hG63 : G ≤ maxLen := by rw [hG]; exact grownCap_le_maxLen w (n + 1) cap 66 (by unfold maxLen; omega)
    rw [← hG] at hrz
    obtain ⟨ROW, hROW⟩ : ∃ ROW : List Value, ROW = A ++ ((Builtin.zeroCells (Value.agg #[.int .i64 0, .int .i64 0, .int .i64 0, .int .i64 0]).cells (n + 1 - at_)).toList ++ (Builtin.zeroCells (Value.agg #[.int .i64 0, .int .i64 0, .int .i64 0, .int .i64 0]).cells (G - (n + 1))).toList) := ⟨_, rfl⟩
    have hRl : ROW.length = G * 4 := by
      rw [hROW]
      simp [Builtin.zeroCells, Value.cells, hAl]
      omega
    have hRt : ROW.take (at_ * 4) = A := by rw [hROW, List.take_append_of_le_length (by omega), List.take_of_length_le (by omega)]
    obtain ⟨W1, hW1⟩ : ∃ W1, W1 = w.drew.alloc (.cells ROW.toArray 66) := ⟨_, rfl⟩
    have hrz1 : ∀ ty, (Builtin.append_ #[64, 3] ty #[.slice (some ⟨g, 0, none⟩) at_ cap, .int .i64 ((n : Int) + 1 - (at_ : Int))]).run Tryz.prog w = .ok (.slice (some ⟨w.heap.size, 0, none⟩) (n + 1) G) W1 := fun ty => by
      rw [hrz ty, hW1, hROW, arr3_]
    have hrow1 : W1.heap[w.heap.size]? = some (.cells ROW.toArray 66 (0, 0)) := by rw [hW1]; exact heap_alloc_new w.drew _
    have hoth1 : ∀ k, k < w.heap.size → W1.heap[k]? = w.heap[k]? := fun k hk => by rw [hW1]; exact heap_alloc_old w.drew _ hk
    have hB1 : Below base w W1 := by rw [hW1]; exact ((Below.refl base w).drew).alloc hbase _
    obtain ⟨hFl, hFt⟩ := fill_rowObserved hlt (by omega) hRl hRt hAl hBl htl
    have hRs : (splice ROW (at_ * 4) (fObserved.enc t)).length = ROW.length := length_splice _ _ _ (by omega)
    have hGi : ¬ ((G : Int) = (at_ : Int)) := by omega
    have hHR1 := Lib.hid hrow1
    generalize hN : w.heap.size = N at *
    clear hrz hold hG hROW hW1 hrow1 hi hz0
    unfold maxLen at hG63
    go_enter Tryz.func120, Tryz.ntmps120
    go_wp2_with (first | (at_builtin; refine Lib.wpList_append_run _ rfl _ _ _ _ rfl _ _ rfl rfl _ _ (hrz1 _) ?_) | (refine wpList_copy_at rfl _ _ 64 64 rfl 66 Tryz.underlying64 4 hsz N (at_ * 4) _ _ ⟨nb, 0, none⟩ _ _ rfl rfl ROW 66 hHR1.out (fObserved.enc t) (1) (by simp only [Nat.min_def]; split <;> omega) (by omega) (hsrcT W1 (hoth1 nb hnw)) (by omega) htone ?_))
    intro w5 hrow5 hoth5 hb5
    have HR5 := Lib.hid hrow5
    have hsrcB : ∀ (j : Nat) u, B[j]? = some u → w5.drew.cell? ((⟨g, at_ * 4, none⟩ : Addr).add j) = some u := fun j u hu => by
      rw [addr_add]
      have h1 : w5.heap[g]? = some (.cells cur.toArray 66 (0, 0)) := ((hoth5 g (by omega)).trans (hoth1 g hgw)).trans hrow
      exact (row_cell (w := w5.drew) h1 _).trans (rowp_ hct hAl hu)
    clear hrow5 hrow
    go_wp2
    refine wp_region_mix (C := fun _ => True) [true, true, true, true, true, true, true, true, false] (by kernel_rfl) (by kernel_rfl) (by kernel_rfl) (fun _ _ d _ _ h => by cases d <;> exact h) trivial ?_
    have hS0 : Below (w5.heap.size) w5 w5.drew := Below.drew (Below.refl _ _)
    refine wpMix_pure (by kernel_rfl) (fun K hK => ?_); go_big_quiet_op; refine hK _ ?_; clear hK K
    refine wpMix_pure (by kernel_rfl) (fun K hK => ?_); go_big_quiet_op; refine hK _ ?_; clear hK K
    refine wpMix_pure (by kernel_rfl) (fun K hK => ?_); go_big_quiet_op; refine hK _ ?_; clear hK K
    refine wpMix_pure (by kernel_rfl) (fun K hK => ?_); go_big_quiet_op; refine hK _ ?_; clear hK K
    refine wpMix_pure (by kernel_rfl) (fun K hK => ?_); go_big_quiet_op; refine hK _ ?_; clear hK K
    refine wpMix_pure (by kernel_rfl) (fun K hK => ?_); go_big_quiet_op; refine hK _ ?_; clear hK K
    refine wpMix_pure (by kernel_rfl) (fun K hK => ?_); go_big_quiet_op; refine hK _ ?_; clear hK K
    refine wpMix_pure (by kernel_rfl) (fun K hK => ?_); go_big_quiet_op; refine hK _ ?_; clear hK K
    refine wpMix_act (by kernel_rfl) (fun K hK => ?_)
    refine wp_copy_at _ _ 64 64 rfl 66 Tryz.underlying64 4 hsz N ((at_ + 1) * 4) _ _ ⟨g, at_ * 4, none⟩ _ _ rfl rfl (splice ROW (at_ * 4) (fObserved.enc t)) 66 HR5.out B (n - at_) (by simp only [Nat.min_def]; split <;> omega) hBl hsrcB (by omega) hBone ?_
    intro w6 hrow6 hoth6 hb6
    try simp only [Act.put, List.setIfInBounds_toArray, List.set_cons_zero, List.set_cons_succ]
    refine hK _ _ trivial ?_
    clear hK K
    refine wpMix_nil ?_
    have HR6 := Lib.hid hrow6
    clear hrow6
    go_wp2
    go_ret
    refine ⟨_, rfl, ?_, (hB1.trans (hb5.mono hbase)).trans (((Below.refl base w5).drew).trans (hb6.mono hbase))⟩
    show World.ownsRow _ base _ 4 _ (xs.take at_ ++ t :: xs.drop at_).length ((xs.take at_ ++ t :: xs.drop at_).flatMap fObserved.enc)
    rw [HL.out, HE.out]
    exact own_of_row HR6.out hbase (by omega) (by unfold maxLen; omega) hFl hFt


/-- Put in at any place. -/
theorem insObserved_any (v : Value) (xs : List DObserved) (t : DObserved) (at_ nb base : Nat) (w : World) (hown : Own fObserved w base 66 v xs) (hat : at_ ≤ xs.length) (hnb : w.heap[nb]? = some (.cells #[.int .i64 t.hour, .int .i64 t.snow, .int .i64 t.degrees, .int .i64 t.wind] 66 (0, 0))) (hne : ∀ g, v.ownBlock = some g → nb ≠ g) (hl : xs.length ≤ 1000000) (hbase : base ≤ w.heap.size) :
    Calls Tryz.prog 120 #[v, .int .i64 at_, .slice (some ⟨nb, 0, none⟩) 1 1] w fun e w' => ∃ v', e = .returned v' ∧ Own fObserved w' base 66 v' (xs.take at_ ++ t :: xs.drop at_) ∧ Below base w w' := by
  rcases Nat.lt_or_ge at_ xs.length with hlt | hge
  · have hown' : w.ownsRow base 66 4 v xs.length (xs.flatMap fObserved.enc) := hown
    obtain ⟨g, cap, rfl, hg, hgw, _, _⟩ := ownO_ hown' (by omega)
    exact insertObserved_mid xs t g cap at_ nb base w hown' hlt hnb (hne g rfl) hl hbase
  · obtain rfl : at_ = xs.length := by omega
    rw [List.take_length, List.drop_length]
    refine insertObserved_end v xs t nb base w hown ⟨some ⟨nb, 0, none⟩, 1, rfl, by simp, ?_⟩ hl hbase
    intro ad had j u hu
    cases had
    rw [addr_add, World.cell?, hnb]
    simpa [fObserved] using hu

end Go.Proofs.YtfgmikgghpflbaaGreatDoor

namespace Go.Proofs.YtfgmikgghpflbaaGreatDoor
open Go.RowKit
section
variable {P : Program} {ops : Array Oper} {Q : Exit → Act → World → Prop} {md : Region.Mode} {C : World → Prop}

def mixF (md : Region.Mode) (ops : Array Oper) (i : Nat) (is1 : List Nat) (ks1 : List Bool) (j : Nat) (is2 : List Nat) (ks2 : List Bool) : List Nat → Array Bool → Bool
  | [], listed => (Region.ready md ops listed == [i, j]) && mixB md ops is1 ks1 (listed.setIfInBounds i true) && mixB md ops is2 ks2 (listed.setIfInBounds j true)
  | p :: ps, listed => (Region.ready md ops listed).contains p && Region.free md ops listed p && ((ops[p]?).map valueOnly).getD false && mixF md ops i is1 ks1 j is2 ks2 ps (listed.setIfInBounds p true)
def wpFork (P : Program) (ops : Array Oper) (Q : Exit → Act → World → Prop) (C : World → Prop) (ks1 : List Bool) (l1 : List Oper) (ks2 : List Bool) (l2 : List Oper) : List Oper → Act → World → Prop
  | [], a, w => wpMix P ops Q C (false :: ks1) l1 a w ∧ wpMix P ops Q C (false :: ks2) l2 a w
  | o :: lp, a, w => if Region.wanted o (yielded ops a.tmps) then o.quiet P a C (fun a' => wpFork P ops Q C ks1 l1 ks2 l2 lp a' w) else wpFork P ops Q C ks1 l1 ks2 l2 lp (a.put o.dst undef) w

theorem wpOp_of_mix (hs : Region.noSelect ops = true) (hQ : ∀ (c : _) (a : Act) (d : Option Tmp) (v : Value) (w : World), Q (.panic c) (a.put d v) w → Q (.panic c) a w)
    {i : Nat} {is : List Nat} {ks : List Bool} {listed : Array Bool} {a : Act} {w : World} (hi : i < ops.size) (his : ∀ x ∈ is, x < ops.size) (hB : mixB md ops is ks (listed.setIfInBounds i true) = true) (hC : C w)
    (h : wpMix P ops Q C (false :: ks) ((i :: is).map fun i => ops.getD i default) a w) :
    wpOp P ops Q i (fun a' w' => C w' ∧ wpAnyH P md ops Q C is.length (listed.setIfInBounds i true) a' w') a w := by
  have ho : ops[i]? = some (ops.getD i default) := by simp [hi]
  have hl : ∀ j : Nat, (is.map fun i => ops.getD i default)[j]? = (is[j]?).bind (fun i => ops[i]?) := fun j => by
    rw [List.getElem?_map]
    cases hj : is[j]? with
    | none => rfl
    | some x => have := his x (List.mem_of_getElem? hj); simp [this]
  rw [List.map_cons] at h
  simp only [wpMix] at h
  unfold wpOp
  simp only [ho]
  by_cases hw : Region.wanted (ops.getD i default) (yielded ops a.tmps) = true
  · rw [if_pos hw] at h ⊢
    exact .inl (Oper.wp_mono (fun a' w' hh => ⟨hh.1, wpAnyH_of_mix hs hQ is ks _ _ a' w' hl (by simp) hB hh.1 hh.2⟩) h)
  · rw [if_neg hw] at h ⊢
    exact ⟨hC, wpAnyH_of_mix hs hQ is ks _ _ _ w hl (by simp) hB hC h⟩

theorem wpAnyH_of_fork (hs : Region.noSelect ops = true) (hQ : ∀ (c : _) (a : Act) (d : Option Tmp) (v : Value) (w : World), Q (.panic c) (a.put d v) w → Q (.panic c) a w)
    {i : Nat} {is1 : List Nat} {ks1 : List Bool} {j : Nat} {is2 : List Nat} {ks2 : List Bool} (hi : i < ops.size) (hj : j < ops.size) (h1 : ∀ x ∈ is1, x < ops.size) (h2 : ∀ x ∈ is2, x < ops.size) (hlen : is1.length = is2.length) :
    ∀ (ps : List Nat) (listed : Array Bool) (a : Act) (w : World), (∀ x ∈ ps, x < ops.size) → mixF md ops i is1 ks1 j is2 ks2 ps listed = true → C w →
      wpFork P ops Q C ks1 ((i :: is1).map fun i => ops.getD i default) ks2 ((j :: is2).map fun i => ops.getD i default) (ps.map fun i => ops.getD i default) a w → wpAnyH P md ops Q C (ps.length + (is1.length + 1)) listed a w := by
  intro ps
  induction ps with
  | nil =>
    intro listed a w _ hB hC h
    simp only [mixF, Bool.and_eq_true, beq_iff_eq] at hB
    obtain ⟨⟨hr, hb1⟩, hb2⟩ := hB
    simp only [List.map_nil, wpFork] at h
    rw [List.length_nil, Nat.zero_add]
    refine wpAnyH_all hr (by simp) (fun x hx => ?_)
    rcases List.mem_cons.1 hx with rfl | hx
    · exact wpOp_of_mix hs hQ hi h1 hb1 hC h.1
    · rw [List.mem_singleton] at hx; subst hx
      rw [hlen]
      exact wpOp_of_mix hs hQ hj h2 hb2 hC h.2
  | cons p ps ih =>
    intro listed a w hps hB hC h
    have hp : p < ops.size := hps p (by simp)
    have ho : ops[p]? = some (ops.getD p default) := by simp [hp]
    simp only [mixF, Bool.and_eq_true, ho, Option.map_some, Option.getD_some] at hB
    obtain ⟨⟨⟨hr, hf⟩, hv⟩, hB'⟩ := hB
    rw [show ((p :: ps).map fun i => ops.getD i default) = ops.getD p default :: ps.map (fun i => ops.getD i default) from rfl] at h
    simp only [wpFork] at h
    rw [List.length_cons, show ps.length + 1 + (is1.length + 1) = (ps.length + (is1.length + 1)) + 1 by omega]
    by_cases hw : Region.wanted (ops.getD p default) (yielded ops a.tmps) = true
    · rw [if_pos hw] at h
      obtain ⟨v, q1, q2⟩ := yieldsIf_of_quiet hv h
      exact wpAnyH_take ho hs hf hr (fun c a w => hQ c a _ _ w) (.inl ⟨hw, q1⟩) hC (ih _ _ w (fun x hx => hps x (by simp [hx])) hB' hC q2)
    · rw [if_neg hw] at h
      exact wpAnyH_take ho hs hf hr (fun c a w => hQ c a _ _ w) (.inr ⟨by simpa using hw, rfl⟩) hC (ih _ _ w (fun x hx => hps x (by simp [hx])) hB' hC h)

structure Fork (P : Program) (ops : Array Oper) (Q : Exit → Act → World → Prop) (C : World → Prop) (ks1 : List Bool) (l1 : List Oper) (ks2 : List Bool) (l2 : List Oper) (lp : List Oper) (a : Act) (w : World) : Prop where
  out : wpFork P ops Q C ks1 l1 ks2 l2 lp a w
theorem wp_region_fork {id : Nat} {l : List Oper} {a : Act} {w : World} (ps : List Nat) (i : Nat) (is1 : List Nat) (ks1 : List Bool) (j : Nat) (is2 : List Nat) (ks2 : List Bool) (hm : P.follows .mixedOrders = true) (hs : Region.noSelect l.toArray = true)
    (hB : (((i :: j :: (ps ++ is1 ++ is2)).all (fun x => decide (x < l.length))) && decide (is1.length = is2.length) && decide (ps.length + (is1.length + 1) = l.length) && mixF .any l.toArray i is1 ks1 j is2 ks2 ps (Array.replicate l.length false)) = true)
    (hQ : ∀ (c : _) (a : Act) (d : Option Tmp) (v : Value) (w : World), Q (.panic c) (a.put d v) w → Q (.panic c) a w) (hC : C w.drew)
    (h : Fork P l.toArray Q C ks1 ((i :: is1).map fun i => l.getD i default) ks2 ((j :: is2).map fun i => l.getD i default) (ps.map fun i => l.getD i default) a w.drew) : (Code.region id l.toArray true).wp P Q a w := by
  simp only [Bool.and_eq_true, decide_eq_true_eq, List.all_eq_true] at hB
  obtain ⟨⟨⟨h1, h2⟩, h3⟩, h4⟩ := hB
  refine wp_region_held (S := C) hm ?_
  have hg : (fun i => l.toArray.getD i default) = (fun i => l.getD i default) := by funext x; simp [Array.getD_eq_getD_getElem?, List.getD_eq_getElem?_getD]
  have := wpAnyH_of_fork (md := .any) (ops := l.toArray) hs hQ (i := i) (is1 := is1) (ks1 := ks1) (j := j) (is2 := is2) (ks2 := ks2) (by simpa using h1 i (by simp)) (by simpa using h1 j (by simp))
    (fun x hx => by simpa using h1 x (by simp [hx])) (fun x hx => by simpa using h1 x (by simp [hx])) h2 ps (Array.replicate l.length false) a w.drew (fun x hx => by simpa using h1 x (by simp [hx])) h4 hC (by rw [hg]; exact h.out)
  rw [h3] at this
  simpa using this
theorem wpFork_pure {ks1 ks2 : List Bool} {l1 l2 : List Oper} {o : Oper} {l : List Oper} {a : Act} {w : World} (hw : Region.wanted o (yielded ops a.tmps) = true)
    (h : ∀ K : Act → Prop, (∀ a', Fork P ops Q C ks1 l1 ks2 l2 l a' w → K a') → o.quiet P a C K) : Fork P ops Q C ks1 l1 ks2 l2 (o :: l) a w := by
  refine ⟨?_⟩
  simp only [wpFork]; rw [if_pos hw]; exact h _ fun _ h => h.out
theorem wpFork_split {ks1 ks2 : List Bool} {l1 l2 : List Oper} {a : Act} {w : World} (h1 : Mix P ops Q C (false :: ks1) l1 a w) (h2 : Mix P ops Q C (false :: ks2) l2 a w) : Fork P ops Q C ks1 l1 ks2 l2 [] a w := ⟨⟨h1.out, h2.out⟩⟩
end
end Go.Proofs.YtfgmikgghpflbaaGreatDoor

namespace Go.Proofs.YtfgmikgghpflbaaGreatDoor
open Go.RowKit
set_option linter.unusedVariables false

theorem obs_back {xs : List DObserved} (h : obssB xs = true) (t : Int) : ∀ (a b : Nat) (hab : a ≤ b) (hb : b < xs.length), cmI xs[b].hour t < 0 → cmI (xs[a]'(by omega)).hour t < 0 := by
  intro a b hab
  induction hab with
  | refl => intro hb h0; exact h0
  | @step m hm ih =>
    intro hb h0
    have h1 := obssB_two h hb
    unfold obsBef at h1
    have h1 := of_decide_eq_true h1
    replace h0 : cmI (xs[m + 1]'hb).hour t < 0 := h0
    rw [cmI_lt] at h0
    exact ih (by omega) (cmI_lt.2 (by omega))
def addObservedC (xs : List DObserved) (x : DObserved) : Int := if obssB xs then (if obsB x then (if hasObserved xs x.hour then 4 else if xs.length = 48 then 5 else 0) else 2) else 1
def addObservedF (xs : List DObserved) (x : DObserved) : List DObserved := if addObservedC xs x = 0 then xs.take (atObserved xs x.hour) ++ x :: xs.drop (atObserved xs x.hour) else []
theorem addObserved_bad {xs : List DObserved} {x : DObserved} {c : Int} (h : addObservedC xs x = c) (h0 : c ≠ 0) : addObservedC xs x = c ∧ addObservedF xs x = [] := ⟨h, by unfold addObservedF; rw [if_neg (by rw [h]; exact h0)]⟩
theorem addObserved_ok {xs : List DObserved} {x : DObserved} (h : addObservedC xs x = 0) : obssB xs = true ∧ obsB x = true ∧ hasObserved xs x.hour = false ∧ xs.length < 48 := by
  unfold addObservedC at h
  split at h
  · rename_i h1
    split at h
    · rename_i h2
      split at h
      · cases h
      · rename_i h3
        split at h
        · cases h
        · rename_i h4
          simp only [Bool.not_eq_true] at h3
          refine ⟨h1, h2, h3, ?_⟩
          have : xs.length ≤ 48 := obssB_len h1
          omega
    · cases h
  · cases h
set_option maxRecDepth 100000 in
set_option maxHeartbeats 8000000 in
theorem addObserved_any (v : Value) (xs : List DObserved) (fp : List Nat) (x : DObserved) (w : World) (hx : Sl fObserved.cod w v xs fp) (hok : fObserved.ok x) :
    Calls Tryz.prog 33 #[v, .agg #[.int .i64 x.hour, .int .i64 x.snow, .int .i64 x.degrees, .int .i64 x.wind]] w fun e w' => NewR2 fObserved.cod w (addObservedF xs x) (addObservedC xs x) e w' := by
  obtain ⟨A, cap, rfl, hlen, hcap⟩ := hx.form
  have hB0 : Below w.heap.size w (w.alloc (.cells #[.int .i64 x.hour, .int .i64 x.snow, .int .i64 x.degrees, .int .i64 x.wind] 66)) := (Below.refl _ _).alloc (Nat.le_refl _) _
  have hp := PObserved.box w x 66
  replace hx := hx.below' hB0
  have hEC := Lib.hid (show addObservedC xs x = _ from rfl)
  go_enter Tryz.func33, Tryz.ntmps33
  go_wp2_with fail
  refine (ValidObserved_any _ xs fp _ hx).mono ?_
  rintro e w1 ⟨rfl, hb1⟩
  have hp1 := hp.below' hb1
  have hx1 := hx.below' hb1
  have hB1 := hB0.trans (hb1.mono hB0.size)
  clear hp hx hb1 hB0
  cases hv : obssB xs
  · have HE := Lib.hid (addObserved_bad (x := x) (show addObservedC xs x = 1 by unfold addObservedC; rw [hv]; rfl) (by decide))
    go_wp2
    go_ret2
    exact ⟨_, by rw [HE.out.1]; rfl, by rw [HE.out.2]; exact New.nil hB1⟩
  have hlen2 := obssB_len hv
  obtain ⟨c0, c1, c2, c3⟩ := id hp1
  go_wp2_with fail
  refine (bsearchObserved_any _ xs fp x.hour _ hx1 (obs_back hv x.hour) (by omega)).mono ?_
  rintro e w2 ⟨rfl, hb2⟩
  have hp2 := hp1.below' hb2
  have hx2 := hx1.below' hb2
  have hB2 := hB1.trans (hb2.mono hB1.size)
  have hat : atObserved xs x.hour ≤ xs.length := posF_le _ _
  clear hp1 hx1 hb2 c0 c1 c2 c3
  obtain ⟨c0, c1, c2, c3⟩ := id hp2
  go_wp2_with fail
  refine (validObserved_any x _ hok).mono ?_
  rintro e w3 ⟨rfl, hb3⟩
  have hp3 := hp2.below' hb3
  have hx3 := hx2.below' hb3
  have hB3 := hB2.trans (hb3.mono hB2.size)
  clear hp2 hx2 hb3 c0 c1 c2 c3
  cases ho : obsB x
  · have HE := Lib.hid (addObserved_bad (show addObservedC xs x = 2 by unfold addObservedC; rw [hv, ho]; rfl) (by decide))
    go_wp2
    go_ret2
    exact ⟨_, by rw [HE.out.1]; rfl, by rw [HE.out.2]; exact New.nil hB3⟩
  cases hh : hasObserved xs x.hour
  rotate_left
  · have HE := Lib.hid (addObserved_bad (show addObservedC xs x = 4 by unfold addObservedC; rw [hv, ho, hh]; rfl) (by decide))
    go_wp2
    go_ret2
    exact ⟨_, by rw [HE.out.1]; rfl, by rw [HE.out.2]; exact New.nil hB3⟩
  by_cases hM : xs.length = 48
  · have HE := Lib.hid (addObserved_bad (show addObservedC xs x = 5 by unfold addObservedC; rw [hv, ho, hh, if_pos hM]; rfl) (by decide))
    have eM : ((xs.length : Int) == 48) = true := by rw [hM]; rfl
    clear hM
    go_wp2
    go_ret2
    exact ⟨_, by rw [HE.out.1]; rfl, by rw [HE.out.2]; exact New.nil hB3⟩
  have hC0 : addObservedC xs x = 0 := by unfold addObservedC; rw [hv, ho, hh, if_neg hM]; rfl
  have HC := Lib.hid hC0
  have HF : Hid (addObservedF xs x = xs.take (atObserved xs x.hour) ++ x :: xs.drop (atObserved xs x.hour)) := by show _ = _; unfold addObservedF; rw [if_pos hC0]
  have eM : ((xs.length : Int) == 48) = false := by rw [beq_eq_false_iff_ne]; omega
  have hoks := hx3.oks
  have HOK : Hid (∀ y ∈ xs.take (atObserved xs x.hour) ++ x :: xs.drop (atObserved xs x.hour), fObserved.ok y) := fun y hy => by
    rcases List.mem_append.1 hy with hy | hy
    · exact hoks y (List.mem_of_mem_take hy)
    · rcases List.mem_cons.1 hy with rfl | hy
      · exact hok
      · exact hoks y (List.mem_of_mem_drop hy)
  clear hC0 hM hv ho hh hoks hEC
  generalize atObserved xs x.hour = at_ at *
  obtain ⟨c0, c1, c2, c3⟩ := id hp3
  go_wp2
  have gc0 := cell_regrown c0
  have gc1 := cell_regrown c1
  have gc2 := cell_regrown c2
  have gc3 := cell_regrown c3
  refine wp_region_fork (C := fun w' => ∃ p : Regrown, w' = Go.Sort.grow (redrawn w3 p.d) p.os) [0, 2, 3] 1 [4, 5, 6, 7] [false, false, true, true] 4 [1, 5, 6, 7] [false, false, true, true] (by kernel_rfl) (by kernel_rfl) (by kernel_rfl) (fun _ _ d _ _ h => by cases d <;> exact h) (regrown_of_below (Below.drew (Below.refl _ _))) ?_
  simp only [List.map_cons, List.map_nil, List.getD_cons_zero, List.getD_cons_succ]
  have hS0 : Below (w3.heap.size) w3 w3.drew := Below.drew (Below.refl _ _)
  refine wpFork_pure (by kernel_rfl) (fun K hK => ?_)
  go_big_quiet_op
  refine hK _ ?_; clear hK K
  refine wpFork_pure (by kernel_rfl) (fun K hK => ?_)
  go_big_quiet_op
  refine hK _ ?_; clear hK K
  refine wpFork_pure (by kernel_rfl) (fun K hK => ?_)
  go_big_quiet_op
  refine hK _ ?_; clear hK K
  refine wpFork_split ?_ ?_
  · skip
    refine wpMix_act (by kernel_rfl) (fun K hK => ?_)
    go_big_op
    refine (cloneObserved_any _ xs fp w3.drew (hx3.below' (hS0)) (by omega)).mono ?_
    rintro e wr1 ⟨v3, rfl, hown, hbr1⟩
    have hbr1S : Below (w3.heap.size) w3 wr1 := hS0.trans (hbr1.mono hS0.size)
    refine hK _ _ (regrown_of_below hbr1S) ?_
    clear hK K
    refine wpMix_act (by kernel_rfl) (fun K hK => ?_)
    go_big_op
    refine hK _ _ (regrown_of_below (hbr1S.alloc hbr1S.size _)) ?_
    clear hK K
    refine mix_world (fun N => Below (w3.heap.size) w3 N ∧ (N.heap[wr1.heap.size]? = some (.cells #[.int .i64 x.hour, .int .i64 x.snow, .int .i64 x.degrees, .int .i64 x.wind] 66 (0, 0)) ∧ Below wr1.heap.size wr1 N ∧ wr1.heap.size < N.heap.size)) ⟨hbr1S.alloc hbr1S.size _, ⟨heap_alloc_new wr1 _, (Below.refl _ _).alloc (Nat.le_refl _) _, by simp⟩⟩ ?_
    rintro wr2 ⟨hbr2S, hbr2F⟩
    refine wpMix_act (by kernel_rfl) (fun K hK => ?_)
    go_big_op
    refine (insObserved_any v3 xs x at_ wr1.heap.size w3.drew.heap.size wr2 (hown.below hbr2F.2.1) hat hbr2F.1 (fun g hg => by have := (hown.lt g hg).2; omega) (by omega) (by have := hbr1S.size; have := hbr2F.2.2; have := (show w3.drew.heap.size = w3.heap.size from rfl); omega)).mono ?_
    rintro e wr3 ⟨v4, rfl, hown4, hbr3⟩
    have hbr3S : Below (w3.heap.size) w3 wr3 := hbr2S.trans (hbr3.mono (Nat.le_refl _))
    refine hK _ _ (regrown_of_below hbr3S) ?_
    clear hK K
    refine wpMix_pure (by kernel_rfl) (fun K hK => ?_); go_big_quiet_op; refine hK _ ?_; clear hK K
    refine wpMix_pure (by kernel_rfl) (fun K hK => ?_); go_big_quiet_op; refine hK _ ?_; clear hK K
    refine wpMix_nil ?_
    have hS9 : Below w3.heap.size w3 wr3 := hbr3S
    have hB9 := hB3.trans (hS9.mono hB3.size)
    have hownZ : Own fObserved wr3 w.heap.size 66 v4 (xs.take at_ ++ x :: xs.drop at_) := ownM_ hown4 (by have := hB3.size; first | exact this | (have h9 := hbr4S.size; omega) | (have h9 := hbr1S.size; omega))
    have hn := hownZ.new hB9 HOK.out
    clear hown4 hownZ
    go_wp2
    go_ret2
    exact ⟨_, by rw [HC.out]; rfl, by rw [HF.out]; exact hn⟩
  · skip
    refine wpMix_act (by kernel_rfl) (fun K hK => ?_)
    go_big_op
    refine hK _ _ (regrown_of_below (hS0.alloc hS0.size _)) ?_
    clear hK K
    refine mix_world (fun N => Below (w3.heap.size) w3 N ∧ (N.heap[w3.drew.heap.size]? = some (.cells #[.int .i64 x.hour, .int .i64 x.snow, .int .i64 x.degrees, .int .i64 x.wind] 66 (0, 0)) ∧ Below w3.drew.heap.size w3.drew N ∧ w3.drew.heap.size < N.heap.size)) ⟨hS0.alloc hS0.size _, ⟨heap_alloc_new w3.drew _, (Below.refl _ _).alloc (Nat.le_refl _) _, by simp⟩⟩ ?_
    rintro wr4 ⟨hbr4S, hbr4F⟩
    refine wpMix_act (by kernel_rfl) (fun K hK => ?_)
    go_big_op
    refine (cloneObserved_any _ xs fp wr4 (hx3.below' (hbr4S)) (by omega)).mono ?_
    rintro e wr5 ⟨v3, rfl, hown, hbr5⟩
    have hbr5S : Below (w3.heap.size) w3 wr5 := hbr4S.trans (hbr5.mono hbr4S.size)
    refine hK _ _ (regrown_of_below hbr5S) ?_
    clear hK K
    refine wpMix_act (by kernel_rfl) (fun K hK => ?_)
    go_big_op
    refine (insObserved_any v3 xs x at_ w3.drew.heap.size wr4.heap.size wr5 hown hat ((hbr5.block _ hbr4F.2.2).trans hbr4F.1) (fun g hg => by have := (hown.lt g hg).1; have := hbr4F.2.2; omega) (by omega) (hbr5.size)).mono ?_
    rintro e wr6 ⟨v4, rfl, hown4, hbr6⟩
    have hbr6S : Below (w3.heap.size) w3 wr6 := hbr5S.trans (hbr6.mono (Nat.le_of_lt hbr4F.2.2))
    refine hK _ _ (regrown_of_below hbr6S) ?_
    clear hK K
    refine wpMix_pure (by kernel_rfl) (fun K hK => ?_); go_big_quiet_op; refine hK _ ?_; clear hK K
    refine wpMix_pure (by kernel_rfl) (fun K hK => ?_); go_big_quiet_op; refine hK _ ?_; clear hK K
    refine wpMix_nil ?_
    have hS9 : Below w3.heap.size w3 wr6 := hbr6S
    have hB9 := hB3.trans (hS9.mono hB3.size)
    have hownZ : Own fObserved wr6 w.heap.size 66 v4 (xs.take at_ ++ x :: xs.drop at_) := ownM_ hown4 (by have := hB3.size; first | exact this | (have h9 := hbr4S.size; omega) | (have h9 := hbr1S.size; omega))
    have hn := hownZ.new hB9 HOK.out
    clear hown4 hownZ
    go_wp2
    go_ret2
    exact ⟨_, by rw [HC.out]; rfl, by rw [HF.out]; exact hn⟩

end Go.Proofs.YtfgmikgghpflbaaGreatDoor
