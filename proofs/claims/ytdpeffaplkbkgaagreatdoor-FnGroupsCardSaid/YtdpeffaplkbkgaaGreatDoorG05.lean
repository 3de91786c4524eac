/- Parts of the proof: Gg, Psr, Kg, Law, LawS, Kl, Ig, InGroup, Ow, Tc, Kh. -/
import Derived.Test.YtdpeffaplkbkgaaGreatDoorG04
import Derived.Test.YtdpeffaplkbkgaaGreatDoorG02
import Derived.Test.YtdpeffaplkbkgaaGreatDoorG01
import Derived.ProofKit
import Derived.ChangeSame
import Derived.HandedShaped
import Derived.Shelf.Vars
import Derived.Lib.AppendZerosOnto
import Derived.Lib.Overlaps
import Derived.Laws.Externs
import Derived.Deep.RegionHeld
import Derived.Lib.QuietBelow
import Derived.Deep.CutRange
namespace Go.Proofs.YtdpeffaplkbkgaaGreatDoor
open Go.RowKit
set_option linter.unusedVariables false

def g0 : DGroup := ⟨⟨#[]⟩, 0, 0, 0, 0, 0, 0⟩
def gOk (xs : List DGroup) (i : Nat) : Bool := groupB (xs.getD i g0) && (decide (i = 0) || ltS (xs.getD (i - 1) g0).id (xs.getD i g0).id)
def groupsB (xs : List DGroup) : Bool := allIdx (gOk xs) xs.length && decide (xs.length ≤ 8)
theorem gOk_zero {xs : List DGroup} (h : 0 < xs.length) : gOk xs 0 = groupB xs[0] := by simp [gOk, h]
theorem gOk_succ {xs : List DGroup} {m : Nat} (h : m + 1 < xs.length) : gOk xs (m + 1) = (groupB xs[m + 1] && ltS xs[m].id xs[m + 1].id) := by
  have h1 : m < xs.length := by omega
  simp [gOk, h, h1]
theorem groupsB_bad {xs : List DGroup} {k : Nat} (h : k < xs.length) (h1 : gOk xs k = false) : groupsB xs = false := by
  unfold groupsB; rw [allIdx_bad h h1]; rfl
theorem groupsB_one {xs : List DGroup} (h : groupsB xs = true) {k : Nat} (hk : k < xs.length) : groupB xs[k] = true := by
  unfold groupsB at h
  simp only [Bool.and_eq_true] at h
  have := allIdx_true.1 h.1 k hk
  unfold gOk at this
  simp only [Bool.and_eq_true] at this
  rw [getD_of_lt hk] at this
  exact this.1
theorem groupsB_len {xs : List DGroup} (h : groupsB xs = true) : xs.length ≤ 8 := by
  unfold groupsB at h; simp at h; exact h.2
set_option maxRecDepth 100000 in
set_option maxHeartbeats 4000000 in
theorem l24Ok_any (v : Value) (xs : List DGroup) (fp : List Nat) (w : World) (hx : Sl fGroup.cod w v xs fp) :
    Calls Tryz.prog 33 #[v] w fun e w' => e = .returned (.bool (groupsB xs)) ∧ Below w.heap.size w w' := by
  obtain ⟨A, cap, rfl, hlen, hcap⟩ := hx.form
  go_enter Tryz.func33, Tryz.ntmps33
  go_wp2
  go_loopw [3] (fun i wr => ∃ k : Nat, k ≤ xs.length ∧ i = .int .i64 k ∧ Hid (allIdx (gOk xs) k = true) ∧ Below w.heap.size w wr) (fun i _ => xs.length - (intOf i).toNat)
  case atStart => exact ⟨0, Nat.zero_le _, rfl, rfl, Below.refl _ _⟩
  case round =>
    obtain ⟨k, hk, rfl, H0, hb⟩ := hrel
    by_cases hlt : k < xs.length
    · rcases Nat.eq_zero_or_pos k with rfl | hpos
      · obtain ⟨b, off, rfl, _, hok, hp⟩ := PGroup.elem (hx.below' hb) hlt
        have hok0 : xs[0].id.size ≤ 9223372036854775807 := hok.1
        have c0 := hp.c0
        have hplt := hp.lt
        go_wp2
        have gc0 := cell_regrown c0
        refine wp_region_mix (C := fun w' => ∃ p : Regrown, w' = Go.Sort.grow (redrawn wr p.d) p.os) [true, true, true, false, true, true, true, true, true, true, true, true, true, true, true, true, true, true, true, true, true, true, true] (by kernel_rfl) (by kernel_rfl) (by kernel_rfl) (fun _ _ d _ _ h => by cases d <;> exact h) (regrown_of_below (Below.drew (Below.refl _ _))) ?_
        have hS0 : Below (wr.heap.size) wr wr.drew := Below.drew (Below.refl _ _)
        refine wpMix_pure (by kernel_rfl) (fun K hK => ?_); go_big_quiet_op; refine hK _ ?_; clear hK K
        refine wpMix_pure (by kernel_rfl) (fun K hK => ?_); go_big_quiet_op; refine hK _ ?_; clear hK K
        refine wpMix_pure (by kernel_rfl) (fun K hK => ?_); go_big_quiet_op; refine hK _ ?_; clear hK K
        refine wpMix_act (by kernel_rfl) (fun K hK => ?_)
        go_big_op
        refine (l24One_any _ _ _ _ (hp.below hS0 hplt) hok0).mono ?_
        rintro e wr1 ⟨rfl, hbr1⟩
        have hbr1S : Below (wr.heap.size) wr wr1 := hS0.trans (hbr1.mono hS0.size)
        refine hK _ _ (regrown_of_below hbr1S) ?_
        clear hK K
        cases hq3 : groupB xs[0]
        · skip
          refine wpMix_pure (by kernel_rfl) (fun K hK => ?_); go_big_quiet_op; refine hK _ ?_; clear hK K
          refine wpMix_pure (by kernel_rfl) (fun K hK => ?_); go_big_quiet_op; refine hK _ ?_; clear hK K
          refine wpMix_skip (by kernel_rfl) (fun K hK => ?_)
          simp only [Act.put, List.setIfInBounds_toArray, List.set_cons_zero, List.set_cons_succ]
          refine hK _ ?_; clear hK K
          refine wpMix_skip (by kernel_rfl) (fun K hK => ?_)
          simp only [Act.put, List.setIfInBounds_toArray, List.set_cons_zero, List.set_cons_succ]
          refine hK _ ?_; clear hK K
          refine wpMix_skip (by kernel_rfl) (fun K hK => ?_)
          simp only [Act.put, List.setIfInBounds_toArray, List.set_cons_zero, List.set_cons_succ]
          refine hK _ ?_; clear hK K
          refine wpMix_skip (by kernel_rfl) (fun K hK => ?_)
          simp only [Act.put, List.setIfInBounds_toArray, List.set_cons_zero, List.set_cons_succ]
          refine hK _ ?_; clear hK K
          refine wpMix_skip (by kernel_rfl) (fun K hK => ?_)
          simp only [Act.put, List.setIfInBounds_toArray, List.set_cons_zero, List.set_cons_succ]
          refine hK _ ?_; clear hK K
          refine wpMix_skip (by kernel_rfl) (fun K hK => ?_)
          simp only [Act.put, List.setIfInBounds_toArray, List.set_cons_zero, List.set_cons_succ]
          refine hK _ ?_; clear hK K
          refine wpMix_skip (by kernel_rfl) (fun K hK => ?_)
          simp only [Act.put, List.setIfInBounds_toArray, List.set_cons_zero, List.set_cons_succ]
          refine hK _ ?_; clear hK K
          refine wpMix_skip (by kernel_rfl) (fun K hK => ?_)
          simp only [Act.put, List.setIfInBounds_toArray, List.set_cons_zero, List.set_cons_succ]
          refine hK _ ?_; clear hK K
          refine wpMix_skip (by kernel_rfl) (fun K hK => ?_)
          simp only [Act.put, List.setIfInBounds_toArray, List.set_cons_zero, List.set_cons_succ]
          refine hK _ ?_; clear hK K
          refine wpMix_skip (by kernel_rfl) (fun K hK => ?_)
          simp only [Act.put, List.setIfInBounds_toArray, List.set_cons_zero, List.set_cons_succ]
          refine hK _ ?_; clear hK K
          refine wpMix_skip (by kernel_rfl) (fun K hK => ?_)
          simp only [Act.put, List.setIfInBounds_toArray, List.set_cons_zero, List.set_cons_succ]
          refine hK _ ?_; clear hK K
          refine wpMix_skip (by kernel_rfl) (fun K hK => ?_)
          simp only [Act.put, List.setIfInBounds_toArray, List.set_cons_zero, List.set_cons_succ]
          refine hK _ ?_; clear hK K
          refine wpMix_skip (by kernel_rfl) (fun K hK => ?_)
          simp only [Act.put, List.setIfInBounds_toArray, List.set_cons_zero, List.set_cons_succ]
          refine hK _ ?_; clear hK K
          refine wpMix_skip (by kernel_rfl) (fun K hK => ?_)
          simp only [Act.put, List.setIfInBounds_toArray, List.set_cons_zero, List.set_cons_succ]
          refine hK _ ?_; clear hK K
          refine wpMix_skip (by kernel_rfl) (fun K hK => ?_)
          simp only [Act.put, List.setIfInBounds_toArray, List.set_cons_zero, List.set_cons_succ]
          refine hK _ ?_; clear hK K
          refine wpMix_skip (by kernel_rfl) (fun K hK => ?_)
          simp only [Act.put, List.setIfInBounds_toArray, List.set_cons_zero, List.set_cons_succ]
          refine hK _ ?_; clear hK K
          refine wpMix_pure (by kernel_rfl) (fun K hK => ?_); go_big_quiet_op; refine hK _ ?_; clear hK K
          refine wpMix_nil ?_
          go_wp2
          go_ret
          exact ⟨ret_bool (by rw [groupsB_bad hlt (by rw [gOk_zero hlt]; simp [*])]), hb.trans (hbr1S.mono hb.size)⟩
        · skip
          refine wpMix_pure (by kernel_rfl) (fun K hK => ?_); go_big_quiet_op; refine hK _ ?_; clear hK K
          refine wpMix_pure (by kernel_rfl) (fun K hK => ?_); go_big_quiet_op; refine hK _ ?_; clear hK K
          refine wpMix_pure (by kernel_rfl) (fun K hK => ?_); go_big_quiet_op; refine hK _ ?_; clear hK K
          refine wpMix_pure (by kernel_rfl) (fun K hK => ?_); go_big_quiet_op; refine hK _ ?_; clear hK K
          refine wpMix_pure (by kernel_rfl) (fun K hK => ?_); go_big_quiet_op; refine hK _ ?_; clear hK K
          refine wpMix_skip (by kernel_rfl) (fun K hK => ?_)
          simp only [Act.put, List.setIfInBounds_toArray, List.set_cons_zero, List.set_cons_succ]
          refine hK _ ?_; clear hK K
          refine wpMix_skip (by kernel_rfl) (fun K hK => ?_)
          simp only [Act.put, List.setIfInBounds_toArray, List.set_cons_zero, List.set_cons_succ]
          refine hK _ ?_; clear hK K
          refine wpMix_skip (by kernel_rfl) (fun K hK => ?_)
          simp only [Act.put, List.setIfInBounds_toArray, List.set_cons_zero, List.set_cons_succ]
          refine hK _ ?_; clear hK K
          refine wpMix_skip (by kernel_rfl) (fun K hK => ?_)
          simp only [Act.put, List.setIfInBounds_toArray, List.set_cons_zero, List.set_cons_succ]
          refine hK _ ?_; clear hK K
          refine wpMix_skip (by kernel_rfl) (fun K hK => ?_)
          simp only [Act.put, List.setIfInBounds_toArray, List.set_cons_zero, List.set_cons_succ]
          refine hK _ ?_; clear hK K
          refine wpMix_skip (by kernel_rfl) (fun K hK => ?_)
          simp only [Act.put, List.setIfInBounds_toArray, List.set_cons_zero, List.set_cons_succ]
          refine hK _ ?_; clear hK K
          refine wpMix_skip (by kernel_rfl) (fun K hK => ?_)
          simp only [Act.put, List.setIfInBounds_toArray, List.set_cons_zero, List.set_cons_succ]
          refine hK _ ?_; clear hK K
          refine wpMix_skip (by kernel_rfl) (fun K hK => ?_)
          simp only [Act.put, List.setIfInBounds_toArray, List.set_cons_zero, List.set_cons_succ]
          refine hK _ ?_; clear hK K
          refine wpMix_skip (by kernel_rfl) (fun K hK => ?_)
          simp only [Act.put, List.setIfInBounds_toArray, List.set_cons_zero, List.set_cons_succ]
          refine hK _ ?_; clear hK K
          refine wpMix_skip (by kernel_rfl) (fun K hK => ?_)
          simp only [Act.put, List.setIfInBounds_toArray, List.set_cons_zero, List.set_cons_succ]
          refine hK _ ?_; clear hK K
          refine wpMix_skip (by kernel_rfl) (fun K hK => ?_)
          simp only [Act.put, List.setIfInBounds_toArray, List.set_cons_zero, List.set_cons_succ]
          refine hK _ ?_; clear hK K
          refine wpMix_skip (by kernel_rfl) (fun K hK => ?_)
          simp only [Act.put, List.setIfInBounds_toArray, List.set_cons_zero, List.set_cons_succ]
          refine hK _ ?_; clear hK K
          refine wpMix_pure (by kernel_rfl) (fun K hK => ?_); go_big_quiet_op; refine hK _ ?_; clear hK K
          refine wpMix_pure (by kernel_rfl) (fun K hK => ?_); go_big_quiet_op; refine hK _ ?_; clear hK K
          refine wpMix_nil ?_
          go_wp2
          go_roundw
          case rel => exact ⟨0 + 1, by omega, by go_num, allIdx_step H0.out (by rw [gOk_zero hlt, hq3]), hb.trans (hbr1S.mono hb.size)⟩
          case measure => simp [intOf]; omega
      · obtain ⟨m, rfl⟩ : ∃ m, k = m + 1 := ⟨k - 1, by omega⟩
        have hm : m < xs.length := by omega
        obtain ⟨b, off, rfl, _, hok, hp⟩ := PGroup.elem (hx.below' hb) hlt
        have hok0 : xs[m + 1].id.size ≤ 9223372036854775807 := hok.1
        have c0 := hp.c0
        have hplt := hp.lt
        obtain ⟨b1, off1, hA1, _, hokm, hpm⟩ := PGroup.elem (hx.below' hb) hm
        injection hA1 with hA1
        injection hA1 with hA1 hA2 _
        subst hA1 hA2
        have d0 := hpm.c0
        clear hpm
        go_wp2
        have gc0 := cell_regrown c0
        have gd0 := cell_regrown d0
        refine wp_region_mix (C := fun w' => ∃ p : Regrown, w' = Go.Sort.grow (redrawn wr p.d) p.os) [true, true, true, false, true, true, true, true, true, true, true, true, true, true, true, true, true, true, true, true, true, true, true] (by kernel_rfl) (by kernel_rfl) (by kernel_rfl) (fun _ _ d _ _ h => by cases d <;> exact h) (regrown_of_below (Below.drew (Below.refl _ _))) ?_
        have hS0 : Below (wr.heap.size) wr wr.drew := Below.drew (Below.refl _ _)
        refine wpMix_pure (by kernel_rfl) (fun K hK => ?_); go_big_quiet_op; refine hK _ ?_; clear hK K
        refine wpMix_pure (by kernel_rfl) (fun K hK => ?_); go_big_quiet_op; refine hK _ ?_; clear hK K
        refine wpMix_pure (by kernel_rfl) (fun K hK => ?_); go_big_quiet_op; refine hK _ ?_; clear hK K
        refine wpMix_act (by kernel_rfl) (fun K hK => ?_)
        go_big_op
        refine (l24One_any _ _ _ _ (hp.below hS0 hplt) hok0).mono ?_
        rintro e wr1 ⟨rfl, hbr1⟩
        have hbr1S : Below (wr.heap.size) wr wr1 := hS0.trans (hbr1.mono hS0.size)
        refine hK _ _ (regrown_of_below hbr1S) ?_
        clear hK K
        cases hq3 : groupB xs[m + 1]
        · skip
          refine wpMix_pure (by kernel_rfl) (fun K hK => ?_); go_big_quiet_op; refine hK _ ?_; clear hK K
          refine wpMix_pure (by kernel_rfl) (fun K hK => ?_); go_big_quiet_op; refine hK _ ?_; clear hK K
          refine wpMix_skip (by kernel_rfl) (fun K hK => ?_)
          simp only [Act.put, List.setIfInBounds_toArray, List.set_cons_zero, List.set_cons_succ]
          refine hK _ ?_; clear hK K
          refine wpMix_skip (by kernel_rfl) (fun K hK => ?_)
          simp only [Act.put, List.setIfInBounds_toArray, List.set_cons_zero, List.set_cons_succ]
          refine hK _ ?_; clear hK K
          refine wpMix_skip (by kernel_rfl) (fun K hK => ?_)
          simp only [Act.put, List.setIfInBounds_toArray, List.set_cons_zero, List.set_cons_succ]
          refine hK _ ?_; clear hK K
          refine wpMix_skip (by kernel_rfl) (fun K hK => ?_)
          simp only [Act.put, List.setIfInBounds_toArray, List.set_cons_zero, List.set_cons_succ]
          refine hK _ ?_; clear hK K
          refine wpMix_skip (by kernel_rfl) (fun K hK => ?_)
          simp only [Act.put, List.setIfInBounds_toArray, List.set_cons_zero, List.set_cons_succ]
          refine hK _ ?_; clear hK K
          refine wpMix_skip (by kernel_rfl) (fun K hK => ?_)
          simp only [Act.put, List.setIfInBounds_toArray, List.set_cons_zero, List.set_cons_succ]
          refine hK _ ?_; clear hK K
          refine wpMix_skip (by kernel_rfl) (fun K hK => ?_)
          simp only [Act.put, List.setIfInBounds_toArray, List.set_cons_zero, List.set_cons_succ]
          refine hK _ ?_; clear hK K
          refine wpMix_skip (by kernel_rfl) (fun K hK => ?_)
          simp only [Act.put, List.setIfInBounds_toArray, List.set_cons_zero, List.set_cons_succ]
          refine hK _ ?_; clear hK K
          refine wpMix_skip (by kernel_rfl) (fun K hK => ?_)
          simp only [Act.put, List.setIfInBounds_toArray, List.set_cons_zero, List.set_cons_succ]
          refine hK _ ?_; clear hK K
          refine wpMix_skip (by kernel_rfl) (fun K hK => ?_)
          simp only [Act.put, List.setIfInBounds_toArray, List.set_cons_zero, List.set_cons_succ]
          refine hK _ ?_; clear hK K
          refine wpMix_skip (by kernel_rfl) (fun K hK => ?_)
          simp only [Act.put, List.setIfInBounds_toArray, List.set_cons_zero, List.set_cons_succ]
          refine hK _ ?_; clear hK K
          refine wpMix_skip (by kernel_rfl) (fun K hK => ?_)
          simp only [Act.put, List.setIfInBounds_toArray, List.set_cons_zero, List.set_cons_succ]
          refine hK _ ?_; clear hK K
          refine wpMix_skip (by kernel_rfl) (fun K hK => ?_)
          simp only [Act.put, List.setIfInBounds_toArray, List.set_cons_zero, List.set_cons_succ]
          refine hK _ ?_; clear hK K
          refine wpMix_skip (by kernel_rfl) (fun K hK => ?_)
          simp only [Act.put, List.setIfInBounds_toArray, List.set_cons_zero, List.set_cons_succ]
          refine hK _ ?_; clear hK K
          refine wpMix_skip (by kernel_rfl) (fun K hK => ?_)
          simp only [Act.put, List.setIfInBounds_toArray, List.set_cons_zero, List.set_cons_succ]
          refine hK _ ?_; clear hK K
          refine wpMix_skip (by kernel_rfl) (fun K hK => ?_)
          simp only [Act.put, List.setIfInBounds_toArray, List.set_cons_zero, List.set_cons_succ]
          refine hK _ ?_; clear hK K
          refine wpMix_pure (by kernel_rfl) (fun K hK => ?_); go_big_quiet_op; refine hK _ ?_; clear hK K
          refine wpMix_nil ?_
          go_wp2
          go_ret
          exact ⟨ret_bool (by rw [groupsB_bad hlt (by rw [gOk_succ hlt]; simp [*])]), hb.trans (hbr1S.mono hb.size)⟩
        · skip
          refine wpMix_pure (by kernel_rfl) (fun K hK => ?_); go_big_quiet_op; refine hK _ ?_; clear hK K
          refine wpMix_pure (by kernel_rfl) (fun K hK => ?_); go_big_quiet_op; refine hK _ ?_; clear hK K
          refine wpMix_pure (by kernel_rfl) (fun K hK => ?_); go_big_quiet_op; refine hK _ ?_; clear hK K
          refine wpMix_pure (by kernel_rfl) (fun K hK => ?_); go_big_quiet_op; refine hK _ ?_; clear hK K
          refine wpMix_pure (by kernel_rfl) (fun K hK => ?_); go_big_quiet_op; refine hK _ ?_; clear hK K
          refine wpMix_pure (by kernel_rfl) (fun K hK => ?_); go_big_quiet_op; refine hK _ ?_; clear hK K
          refine wpMix_pure (by kernel_rfl) (fun K hK => ?_); go_big_quiet_op; refine hK _ ?_; clear hK K
          refine wpMix_pure (by kernel_rfl) (fun K hK => ?_); go_big_quiet_op; refine hK _ ?_; clear hK K
          refine wpMix_pure (by kernel_rfl) (fun K hK => ?_); go_big_quiet_op; refine hK _ ?_; clear hK K
          refine wpMix_pure (by kernel_rfl) (fun K hK => ?_); go_big_quiet_op; refine hK _ ?_; clear hK K
          refine wpMix_pure (by kernel_rfl) (fun K hK => ?_); go_big_quiet_op; refine hK _ ?_; clear hK K
          refine wpMix_pure (by kernel_rfl) (fun K hK => ?_); go_big_quiet_op; refine hK _ ?_; clear hK K
          refine wpMix_pure (by kernel_rfl) (fun K hK => ?_); go_big_quiet_op; refine hK _ ?_; clear hK K
          refine wpMix_pure (by kernel_rfl) (fun K hK => ?_); go_big_quiet_op; refine hK _ ?_; clear hK K
          refine wpMix_pure (by kernel_rfl) (fun K hK => ?_); go_big_quiet_op; refine hK _ ?_; clear hK K
          refine wpMix_pure (by kernel_rfl) (fun K hK => ?_); go_big_quiet_op; refine hK _ ?_; clear hK K
          by_cases hq20 : ltS xs[m].id xs[m + 1].id = true
          · skip
            have e20 : Op.bytesLess xs[m].id.toList xs[m + 1].id.toList = true := hq20
            refine wpMix_pure (by kernel_rfl) (fun K hK => ?_); go_big_quiet_op; refine hK _ ?_; clear hK K
            refine wpMix_pure (by kernel_rfl) (fun K hK => ?_); go_big_quiet_op; refine hK _ ?_; clear hK K
            refine wpMix_pure (by kernel_rfl) (fun K hK => ?_); go_big_quiet_op; refine hK _ ?_; clear hK K
            refine wpMix_nil ?_
            go_wp2
            go_roundw
            case rel => exact ⟨m + 1 + 1, by omega, by go_num, allIdx_step H0.out (by rw [gOk_succ hlt, hq3]; simp [*]), hb.trans (hbr1S.mono hb.size)⟩
            case measure => simp [intOf]; omega
          · skip
            have e20 : Op.bytesLess xs[m].id.toList xs[m + 1].id.toList = false := by simpa [ltS] using hq20
            refine wpMix_pure (by kernel_rfl) (fun K hK => ?_); go_big_quiet_op; refine hK _ ?_; clear hK K
            refine wpMix_pure (by kernel_rfl) (fun K hK => ?_); go_big_quiet_op; refine hK _ ?_; clear hK K
            refine wpMix_pure (by kernel_rfl) (fun K hK => ?_); go_big_quiet_op; refine hK _ ?_; clear hK K
            refine wpMix_nil ?_
            go_wp2
            go_ret
            exact ⟨ret_bool (by rw [groupsB_bad hlt (by rw [gOk_succ hlt]; simp [*])]), hb.trans (hbr1S.mono hb.size)⟩
    · have HF := Lib.hid (allIdx_full (by omega) hk H0.out)
      by_cases hle : xs.length ≤ 8
      all_goals
        go_wp2
        go_ret
        exact ⟨ret_bool (by unfold groupsB; rw [HF.out]; simp [hle] <;> omega), hb⟩
set_option maxRecDepth 100000 in
set_option maxHeartbeats 4000000 in
theorem validGroups_any (v : Value) (xs : List DGroup) (fp : List Nat) (w : World) (hx : Sl fGroup.cod w v xs fp) :
    Calls Tryz.prog 29 #[v] w fun e w' => e = .returned (.bool (groupsB xs)) ∧ Below w.heap.size w w' := by
  obtain ⟨A, cap, rfl, hlen, hcap⟩ := hx.form
  by_cases hle : xs.length ≤ 8
  · go_enter Tryz.func29, Tryz.ntmps29
    go_wp2
    go_loopw [10] (fun i wr => ∃ k : Nat, k ≤ xs.length ∧ i = .int .i64 k ∧ Hid (allIdx (gOk xs) k = true) ∧ Below w.heap.size w wr) (fun i _ => xs.length - (intOf i).toNat)
    case atStart => exact ⟨0, Nat.zero_le _, rfl, rfl, Below.refl _ _⟩
    case round =>
      obtain ⟨k, hk, rfl, H0, hb⟩ := hrel
      by_cases hlt : k < xs.length
      · rcases Nat.eq_zero_or_pos k with rfl | hpos
        · skip
          obtain ⟨b, off, rfl, _, hok, hp⟩ := PGroup.elem (hx.below' hb) hlt
          rw [Nat.zero_mul, Nat.add_zero] at hp
          obtain ⟨c0, c1, c2, c3, c4, c5, c6⟩ := id hp
          go_wp2
          refine at_world (fun W => Below wr.heap.size wr W ∧ PGroup W wr.heap.size 0 xs[0]) ⟨(Below.refl _ _).alloc (Nat.le_refl _) _, PGroup.box wr xs[0] _⟩ ?_
          clear c0 c1 c2 c3 c4 c5 c6
          rintro W ⟨hW, hpW⟩
          obtain ⟨c0, c1, c2, c3, c4, c5, c6⟩ := id hpW
          have gc0 := cell_regrown c0
          have gc1 := cell_regrown c1
          have gc2 := cell_regrown c2
          have gc3 := cell_regrown c3
          have gc4 := cell_regrown c4
          have gc5 := cell_regrown c5
          have gc6 := cell_regrown c6
          refine wp_region_mix (C := fun w' => ∃ p : Regrown, w' = Go.Sort.grow (redrawn W p.d) p.os) [true, false, true, true, true, true, true, true, true, true, true, true, true, true, true, true, true, true] (by kernel_rfl) (by kernel_rfl) (by kernel_rfl) (fun _ _ d _ _ h => by cases d <;> exact h) (regrown_of_below (Below.drew (Below.refl _ _))) ?_
          have hS0 : Below (W.heap.size) W W.drew := Below.drew (Below.refl _ _)
          refine wpMix_pure (by kernel_rfl) (fun K hK => ?_); go_big_quiet_op; refine hK _ ?_; clear hK K
          refine wpMix_act (by kernel_rfl) (fun K hK => ?_)
          go_big_op
          refine (implValid_any xs[0] _ hok).mono ?_
          rintro e wr1 ⟨rfl, hbr1⟩
          have hbr1S : Below (W.heap.size) W wr1 := hS0.trans (hbr1.mono hS0.size)
          refine hK _ _ (regrown_of_below hbr1S) ?_
          clear hK K
          cases hq1 : groupB xs[0]
          · skip
            refine wpMix_pure (by kernel_rfl) (fun K hK => ?_); go_big_quiet_op; refine hK _ ?_; clear hK K
            refine wpMix_pure (by kernel_rfl) (fun K hK => ?_); go_big_quiet_op; refine hK _ ?_; clear hK K
            refine wpMix_skip (by kernel_rfl) (fun K hK => ?_)
            simp only [Act.put, List.setIfInBounds_toArray, List.set_cons_zero, List.set_cons_succ]
            refine hK _ ?_; clear hK K
            refine wpMix_skip (by kernel_rfl) (fun K hK => ?_)
            simp only [Act.put, List.setIfInBounds_toArray, List.set_cons_zero, List.set_cons_succ]
            refine hK _ ?_; clear hK K
            refine wpMix_skip (by kernel_rfl) (fun K hK => ?_)
            simp only [Act.put, List.setIfInBounds_toArray, List.set_cons_zero, List.set_cons_succ]
            refine hK _ ?_; clear hK K
            refine wpMix_skip (by kernel_rfl) (fun K hK => ?_)
            simp only [Act.put, List.setIfInBounds_toArray, List.set_cons_zero, List.set_cons_succ]
            refine hK _ ?_; clear hK K
            refine wpMix_skip (by kernel_rfl) (fun K hK => ?_)
            simp only [Act.put, List.setIfInBounds_toArray, List.set_cons_zero, List.set_cons_succ]
            refine hK _ ?_; clear hK K
            refine wpMix_skip (by kernel_rfl) (fun K hK => ?_)
            simp only [Act.put, List.setIfInBounds_toArray, List.set_cons_zero, List.set_cons_succ]
            refine hK _ ?_; clear hK K
            refine wpMix_skip (by kernel_rfl) (fun K hK => ?_)
            simp only [Act.put, List.setIfInBounds_toArray, List.set_cons_zero, List.set_cons_succ]
            refine hK _ ?_; clear hK K
            refine wpMix_skip (by kernel_rfl) (fun K hK => ?_)
            simp only [Act.put, List.setIfInBounds_toArray, List.set_cons_zero, List.set_cons_succ]
            refine hK _ ?_; clear hK K
            refine wpMix_skip (by kernel_rfl) (fun K hK => ?_)
            simp only [Act.put, List.setIfInBounds_toArray, List.set_cons_zero, List.set_cons_succ]
            refine hK _ ?_; clear hK K
            refine wpMix_skip (by kernel_rfl) (fun K hK => ?_)
            simp only [Act.put, List.setIfInBounds_toArray, List.set_cons_zero, List.set_cons_succ]
            refine hK _ ?_; clear hK K
            refine wpMix_skip (by kernel_rfl) (fun K hK => ?_)
            simp only [Act.put, List.setIfInBounds_toArray, List.set_cons_zero, List.set_cons_succ]
            refine hK _ ?_; clear hK K
            refine wpMix_skip (by kernel_rfl) (fun K hK => ?_)
            simp only [Act.put, List.setIfInBounds_toArray, List.set_cons_zero, List.set_cons_succ]
            refine hK _ ?_; clear hK K
            refine wpMix_skip (by kernel_rfl) (fun K hK => ?_)
            simp only [Act.put, List.setIfInBounds_toArray, List.set_cons_zero, List.set_cons_succ]
            refine hK _ ?_; clear hK K
            refine wpMix_pure (by kernel_rfl) (fun K hK => ?_); go_big_quiet_op; refine hK _ ?_; clear hK K
            refine wpMix_nil ?_
            go_wp2
            go_ret
            exact ⟨ret_bool (by rw [groupsB_bad hlt (by rw [gOk_zero hlt]; simp [*])]), hb.trans (hW.trans (hbr1S.mono hW.size) |>.mono hb.size)⟩
          · skip
            refine wpMix_pure (by kernel_rfl) (fun K hK => ?_); go_big_quiet_op; refine hK _ ?_; clear hK K
            refine wpMix_pure (by kernel_rfl) (fun K hK => ?_); go_big_quiet_op; refine hK _ ?_; clear hK K
            refine wpMix_pure (by kernel_rfl) (fun K hK => ?_); go_big_quiet_op; refine hK _ ?_; clear hK K
            refine wpMix_pure (by kernel_rfl) (fun K hK => ?_); go_big_quiet_op; refine hK _ ?_; clear hK K
            refine wpMix_pure (by kernel_rfl) (fun K hK => ?_); go_big_quiet_op; refine hK _ ?_; clear hK K
            refine wpMix_skip (by kernel_rfl) (fun K hK => ?_)
            simp only [Act.put, List.setIfInBounds_toArray, List.set_cons_zero, List.set_cons_succ]
            refine hK _ ?_; clear hK K
            refine wpMix_skip (by kernel_rfl) (fun K hK => ?_)
            simp only [Act.put, List.setIfInBounds_toArray, List.set_cons_zero, List.set_cons_succ]
            refine hK _ ?_; clear hK K
            refine wpMix_skip (by kernel_rfl) (fun K hK => ?_)
            simp only [Act.put, List.setIfInBounds_toArray, List.set_cons_zero, List.set_cons_succ]
            refine hK _ ?_; clear hK K
            refine wpMix_skip (by kernel_rfl) (fun K hK => ?_)
            simp only [Act.put, List.setIfInBounds_toArray, List.set_cons_zero, List.set_cons_succ]
            refine hK _ ?_; clear hK K
            refine wpMix_skip (by kernel_rfl) (fun K hK => ?_)
            simp only [Act.put, List.setIfInBounds_toArray, List.set_cons_zero, List.set_cons_succ]
            refine hK _ ?_; clear hK K
            refine wpMix_skip (by kernel_rfl) (fun K hK => ?_)
            simp only [Act.put, List.setIfInBounds_toArray, List.set_cons_zero, List.set_cons_succ]
            refine hK _ ?_; clear hK K
            refine wpMix_skip (by kernel_rfl) (fun K hK => ?_)
            simp only [Act.put, List.setIfInBounds_toArray, List.set_cons_zero, List.set_cons_succ]
            refine hK _ ?_; clear hK K
            refine wpMix_skip (by kernel_rfl) (fun K hK => ?_)
            simp only [Act.put, List.setIfInBounds_toArray, List.set_cons_zero, List.set_cons_succ]
            refine hK _ ?_; clear hK K
            refine wpMix_skip (by kernel_rfl) (fun K hK => ?_)
            simp only [Act.put, List.setIfInBounds_toArray, List.set_cons_zero, List.set_cons_succ]
            refine hK _ ?_; clear hK K
            refine wpMix_pure (by kernel_rfl) (fun K hK => ?_); go_big_quiet_op; refine hK _ ?_; clear hK K
            refine wpMix_pure (by kernel_rfl) (fun K hK => ?_); go_big_quiet_op; refine hK _ ?_; clear hK K
            refine wpMix_nil ?_
            go_wp2
            go_roundw
            case rel => exact ⟨0 + 1, by omega, by go_num, allIdx_step H0.out (by rw [gOk_zero hlt, hq1]), hb.trans (hW.trans (hbr1S.mono hW.size) |>.mono hb.size)⟩
            case measure => simp [intOf]; omega
        · obtain ⟨m, rfl⟩ : ∃ m, k = m + 1 := ⟨k - 1, by omega⟩
          have hm : m < xs.length := by omega
          obtain ⟨b, off, rfl, _, hok, hp⟩ := PGroup.elem (hx.below' hb) hlt
          skip
          obtain ⟨c0, c1, c2, c3, c4, c5, c6⟩ := id hp
          obtain ⟨b1, off1, hA1, _, hokm, hpm⟩ := PGroup.elem (hx.below' hb) hm
          injection hA1 with hA1
          injection hA1 with hA1 hA2 _
          subst hA1 hA2
          have d0 := hpm.c0
          go_wp2
          refine at_world (fun W => Below wr.heap.size wr W ∧ PGroup W wr.heap.size 0 xs[m + 1] ∧ W.cell? ⟨b, off + m * 7, none⟩ = some (.string xs[m].id)) ⟨(Below.refl _ _).alloc (Nat.le_refl _) _, PGroup.box wr xs[m + 1] _, (((Below.refl _ _).alloc (Nat.le_refl _) _).cell (block_lt_of_cell d0)).trans d0⟩ ?_
          clear c0 c1 c2 c3 c4 c5 c6 d0 hpm
          rintro W ⟨hW, hpW, d0⟩
          obtain ⟨c0, c1, c2, c3, c4, c5, c6⟩ := id hpW
          have gc0 := cell_regrown c0
          have gc1 := cell_regrown c1
          have gc2 := cell_regrown c2
          have gc3 := cell_regrown c3
          have gc4 := cell_regrown c4
          have gc5 := cell_regrown c5
          have gc6 := cell_regrown c6
          have gd0 := cell_regrown d0
          refine wp_region_mix (C := fun w' => ∃ p : Regrown, w' = Go.Sort.grow (redrawn W p.d) p.os) [true, false, true, true, true, true, true, true, true, true, true, true, true, true, true, true, true, true] (by kernel_rfl) (by kernel_rfl) (by kernel_rfl) (fun _ _ d _ _ h => by cases d <;> exact h) (regrown_of_below (Below.drew (Below.refl _ _))) ?_
          have hS0 : Below (W.heap.size) W W.drew := Below.drew (Below.refl _ _)
          refine wpMix_pure (by kernel_rfl) (fun K hK => ?_); go_big_quiet_op; refine hK _ ?_; clear hK K
          refine wpMix_act (by kernel_rfl) (fun K hK => ?_)
          go_big_op
          refine (implValid_any xs[m + 1] _ hok).mono ?_
          rintro e wr1 ⟨rfl, hbr1⟩
          have hbr1S : Below (W.heap.size) W wr1 := hS0.trans (hbr1.mono hS0.size)
          refine hK _ _ (regrown_of_below hbr1S) ?_
          clear hK K
          cases hq1 : groupB xs[m + 1]
          · skip
            refine wpMix_pure (by kernel_rfl) (fun K hK => ?_); go_big_quiet_op; refine hK _ ?_; clear hK K
            refine wpMix_pure (by kernel_rfl) (fun K hK => ?_); go_big_quiet_op; refine hK _ ?_; clear hK K
            refine wpMix_skip (by kernel_rfl) (fun K hK => ?_)
            simp only [Act.put, List.setIfInBounds_toArray, List.set_cons_zero, List.set_cons_succ]
            refine hK _ ?_; clear hK K
            refine wpMix_skip (by kernel_rfl) (fun K hK => ?_)
            simp only [Act.put, List.setIfInBounds_toArray, List.set_cons_zero, List.set_cons_succ]
            refine hK _ ?_; clear hK K
            refine wpMix_skip (by kernel_rfl) (fun K hK => ?_)
            simp only [Act.put, List.setIfInBounds_toArray, List.set_cons_zero, List.set_cons_succ]
            refine hK _ ?_; clear hK K
            refine wpMix_skip (by kernel_rfl) (fun K hK => ?_)
            simp only [Act.put, List.setIfInBounds_toArray, List.set_cons_zero, List.set_cons_succ]
            refine hK _ ?_; clear hK K
            refine wpMix_skip (by kernel_rfl) (fun K hK => ?_)
            simp only [Act.put, List.setIfInBounds_toArray, List.set_cons_zero, List.set_cons_succ]
            refine hK _ ?_; clear hK K
            refine wpMix_skip (by kernel_rfl) (fun K hK => ?_)
            simp only [Act.put, List.setIfInBounds_toArray, List.set_cons_zero, List.set_cons_succ]
            refine hK _ ?_; clear hK K
            refine wpMix_skip (by kernel_rfl) (fun K hK => ?_)
            simp only [Act.put, List.setIfInBounds_toArray, List.set_cons_zero, List.set_cons_succ]
            refine hK _ ?_; clear hK K
            refine wpMix_skip (by kernel_rfl) (fun K hK => ?_)
            simp only [Act.put, List.setIfInBounds_toArray, List.set_cons_zero, List.set_cons_succ]
            refine hK _ ?_; clear hK K
            refine wpMix_skip (by kernel_rfl) (fun K hK => ?_)
            simp only [Act.put, List.setIfInBounds_toArray, List.set_cons_zero, List.set_cons_succ]
            refine hK _ ?_; clear hK K
            refine wpMix_skip (by kernel_rfl) (fun K hK => ?_)
            simp only [Act.put, List.setIfInBounds_toArray, List.set_cons_zero, List.set_cons_succ]
            refine hK _ ?_; clear hK K
            refine wpMix_skip (by kernel_rfl) (fun K hK => ?_)
            simp only [Act.put, List.setIfInBounds_toArray, List.set_cons_zero, List.set_cons_succ]
            refine hK _ ?_; clear hK K
            refine wpMix_skip (by kernel_rfl) (fun K hK => ?_)
            simp only [Act.put, List.setIfInBounds_toArray, List.set_cons_zero, List.set_cons_succ]
            refine hK _ ?_; clear hK K
            refine wpMix_skip (by kernel_rfl) (fun K hK => ?_)
            simp only [Act.put, List.setIfInBounds_toArray, List.set_cons_zero, List.set_cons_succ]
            refine hK _ ?_; clear hK K
            refine wpMix_pure (by kernel_rfl) (fun K hK => ?_); go_big_quiet_op; refine hK _ ?_; clear hK K
            refine wpMix_nil ?_
            go_wp2
            go_ret
            exact ⟨ret_bool (by rw [groupsB_bad hlt (by rw [gOk_succ hlt]; simp [*])]), hb.trans (hW.trans (hbr1S.mono hW.size) |>.mono hb.size)⟩
          · skip
            refine wpMix_pure (by kernel_rfl) (fun K hK => ?_); go_big_quiet_op; refine hK _ ?_; clear hK K
            refine wpMix_pure (by kernel_rfl) (fun K hK => ?_); go_big_quiet_op; refine hK _ ?_; clear hK K
            refine wpMix_pure (by kernel_rfl) (fun K hK => ?_); go_big_quiet_op; refine hK _ ?_; clear hK K
            refine wpMix_pure (by kernel_rfl) (fun K hK => ?_); go_big_quiet_op; refine hK _ ?_; clear hK K
            refine wpMix_pure (by kernel_rfl) (fun K hK => ?_); go_big_quiet_op; refine hK _ ?_; clear hK K
            refine wpMix_pure (by kernel_rfl) (fun K hK => ?_); go_big_quiet_op; refine hK _ ?_; clear hK K
            refine wpMix_pure (by kernel_rfl) (fun K hK => ?_); go_big_quiet_op; refine hK _ ?_; clear hK K
            refine wpMix_pure (by kernel_rfl) (fun K hK => ?_); go_big_quiet_op; refine hK _ ?_; clear hK K
            refine wpMix_pure (by kernel_rfl) (fun K hK => ?_); go_big_quiet_op; refine hK _ ?_; clear hK K
            refine wpMix_pure (by kernel_rfl) (fun K hK => ?_); go_big_quiet_op; refine hK _ ?_; clear hK K
            refine wpMix_pure (by kernel_rfl) (fun K hK => ?_); go_big_quiet_op; refine hK _ ?_; clear hK K
            refine wpMix_pure (by kernel_rfl) (fun K hK => ?_); go_big_quiet_op; refine hK _ ?_; clear hK K
            refine wpMix_pure (by kernel_rfl) (fun K hK => ?_); go_big_quiet_op; refine hK _ ?_; clear hK K
            by_cases hq15 : ltS xs[m].id xs[m + 1].id = true
            · skip
              have e15 : (Op.bytesLess xs[m + 1].id.toList xs[m].id.toList || xs[m + 1].id.toList == xs[m].id.toList) = false := by rw [leS_eq, hq15]; rfl
              refine wpMix_pure (by kernel_rfl) (fun K hK => ?_); go_big_quiet_op; refine hK _ ?_; clear hK K
              refine wpMix_pure (by kernel_rfl) (fun K hK => ?_); go_big_quiet_op; refine hK _ ?_; clear hK K
              refine wpMix_pure (by kernel_rfl) (fun K hK => ?_); go_big_quiet_op; refine hK _ ?_; clear hK K
              refine wpMix_nil ?_
              go_wp2
              go_roundw
              case rel => exact ⟨m + 1 + 1, by omega, by go_num, allIdx_step H0.out (by rw [gOk_succ hlt, hq1]; simp [*]), hb.trans (hW.trans (hbr1S.mono hW.size) |>.mono hb.size)⟩
              case measure => simp [intOf]; omega
            · skip
              have e15 : (Op.bytesLess xs[m + 1].id.toList xs[m].id.toList || xs[m + 1].id.toList == xs[m].id.toList) = true := by rw [leS_eq]; simpa using hq15
              refine wpMix_pure (by kernel_rfl) (fun K hK => ?_); go_big_quiet_op; refine hK _ ?_; clear hK K
              refine wpMix_pure (by kernel_rfl) (fun K hK => ?_); go_big_quiet_op; refine hK _ ?_; clear hK K
              refine wpMix_pure (by kernel_rfl) (fun K hK => ?_); go_big_quiet_op; refine hK _ ?_; clear hK K
              refine wpMix_nil ?_
              go_wp2
              go_ret
              exact ⟨ret_bool (by rw [groupsB_bad hlt (by rw [gOk_succ hlt]; simp [*])]), hb.trans (hW.trans (hbr1S.mono hW.size) |>.mono hb.size)⟩
      · have HF := Lib.hid (allIdx_full (by omega) hk H0.out)
        go_wp2
        go_ret
        exact ⟨ret_bool (by unfold groupsB; rw [HF.out]; simp [hle]), hb⟩
  · go_enter Tryz.func29, Tryz.ntmps29
    go_wp2
    go_ret
    exact ⟨ret_bool (by unfold groupsB; simp <;> omega), Below.refl _ _⟩
def gpF (x : DGroup) : List ByteArray := if groupB x then lacksF x else []
def gpC (x : DGroup) : Int := if groupB x then 0 else 1
theorem gpF_len (x : DGroup) : (gpF x).length ≤ 100000000000 := by unfold gpF; split; exact Nat.le_trans (lacksF_len x) (by decide); simp
set_option maxRecDepth 100000 in
set_option maxHeartbeats 1000000 in
theorem specGroupProblems_any (x : DGroup) (w : World) (hok : fGroup.ok x) :
    Calls Tryz.prog 13 #[.agg #[.string x.id, .int .i64 x.people, .int .i64 x.guides, .int .i64 x.beacons, .int .i64 x.shovels, .int .i64 x.probes, .int .i64 x.skill]] w fun e w' => NewR2 fStr.cod w (gpF x) (gpC x) e w' := by
  have hp := PGroup.box w x 25
  have hok0 : x.id.size ≤ 9223372036854775807 := hok.1
  go_enter Tryz.func13, Tryz.ntmps13
  go_wp2_with fail
  refine (l24One_any _ 0 x _ hp hok0).mono ?_
  rintro e w1 ⟨rfl, hb⟩
  have hp1 := hp.below' hb
  have hb' : Below w.heap.size w w1 := ((Below.refl _ _).alloc (Nat.le_refl _) _).trans (hb.mono (by simp))
  cases h0 : groupB x
  · go_wp2
    go_ret2
    exact ⟨_, by rw [gpC, h0]; rfl, by rw [gpF, h0]; exact New.nil hb'⟩
  · go_wp2_with fail
    refine (l24Lacks_any _ 0 x _ hp1).mono ?_
    rintro e w2 ⟨v, rfl, hn⟩
    have hn' := hn.later hb'
    go_wp2
    go_ret2
    exact ⟨_, by rw [gpC, h0]; rfl, by rw [gpF, h0]; exact hn'⟩

end Go.Proofs.YtdpeffaplkbkgaaGreatDoor

namespace Go.Proofs.YtdpeffaplkbkgaaGreatDoor
open Go.RowKit
set_option linter.unusedVariables false

def sumG (x y : DGroup) (id : ByteArray) : DGroup := ⟨id, x.people + y.people, x.guides + y.guides, x.beacons + y.beacons, x.shovels + y.shovels, x.probes + y.probes, min x.skill y.skill⟩
structure GrpIn (x : DGroup) : Prop where
  id : x.id.size ≤ 1000
  p : 0 ≤ x.people ∧ x.people ≤ 1000
  g : 0 ≤ x.guides ∧ x.guides ≤ 1000
  b : 0 ≤ x.beacons ∧ x.beacons ≤ 1000
  s : 0 ≤ x.shovels ∧ x.shovels ≤ 1000
  r : 0 ≤ x.probes ∧ x.probes ≤ 1000
  k : 0 ≤ x.skill ∧ x.skill ≤ 1000
theorem GrpIn.of {x : DGroup} (h : groupB x = true) : GrpIn x := by
  unfold groupB at h
  simp only [Bool.and_eq_true, inB_true] at h
  obtain ⟨⟨⟨⟨⟨⟨h0, h1⟩, h2⟩, h3⟩, h4⟩, h5⟩, h6⟩ := h
  have h7 : x.id.size ≤ 10 := by
    by_cases h8 : 10 < x.id.size
    · rw [nameB_long h8] at h0; cases h0
    · omega
  refine ⟨?_, ?_, ?_, ?_, ?_, ?_, ?_⟩ <;> omega
theorem sumG_ok {x y : DGroup} (hx : GrpIn x) (hy : GrpIn y) {id : ByteArray} (hi : id.size ≤ 1000) : fGroup.ok (sumG x y id) := by
  obtain ⟨_, a1, a2, a3, a4, a5, a6⟩ := hx
  obtain ⟨_, b1, b2, b3, b4, b5, b6⟩ := hy
  unfold sumG
  refine ⟨?_, ?_, ?_, ?_, ?_, ?_, ?_⟩ <;> first | (show _ ≤ _; simp only; omega) | (show _ ∧ _; simp only; omega)
theorem w64_inS (n : Int) (h : -9223372036854775808 ≤ n ∧ n ≤ 9223372036854775807) : wrap64 n = n := by unfold wrap64; omega
set_option maxRecDepth 100000 in
set_option maxHeartbeats 4000000 in
theorem with_any (x y : DGroup) (id : ByteArray) (w : World) (hx : GrpIn x) (hy : GrpIn y) :
    Calls Tryz.prog 38 #[.agg #[.string x.id, .int .i64 x.people, .int .i64 x.guides, .int .i64 x.beacons, .int .i64 x.shovels, .int .i64 x.probes, .int .i64 x.skill], .agg #[.string y.id, .int .i64 y.people, .int .i64 y.guides, .int .i64 y.beacons, .int .i64 y.shovels, .int .i64 y.probes, .int .i64 y.skill], .string id] w fun e w' =>
      e = .returned (.agg #[.string id, .int .i64 (x.people + y.people), .int .i64 (x.guides + y.guides), .int .i64 (x.beacons + y.beacons), .int .i64 (x.shovels + y.shovels), .int .i64 (x.probes + y.probes), .int .i64 (min x.skill y.skill)]) ∧ Below w.heap.size w w' := by
  obtain ⟨_, a1, a2, a3, a4, a5, a6⟩ := hx
  obtain ⟨_, b1, b2, b3, b4, b5, b6⟩ := hy
  have e1 := w64_inS (x.people + y.people) (by omega)
  have e2 := w64_inS (x.guides + y.guides) (by omega)
  have e3 := w64_inS (x.beacons + y.beacons) (by omega)
  have e4 := w64_inS (x.shovels + y.shovels) (by omega)
  have e5 := w64_inS (x.probes + y.probes) (by omega)
  go_enter Tryz.func38, Tryz.ntmps38
  go_wp2
  refine bodyPost_ret (v := .agg #[.string id, .int .i64 (x.people + y.people), .int .i64 (x.guides + y.guides), .int .i64 (x.beacons + y.beacons), .int .i64 (x.shovels + y.shovels), .int .i64 (x.probes + y.probes), .int .i64 (min x.skill y.skill)]) (by simp [results, Tryz.results38, go_sem]) rfl ⟨rfl, (by repeat (first | exact Below.refl _ _ | assumption | refine Below.alloc ?_ (by first | omega | (simp <;> omega)) _ | refine Below.setCell ?_ (by first | (show _ ≤ _; omega) | (simp <;> omega)) _ | refine Below.drew ?_ | refine below_drewN ?_ _))⟩
end Go.Proofs.YtdpeffaplkbkgaaGreatDoor

namespace Go.Proofs.YtdpeffaplkbkgaaGreatDoor
open Go.RowKit
set_option linter.unusedVariables false

/-- The share of part k of n. -/
def shareF (n parts : Int) (k : Nat) : Int := n * ((k : Int) + 1) / parts - n * (k : Int) / parts
def shareS (n parts : Int) : Nat → Int
  | 0 => 0
  | k + 1 => shareS n parts k + shareF n parts k
theorem shareS_eq (n parts : Int) (k : Nat) : shareS n parts k = n * (k : Int) / parts := by
  induction k with
  | zero => simp [shareS]
  | succ k ih =>
    rw [shareS, ih, shareF, show ((k + 1 : Nat) : Int) = (k : Int) + 1 by omega]
    omega
/-- The parts together are the whole. -/
theorem share_all {n : Int} {p : Nat} (hp : 0 < p) : shareS n (p : Int) p = n := by
  rw [shareS_eq, Int.mul_ediv_cancel _ (by omega)]
theorem share_nn {n parts : Int} (hn : 0 ≤ n) (hp : 0 < parts) (k : Nat) : 0 ≤ shareF n parts k := by
  unfold shareF
  have h1 : n * (k : Int) ≤ n * ((k : Int) + 1) := Int.mul_le_mul_of_nonneg_left (by omega) hn
  have := Int.ediv_le_ediv hp h1
  omega
def partF (x : DGroup) (parts : Int) (k : Nat) : DGroup := ⟨x.id ++ ⟨#[UInt8.ofNat (97 + k)]⟩, shareF x.people parts k, shareF x.guides parts k, shareF x.beacons parts k, shareF x.shovels parts k, shareF x.probes parts k, x.skill⟩
def partsF_ (x : DGroup) (parts : Int) (k : Nat) : List DGroup := (List.range k).map (partF x parts)
def splitC (x : DGroup) (parts : Int) : Int := if groupB x = false then 1 else if inB parts 2 (min x.people 4) = false then 2 else if (partsF_ x parts parts.toNat).all groupB = false then 6 else 0
def splitF (x : DGroup) (parts : Int) : List DGroup := if splitC x parts = 0 then partsF_ x parts parts.toNat else []
theorem partsF_len (x : DGroup) (parts : Int) (k : Nat) : (partsF_ x parts k).length = k := by simp [partsF_]
theorem partsF_succ (x : DGroup) (parts : Int) (k : Nat) : partsF_ x parts (k + 1) = partsF_ x parts k ++ [partF x parts k] := by
  unfold partsF_; rw [List.range_succ, List.map_append]; rfl
theorem partsF_get (x : DGroup) (parts : Int) (k i : Nat) (h : i < (partsF_ x parts k).length) : (partsF_ x parts k)[i] = partF x parts i := by simp [partsF_]
theorem splitC_zero {x : DGroup} {parts : Int} (h : splitC x parts = 0) : groupB x = true ∧ (2 ≤ parts ∧ parts ≤ 4 ∧ parts ≤ x.people) ∧ ∀ k, k < parts.toNat → groupB (partF x parts k) = true := by
  unfold splitC at h
  cases h1 : groupB x <;> cases h2 : inB parts 2 (min x.people 4) <;> cases h3 : (partsF_ x parts parts.toNat).all groupB <;> simp [h1, h2, h3] at h
  have h4 := inB_true.1 h2
  refine ⟨rfl, by omega, fun k hk => ?_⟩
  rw [List.all_eq_true] at h3
  have := h3 (partF x parts k) (by unfold partsF_; exact List.mem_map.2 ⟨k, by simpa using hk, rfl⟩)
  exact this

/-- What group a gives group b of one thing. -/
def giveF (ha pa hb pb : Int) : Int := min (max (ha - pa) 0) (max (pb - hb) 0)
theorem give_nn (ha pa hb pb : Int) : 0 ≤ giveF ha pa hb pb := by unfold giveF; omega
theorem give_a {ha pa hb pb : Int} : giveF ha pa hb pb = 0 ∨ pa ≤ ha - giveF ha pa hb pb := by unfold giveF; omega
theorem give_b {ha pa hb pb : Int} : giveF ha pa hb pb = 0 ∨ hb + giveF ha pa hb pb ≤ pb := by unfold giveF; omega
def lendA (a b : DGroup) : DGroup := ⟨a.id, a.people, a.guides, a.beacons - giveF a.beacons a.people b.beacons b.people, a.shovels - giveF a.shovels a.people b.shovels b.people, a.probes - giveF a.probes a.people b.probes b.people, a.skill⟩
def lendB (a b : DGroup) : DGroup := ⟨b.id, b.people, b.guides, b.beacons + giveF a.beacons a.people b.beacons b.people, b.shovels + giveF a.shovels a.people b.shovels b.people, b.probes + giveF a.probes a.people b.probes b.people, b.skill⟩
theorem groupB_bounds {x : DGroup} (h : groupB x = true) : nameB x.id = true ∧ (1 ≤ x.people ∧ x.people ≤ 30) ∧ (0 ≤ x.guides ∧ x.guides ≤ x.people) ∧ (0 ≤ x.beacons ∧ x.beacons ≤ 30) ∧ (0 ≤ x.shovels ∧ x.shovels ≤ 30) ∧ (0 ≤ x.probes ∧ x.probes ≤ 30) ∧ (1 ≤ x.skill ∧ x.skill ≤ 5) := by
  unfold groupB at h
  simp only [Bool.and_eq_true] at h
  obtain ⟨⟨⟨⟨⟨⟨h1, h2⟩, h3⟩, h4⟩, h5⟩, h6⟩, h7⟩ := h
  exact ⟨h1, inB_true.1 h2, inB_true.1 h3, inB_true.1 h4, inB_true.1 h5, inB_true.1 h6, inB_true.1 h7⟩
theorem groupB_of {x : DGroup} (h1 : nameB x.id = true) (h2 : 1 ≤ x.people ∧ x.people ≤ 30) (h3 : 0 ≤ x.guides ∧ x.guides ≤ x.people) (h4 : 0 ≤ x.beacons ∧ x.beacons ≤ 30) (h5 : 0 ≤ x.shovels ∧ x.shovels ≤ 30) (h6 : 0 ≤ x.probes ∧ x.probes ≤ 30) (h7 : 1 ≤ x.skill ∧ x.skill ≤ 5) : groupB x = true := by
  unfold groupB
  rw [h1, inB_true.2 h2, inB_true.2 h3, inB_true.2 h4, inB_true.2 h5, inB_true.2 h6, inB_true.2 h7]; rfl
theorem lendA_ok {a b : DGroup} (ha : groupB a = true) (hb : groupB b = true) : groupB (lendA a b) = true := by
  obtain ⟨h1, h2, h3, h4, h5, h6, h7⟩ := groupB_bounds ha
  refine groupB_of (x := lendA a b) h1 h2 h3 ?_ ?_ ?_ h7 <;> (simp only [lendA]; unfold giveF; omega)
theorem lendB_ok {a b : DGroup} (ha : groupB a = true) (hb : groupB b = true) : groupB (lendB a b) = true := by
  obtain ⟨h1, h2, h3, h4, h5, h6, h7⟩ := groupB_bounds hb
  refine groupB_of (x := lendB a b) h1 h2 h3 ?_ ?_ ?_ h7 <;> (simp only [lendB]; unfold giveF; omega)
def lendL (xs : List DGroup) (i j : Nat) : List DGroup := (xs.set i (lendA (xs.getD i ⟨⟨#[]⟩, 0, 0, 0, 0, 0, 0⟩) (xs.getD j ⟨⟨#[]⟩, 0, 0, 0, 0, 0, 0⟩))).set j (lendB (xs.getD i ⟨⟨#[]⟩, 0, 0, 0, 0, 0, 0⟩) (xs.getD j ⟨⟨#[]⟩, 0, 0, 0, 0, 0, 0⟩))
def lendC (xs : List DGroup) (i j : Int) : Int := if groupsB xs = false then 1 else if (inB i 0 ((xs.length : Int) - 1) && inB j 0 ((xs.length : Int) - 1) && decide (i ≠ j)) = false then 2 else 0
/-- How much of one thing is short. -/
def shortS (f : DGroup → Int) (xs : List DGroup) : Int := (xs.map fun x => x.people - f x).sum
def kitS (xs : List DGroup) : Int := max (shortS (·.beacons) xs) 0 + max (shortS (·.shovels) xs) 0 + max (shortS (·.probes) xs) 0
def joinC (a b : DGroup) (id : ByteArray) : Int := if (groupB a && groupB b) = false then 1 else if nameB id = false then 2 else if groupB (sumG a b id) = false then 6 else 0
theorem joinC_zero {a b : DGroup} {id : ByteArray} (h : joinC a b id = 0) : groupB (sumG a b id) = true := by
  unfold joinC at h
  cases h1 : (groupB a && groupB b) <;> cases h2 : nameB id <;> cases h3 : groupB (sumG a b id) <;> simp [h1, h2, h3] at h
  rfl
theorem sum_set {L : List Int} {i : Nat} (h : i < L.length) (v : Int) : (L.set i v).sum = L.sum - L[i] + v := by
  induction L generalizing i with
  | nil => simp at h
  | cons a l ih =>
    cases i with
    | zero => simp only [List.set_cons_zero, List.sum_cons, List.getElem_cons_zero]; omega
    | succ i =>
      have := ih (i := i) (by simpa using h)
      simp only [List.set_cons_succ, List.sum_cons, List.getElem_cons_succ, this]; omega
theorem short_set2 (f : DGroup → Int) {xs : List DGroup} {i j : Nat} (hi : i < xs.length) (hj : j < xs.length) (hne : i ≠ j) (a b : DGroup) (h : (a.people - f a) + (b.people - f b) = (xs[i].people - f xs[i]) + (xs[j].people - f xs[j])) :
    shortS f ((xs.set i a).set j b) = shortS f xs := by
  unfold shortS
  rw [List.map_set, List.map_set, sum_set (by simpa using hj), sum_set (by simpa using hi)]
  rw [List.getElem_set_ne hne, List.getElem_map, List.getElem_map]
  omega
theorem getD_lt {xs : List DGroup} {i : Nat} (h : i < xs.length) (d : DGroup) : xs.getD i d = xs[i] := by rw [List.getD_eq_getElem?_getD, List.getElem?_eq_getElem h]; rfl
/-- What is lent is lost by nobody. -/
theorem kit_lend {xs : List DGroup} {i j : Nat} (hi : i < xs.length) (hj : j < xs.length) (hne : i ≠ j) : kitS (lendL xs i j) = kitS xs := by
  unfold kitS lendL
  rw [getD_lt hi, getD_lt hj]
  rw [short_set2 (fun x => x.beacons) hi hj hne _ _ (by simp only [lendA, lendB]; omega), short_set2 (fun x => x.shovels) hi hj hne _ _ (by simp only [lendA, lendB]; omega), short_set2 (fun x => x.probes) hi hj hne _ _ (by simp only [lendA, lendB]; omega)]
theorem lend_len (xs : List DGroup) (i j : Nat) : (lendL xs i j).length = xs.length := by unfold lendL; rw [List.length_set, List.length_set]
theorem lend_get {xs : List DGroup} {i j : Nat} (hi : i < xs.length) (hj : j < xs.length) (hne : i ≠ j) (k : Nat) (hk : k < xs.length) : (lendL xs i j)[k]'(by rw [lend_len]; exact hk) = if k = j then lendB xs[i] xs[j] else if k = i then lendA xs[i] xs[j] else xs[k] := by
  unfold lendL
  simp only [getD_lt hi, getD_lt hj]
  rw [List.getElem_set]
  by_cases h1 : j = k
  · subst h1; rw [if_pos rfl, if_pos rfl]
  · rw [if_neg h1, if_neg (fun e => h1 e.symm), List.getElem_set]
    by_cases h2 : i = k
    · subst h2; simp
    · rw [if_neg h2, if_neg (fun e => h2 e.symm)]
theorem lend_id {xs : List DGroup} {i j : Nat} (hi : i < xs.length) (hj : j < xs.length) (hne : i ≠ j) (k : Nat) (hk : k < xs.length) : ((lendL xs i j)[k]'(by rw [lend_len]; exact hk)).id = xs[k].id := by
  rw [lend_get hi hj hne k hk]
  by_cases h1 : k = j
  · subst h1; rw [if_pos rfl]; rfl
  · rw [if_neg h1]
    by_cases h2 : k = i
    · subst h2; rw [if_pos rfl]; rfl
    · rw [if_neg h2]
theorem lend_one {xs : List DGroup} (h : groupsB xs = true) {i j : Nat} (hi : i < xs.length) (hj : j < xs.length) (hne : i ≠ j) (k : Nat) (hk : k < xs.length) : groupB ((lendL xs i j)[k]'(by rw [lend_len]; exact hk)) = true := by
  rw [lend_get hi hj hne k hk]
  split
  · exact lendB_ok (groupsB_one h hi) (groupsB_one h hj)
  · split
    · exact lendA_ok (groupsB_one h hi) (groupsB_one h hj)
    · exact groupsB_one h hk
theorem lend_ok {xs : List DGroup} (h : groupsB xs = true) {i j : Nat} (hi : i < xs.length) (hj : j < xs.length) (hne : i ≠ j) : groupsB (lendL xs i j) = true := by
  have hl := groupsB_len h
  unfold groupsB
  rw [lend_len, Bool.and_eq_true]
  refine ⟨allIdx_true.2 (fun k hk => ?_), decide_eq_true hl⟩
  have hk2 : k < (lendL xs i j).length := by rw [lend_len]; exact hk
  have h1 := lend_one h hi hj hne k hk
  cases k with
  | zero => rw [gOk_zero hk2]; exact h1
  | succ m =>
    rw [gOk_succ hk2, h1, Bool.true_and]
    have e1 := lend_id hi hj hne (m + 1) hk
    have e2 := lend_id hi hj hne m (by omega)
    rw [e1, e2]
    unfold groupsB at h
    rw [Bool.and_eq_true] at h
    have h3 := allIdx_true.1 h.1 (m + 1) hk
    rw [gOk_succ hk, Bool.and_eq_true] at h3
    exact h3.2
end Go.Proofs.YtdpeffaplkbkgaaGreatDoor

namespace Go.Proofs.YtdpeffaplkbkgaaGreatDoor
open Go.RowKit Go.WideShapes Go.ChangeShapes Go.ChangeAt

theorem Tryz.own : ownKnob Tryz.prog.godebug = none := by kernel_rfl
theorem Tryz.laidOut : laidOutB Tryz.prog = true := by kernel_rfl

section
variable {H : Type} {enc : TypeId × Value → H} {P : Program}
theorem post_of_below {f : Func} {s : ChangeSpec} {apart fresh handsOn again : Bool} {W W' : World} {args : Array Value} {v : Value} {ds gs : List (DataW H)} {before pa pv : List MemPlace}
    (hW : DataW.Whole enc P f.params.toList s.vars apart W args.toList ds gs before)
    (hres : ∀ (b : Nat) (sp : Nat → Bool) (hd : Bool), DataW.TrodAll enc P W' b sp hd f.resultTypes.toList (v.resultList f.resultTypes.size) (s.fn H (ds ++ gs)).results [])
    (hargs : ∀ sp : Nat → Bool, (∀ p ∈ before, sp p.block = true) → DataW.TrodAll enc P W' 0 sp true f.params.toList args.toList (s.fn H (ds ++ gs)).args pa)
    (hvars : ∀ sp : Nat → Bool, (∀ p ∈ before, sp p.block = true) → DataW.TrodVars enc P W' sp s.vars (s.fn H (ds ++ gs)).vars pv)
    (hps : before = pa ++ pv) (hb : Below W.heap.size W W')
    (hok : ∀ (j : Nat) (t : TypeId) (r : Value), f.resultTypes[j]? = some t → (v.resultList f.resultTypes.size)[j]? = some r → Value.okWide P W' .any 0 t r) :
    s.post enc P f apart fresh handsOn again W args v W' := by
  have hlt : ∀ p ∈ before, p.block < W.heap.size := fun p hp => hW.lt p hp
  have hold : ∀ p ∈ before, (fun b => decide (b < W.heap.size)) p.block = true := fun p hp => by simpa using hlt p hp
  refine ⟨ds, gs, before, [], pa, pv, hW, hres _ _ _, hargs _ hold, hvars _ hold, World.keptBut_mono (fun p hp => ⟨hp, ?_⟩) (hb.frame (· ∈ before)), fun _ => ?_⟩
  · rw [hps, List.mem_append] at hp
    exact Or.inr hp
  · obtain ⟨_, _, _, _, _, hz, hn⟩ := hW
    refine ⟨hok, _, _, ([] ++ pa) ++ pv, ⟨[] ++ pa, pv, trodAll_append (hargs _ (fun _ _ => rfl)) (hres _ _ _), hvars _ (fun _ _ => rfl), rfl, ?_, ?_⟩, ?_⟩
    · intro b off hp
      have hin : MemPlace.cell b off ∈ before := by rw [hps]; simpa using hp
      rw [hb.frozen (hlt _ hin)]
      exact hz b off hin
    · intro ha
      have := hn ha
      rw [hps] at this
      simpa using this
    · intro p hp _
      rw [hps]
      simpa using hp
end

theorem trodAll_below {H : Type} {enc : TypeId × Value → H} {P : Program} (hl : laidOutB P = true) {W W' : World} (hb : Below W.heap.size W W') {sp : Nat → Bool} :
    ∀ (ts : List TypeId) (vs : List Value) (ds : List (DataW H)) (ps : List MemPlace), (∀ t ∈ ts, P.readableRec t = true ∧ t < P.types.size) → DataW.TrodAll enc P W 0 (fun _ => true) true ts vs ds ps → (∀ x ∈ ps, x.block < W.heap.size) → (∀ x ∈ ps, sp x.block = true) → DataW.TrodAll enc P W' 0 sp true ts vs ds ps
  | [], [], [], ps, _, h, _, _ => h
  | t :: ts, v :: vs, d :: ds, ps, hr, h, hlt, hsp => by
    obtain ⟨p, q, h1, h2, rfl⟩ := h
    obtain ⟨r1, r2⟩ := hr t (by simp)
    exact ⟨p, q, WideElems.Trod_stays hl r1 r2 h1 (fun x hx => hb.same (hlt x (by simp [hx]))) (fun x hx => hsp x (by simp [hx])), trodAll_below hl hb ts vs ds q (fun t ht => hr t (by simp [ht])) h2 (fun x hx => hlt x (by simp [hx])) (fun x hx => hsp x (by simp [hx])), rfl⟩
  | [], _ :: _, _, _, _, h, _, _ => by cases h
  | [], [], _ :: _, _, _, h, _, _ => by cases h
  | _ :: _, [], _, _, _, h, _, _ => by cases h
  | _ :: _, _ :: _, [], _, _, h, _, _ => by cases h

theorem trodAll_len {H : Type} {enc : TypeId × Value → H} {P : Program} {W : World} {b : Nat} {sp : Nat → Bool} {hd : Bool} : ∀ (ts : List TypeId) (vs : List Value) (ds : List (DataW H)) (ps : List MemPlace), DataW.TrodAll enc P W b sp hd ts vs ds ps → ds.length = ts.length
  | [], [], [], _, _ => rfl
  | _ :: ts, _ :: vs, _ :: ds, _, h => by obtain ⟨p, q, h1, h2, rfl⟩ := h; simp [trodAll_len ts vs ds q h2]
  | [], _ :: _, _, _, h => by cases h
  | [], [], _ :: _, _, h => by cases h
  | _ :: _, [], _, _, h => by cases h
  | _ :: _, _ :: _, [], _, h => by cases h

set_option maxRecDepth 100000 in
theorem law_lifted {F : FuncId} {fn : Func} {s : ChangeSpec} (os : Os) (started : os.Started) (H : Type) (enc : TypeId × Value → H)
    (hfn : Tryz.checked.prog.funcs[F]? = some fn) (noInit : Tryz.checked.prog.inits.idxOf? F = none)
    (witness : ∃ (w : World) (tape : Tape) (i : Input), w.os = os ∧ (w.forCall tape i).Shaped Tryz.checked.prog ∧ i.vars = [] ∧ Input.okWide Tryz.checked.prog (w.forCall tape i) .any w.heap.size F i ∧
      s.pre6 enc Tryz.checked.prog fn [] false (w.forCall tape i).memory i.args ∧ ({} : Assume).holds Tryz.checked.prog (lone (Frame.enter Tryz.checked.prog F i.args .normal) [] (w.forCall tape i)))
    (hs : s.vars = []) (hres : fn.resultTypes = #[4]) (hread : ∀ t ∈ fn.params.toList, Tryz.prog.readableRec t = true ∧ t < Tryz.prog.types.size)
    (hspec : ∀ ds : List (DataW H), ds.length = fn.params.toList.length → s.fn H ds = { results := [.lit (.bool true)], args := ds })
    (walk : ∀ (W : World) (args : Array Value) (ds : List (DataW H)) (p : List MemPlace), (∀ (j : Nat) t v, fn.params[j]? = some t → args[j]? = some v → ∃ base, Value.okWide Tryz.prog W .any base t v) →
      DataW.TrodAll enc Tryz.prog W 0 (fun _ => true) true fn.params.toList args.toList ds p → W.noneFrozen p → Calls Tryz.prog F args W fun e W' => e = .returned (.bool true) ∧ Below W.heap.size W W') :
    ReturnsInHanded {} Tryz.checked os F .any (s.pre6 enc Tryz.checked.prog fn [] false) (s.post enc Tryz.checked.prog fn false true false false) := by
  refine returnsInHanded_of_change (C := Tryz.checked) Tryz.own started noInit hfn witness ?_
  intro W base args ds gs before hval hW hcnd _
  have hW' := hW
  obtain ⟨p, q, hA, hV, hpq, hfz, hnd⟩ := hW
  rw [hs] at hV
  obtain ⟨rfl, rfl⟩ := trodVars_none hV
  rw [List.append_nil] at hpq
  subst hpq
  refine (walk W args ds _ (fun j t v h1 h2 => ⟨base, hval j t v h1 h2⟩) hA hfz).mono fun e W' ⟨he, hb⟩ => ?_
  subst he
  have hsp : s.fn H (ds ++ []) = { results := [.lit (.bool true)], args := ds } := by
    rw [List.append_nil]; exact hspec ds (trodAll_len _ _ _ _ hA)
  have hlt := fun x hx => hW'.lt x hx
  refine ⟨_, rfl, post_of_below (pa := before) (pv := []) hW' (fun b sp hd => ?_) (fun sp h => ?_) (fun sp h => ?_) (by simp) hb ?_⟩
  · rw [hsp, hres]; exact trodAll_mk1 (shut_bool Tryz.underlying4 _)
  · rw [hsp]; exact trodAll_below Tryz.laidOut hb _ _ _ _ hread hA hlt h
  · rw [hsp, hs]; rfl
  · rw [hres]; exact fun j t r h1 h2 => ok_one (f := fn) hres rfl (okWide_bool_mk Tryz.underlying4 _) j t r (by rw [hres]; exact h1) (by rw [hres]; exact h2)

end Go.Proofs.YtdpeffaplkbkgaaGreatDoor

namespace Go.Proofs.YtdpeffaplkbkgaaGreatDoor
open Go.RowKit Go.WideShapes Go.ChangeShapes Go.ChangeAt

set_option maxRecDepth 100000 in
theorem law_liftedS {F : FuncId} {fn : Func} {s : ChangeSpec} (os : Os) (started : os.Started) (H : Type) (enc : TypeId × Value → H)
    (hfn : Tryz.checked.prog.funcs[F]? = some fn) (noInit : Tryz.checked.prog.inits.idxOf? F = none)
    (witness : ∃ (w : World) (tape : Tape) (i : Input), w.os = os ∧ (w.forCall tape i).Shaped Tryz.checked.prog ∧ i.vars = [] ∧ Input.okWide Tryz.checked.prog (w.forCall tape i) .any w.heap.size F i ∧
      s.pre6 enc Tryz.checked.prog fn [] false (w.forCall tape i).memory i.args ∧ ({} : Assume).holds Tryz.checked.prog (lone (Frame.enter Tryz.checked.prog F i.args .normal) [] (w.forCall tape i)))
    (hs : s.vars = []) (hres : fn.resultTypes = #[4]) (hread : ∀ t ∈ fn.params.toList, Tryz.prog.readableRec t = true ∧ t < Tryz.prog.types.size)
    (hspec : ∀ ds : List (DataW H), ds.length = fn.params.toList.length → s.fn H ds = { results := [.lit (.bool true)], args := ds })
    (walk : ∀ (W : World) (args : Array Value) (ds : List (DataW H)) (p : List MemPlace), W.ShapedOpen Tryz.prog → (∀ (j : Nat) t v, fn.params[j]? = some t → args[j]? = some v → ∃ base, Value.okWide Tryz.prog W .any base t v) →
      DataW.TrodAll enc Tryz.prog W 0 (fun _ => true) true fn.params.toList args.toList ds p → W.noneFrozen p → Calls Tryz.prog F args W fun e W' => e = .returned (.bool true) ∧ Below W.heap.size W W') :
    ReturnsInHanded {} Tryz.checked os F .any (s.pre6 enc Tryz.checked.prog fn [] false) (s.post enc Tryz.checked.prog fn false true false false) := by
  refine returnsInHanded_of_change_shaped (C := Tryz.checked) Tryz.own started noInit hfn witness ?_
  intro W base args ds gs before hval hW hcnd _ hsh _
  have hW' := hW
  obtain ⟨p, q, hA, hV, hpq, hfz, hnd⟩ := hW
  rw [hs] at hV
  obtain ⟨rfl, rfl⟩ := trodVars_none hV
  rw [List.append_nil] at hpq
  subst hpq
  refine (walk W args ds _ hsh (fun j t v h1 h2 => ⟨base, hval j t v h1 h2⟩) hA hfz).mono fun e W' ⟨he, hb⟩ => ?_
  subst he
  have hsp : s.fn H (ds ++ []) = { results := [.lit (.bool true)], args := ds } := by
    rw [List.append_nil]; exact hspec ds (trodAll_len _ _ _ _ hA)
  have hlt := fun x hx => hW'.lt x hx
  refine ⟨_, rfl, post_of_below (pa := before) (pv := []) hW' (fun b sp hd => ?_) (fun sp h => ?_) (fun sp h => ?_) (by simp) hb ?_⟩
  · rw [hsp, hres]; exact trodAll_mk1 (shut_bool Tryz.underlying4 _)
  · rw [hsp]; exact trodAll_below Tryz.laidOut hb _ _ _ _ hread hA hlt h
  · rw [hsp, hs]; rfl
  · rw [hres]; exact fun j t r h1 h2 => ok_one (f := fn) hres rfl (okWide_bool_mk Tryz.underlying4 _) j t r (by rw [hres]; exact h1) (by rw [hres]; exact h2)

/-- A variable of the library's own holds some number. -/
theorem maxLen_cell {w : World} (h : w.ShapedOpen Tryz.prog) : ∃ m, w.cell? ⟨0, 0, none⟩ = some (.int .i64 m) :=
  Go.Proofs.cell_of_shapedOpen_int (zero := #[.int .i64 0]) (t := 3) h (of_decide_eq_true (by kernel_rfl)) (by kernel_rfl) rfl (by kernel_rfl) (by kernel_rfl) Tryz.underlying3
theorem cell_below {w w' : World} {a : Addr} {v : Value} (h : Below w.heap.size w w') (c : w.cell? a = some v) : w'.cell? a = some v := (h.cell (block_lt_of_cell c)).trans c
end Go.Proofs.YtdpeffaplkbkgaaGreatDoor

namespace Go.Proofs.YtdpeffaplkbkgaaGreatDoor
open Go.RowKit
set_option linter.unusedVariables false
set_option linter.unusedSimpArgs false

theorem PGroup.farS {V : World} {g b : Nat} {x : DGroup} (h : PGroup V b 0 x) (hne : b ≠ g) (j : Nat) (v : Value) : PGroup (V.setCell ⟨g, j, none⟩ v) b 0 x := by
  have k : ∀ i, (V.setCell ⟨g, j, none⟩ v).cell? ⟨b, i, none⟩ = V.cell? ⟨b, i, none⟩ := fun i => World.cell?_setCell_far V ⟨g, j, none⟩ ⟨b, i, none⟩ v (fun e => hne e.symm)
  exact ⟨(k _).trans h.c0, (k _).trans h.c1, (k _).trans h.c2, (k _).trans h.c3, (k _).trans h.c4, (k _).trans h.c5, (k _).trans h.c6⟩
set_option maxRecDepth 100000 in
set_option maxHeartbeats 8000000 in
theorem DrawSplitGroup_any (v : Value) (xs : List UInt8) (fp : List Nat) (w : World) (hx : Sl fByte.cod w v xs fp) :
    Calls Tryz.prog 5 #[v] w fun e w' => ∃ (x : DGroup) (t : Int), e = .returned (.tuple #[agGroup x, .int .i64 t]) ∧ SmGroup x ∧ (-10 ≤ t ∧ t ≤ 10) ∧ Below w.heap.size w w' := by
  have hB0 : Below w.heap.size w (w.alloc (.cells #[.string ⟨#[]⟩, .int .i64 0, .int .i64 0, .int .i64 0, .int .i64 0, .int .i64 0, .int .i64 0] 25)) := (Below.refl _ _).alloc (Nat.le_refl _) _
  go_enter Tryz.func5, Tryz.ntmps5
  go_wp2_with fail
  refine (l00From_any v xs fp _ (hx.below' hB0)).mono ?_
  rintro e w1 ⟨rfl, hs, hb1⟩
  have hbx := (BxGroup.new w 25).belowB hb1 (by simp)
  have hB1 := hB0.trans (hb1.mono (by simp))
  have hgw : w.heap.size < (w.alloc (.cells #[.string ⟨#[]⟩, .int .i64 0, .int .i64 0, .int .i64 0, .int .i64 0, .int .i64 0, .int .i64 0] 25)).heap.size := by simp
  generalize (w.alloc (.cells #[.string ⟨#[]⟩, .int .i64 0, .int .i64 0, .int .i64 0, .int .i64 0, .int .i64 0, .int .i64 0] 25)).heap.size = g at *
  have hof : ∀ b ∈ [g], w.heap.size ≤ b := by simp; omega
  clear hB0 hb1 hx
  go_wp2_with fail
  refine (l24DrawOne_any _ g ⟨#[97, 110, 116, 115]⟩ _ hs (by omega) (by decide)).mono ?_
  rintro e w2 ⟨x0, rfl, ⟨hx0, hq8, hx1⟩, hs2, ho2⟩
  clear hq8
  go_wp2_with fail
  refine (l24Bend_any _ g x0 _ hs2 (by omega) ⟨hx0, by omega⟩).mono ?_
  rintro e w3 ⟨x, rfl, HXx, hs3, ho3⟩

  replace hbx := hbx.keep ((ho2.trans ho3).block w.heap.size hbx.lt (by simp; omega))
  have hB3 := hB1.trans ((ho2.trans ho3).below hB1.size hof)
  have hAl : Below w3.heap.size w3 (w3.alloc (.cells #[.string x.id, .int .i64 x.people, .int .i64 x.guides, .int .i64 x.beacons, .int .i64 x.shovels, .int .i64 x.probes, .int .i64 x.skill] 25)) := (Below.refl _ _).alloc (Nat.le_refl _) _
  have hbb : w.heap.size < w3.heap.size := hbx.lt
  have hgb : g < w3.heap.size := hs3.lt
  clear ho2 ho3 hs hs2 hB1 hx0 hx1
  unfold agGroup
  go_upto_region 3 with fail
  refine at_world (fun W => PGroup W w3.heap.size 0 x ∧ SrcD (0 + 20 + 20) g W ∧ BxGroup W w.heap.size ∧ Below w.heap.size w W) ⟨PGroup.box w3 x _, hs3.below hAl, hbx.belowB hAl hbx.lt, hB3.trans (hAl.mono hB3.size)⟩ ?_
  clear hs3 hbx hB3 hAl
  generalize w3.heap.size = b at *
  rintro V ⟨hP, hs4, hbx, hB⟩
  have hX0 : PGroup V.drew b 0 x := hP.drewN 1
  have hbxd0 : BxGroup V.drew w.heap.size := hbx.belowB (Below.drew (Below.refl _ _)) hbx.lt
  have hsd := hs4.below (Below.drew (Below.refl _ _))
  have hbW : w.heap.size ≤ V.heap.size := hB.size
  clear hP hs4 hbx
  have gka0 : ∀ p : KeptW (w.heap.size) V (fun N => PGroup N b 0 x), p.v.cell? ⟨b, 0, none⟩ = some (.string x.id) := fun p => p.x.c0
  have gka1 : ∀ p : KeptW (w.heap.size) V (fun N => PGroup N b 0 x), p.v.cell? ⟨b, 1, none⟩ = some (.int .i64 x.people) := fun p => p.x.c1
  have gka2 : ∀ p : KeptW (w.heap.size) V (fun N => PGroup N b 0 x), p.v.cell? ⟨b, 2, none⟩ = some (.int .i64 x.guides) := fun p => p.x.c2
  have gka3 : ∀ p : KeptW (w.heap.size) V (fun N => PGroup N b 0 x), p.v.cell? ⟨b, 3, none⟩ = some (.int .i64 x.beacons) := fun p => p.x.c3
  have gka4 : ∀ p : KeptW (w.heap.size) V (fun N => PGroup N b 0 x), p.v.cell? ⟨b, 4, none⟩ = some (.int .i64 x.shovels) := fun p => p.x.c4
  have gka5 : ∀ p : KeptW (w.heap.size) V (fun N => PGroup N b 0 x), p.v.cell? ⟨b, 5, none⟩ = some (.int .i64 x.probes) := fun p => p.x.c5
  have gka6 : ∀ p : KeptW (w.heap.size) V (fun N => PGroup N b 0 x), p.v.cell? ⟨b, 6, none⟩ = some (.int .i64 x.skill) := fun p => p.x.c6
  haveI hKne : Nonempty (KeptW (w.heap.size) V (fun N => PGroup N b 0 x)) := ⟨⟨_, Below.drew (Below.refl _ _), hX0⟩⟩
  refine wp_region_mix (C := fun w' => ∃ p : KeptW (w.heap.size) V (fun N => PGroup N b 0 x), w' = p.v) [true, true, false, false, false, true] (by kernel_rfl) (by kernel_rfl) (by kernel_rfl) (fun _ _ d _ _ h => by cases d <;> exact h) ⟨⟨_, Below.drew (Below.refl _ _), hX0⟩, rfl⟩ ?_
  have hS0 : Below (w.heap.size) V V.drew := Below.drew (Below.refl _ _)
  refine wpMix_pure (by kernel_rfl) (fun K hK => ?_); go_big_quiet_op; refine hK _ ?_; clear hK K
  refine wpMix_pure (by kernel_rfl) (fun K hK => ?_); go_big_quiet_op; refine hK _ ?_; clear hK K
  refine wpMix_act (by kernel_rfl) (fun K hK => ?_)
  go_big_op
  refine hK _ _ ⟨⟨_, (hS0.alloc (Nat.le_trans hbW hS0.size) _), (hX0).below' ((Below.refl _ _).alloc (Nat.le_refl _) _)⟩, rfl⟩ ?_
  clear hK K
  refine mix_world (fun N => Below (w.heap.size) V N ∧ (PGroup N b 0 x) ∧ (BxGroup N w.heap.size) ∧ SrcD (0 + 20 + 20) g N ∧ Sl fInt.cod N (.slice (some ⟨V.drew.heap.size, 0, none⟩) 6 6) [2, 3, 4, 2, 5, 1] [V.drew.heap.size] ∧ g < V.drew.heap.size) ⟨hS0.alloc (Nat.le_trans hbW hS0.size) _, ⟨(hX0).below' ((Below.refl _ _).alloc (Nat.le_refl _) _), hbxd0.belowB ((Below.refl _ _).alloc (Nat.le_refl _) _) hbxd0.lt, hsd.below ((Below.refl _ _).alloc (Nat.le_refl _) _), slLitI V.drew _ [2, 3, 4, 2, 5, 1] _ rfl (by decide) (by decide) (by decide) _ _ rfl rfl, hsd.lt⟩⟩ ?_
  rintro wr1 ⟨hbr1S, hbr1F⟩
  refine wpMix_act (by kernel_rfl) (fun K hK => ?_)
  have hF9 := hbr1F
  obtain ⟨hXN, hbxN, hsN0, hslN, hgN⟩ := hF9
  have hbxN0 := hbxN
  have hXN0 := hXN
  go_big_op
  refine (among_any _ g _ [2, 3, 4, 2, 5, 1] _ _ hsN0 (by omega) hslN (by rw [List.mem_singleton]; exact Nat.ne_of_lt hgN) (by decide) (by decide)).mono ?_
  rintro e u ⟨t, ht, rfl, hsN, hoN⟩
  have hXM0 := hXN0.keepB (hoN.block b hXN0.lt (by simp; omega))
  have hbxM0 := hbxN0.keep (hoN.block w.heap.size hbxN0.lt (by simp; omega))
  have hbu : Below w.heap.size _ u := hoN.below (by have := hbr1S.size; omega) (by intro b hb; simp at hb; subst hb; omega)
  have hbuS : Below (w.heap.size) V u := hbr1S.trans hbu
  try simp only [Act.put, List.setIfInBounds_toArray, List.set_cons_zero, List.set_cons_succ]
  refine hK _ _ ⟨⟨_, hbuS, hXM0⟩, rfl⟩ ?_
  clear hK K
  refine wpMix_act (by kernel_rfl) (fun K hK => ?_)
  obtain ⟨UU, rfl⟩ : ∃ N, N = u := ⟨u, rfl⟩
  obtain ⟨d0, d1, d2, d3, d4, d5, d6, z0, z1, z2, z3, z4, z5, z6⟩ := id hbxM0
  go_big_op
  have hbu : Below w.heap.size UU (((((((UU.setCell ⟨w.heap.size, 0, none⟩ (.string x.id)).setCell ⟨w.heap.size, 1, none⟩ (.int .i64 x.people)).setCell ⟨w.heap.size, 2, none⟩ (.int .i64 x.guides)).setCell ⟨w.heap.size, 3, none⟩ (.int .i64 x.beacons)).setCell ⟨w.heap.size, 4, none⟩ (.int .i64 x.shovels)).setCell ⟨w.heap.size, 5, none⟩ (.int .i64 x.probes)).setCell ⟨w.heap.size, 6, none⟩ (.int .i64 x.skill)) := ((((((((Below.refl w.heap.size UU).setCell (p := ⟨w.heap.size, 0, none⟩) (by show w.heap.size ≤ w.heap.size; omega) _).setCell (p := ⟨w.heap.size, 1, none⟩) (by show w.heap.size ≤ w.heap.size; omega) _).setCell (p := ⟨w.heap.size, 2, none⟩) (by show w.heap.size ≤ w.heap.size; omega) _).setCell (p := ⟨w.heap.size, 3, none⟩) (by show w.heap.size ≤ w.heap.size; omega) _).setCell (p := ⟨w.heap.size, 4, none⟩) (by show w.heap.size ≤ w.heap.size; omega) _).setCell (p := ⟨w.heap.size, 5, none⟩) (by show w.heap.size ≤ w.heap.size; omega) _).setCell (p := ⟨w.heap.size, 6, none⟩) (by show w.heap.size ≤ w.heap.size; omega) _)
  have hPr0 : PGroup (((((((UU.setCell ⟨w.heap.size, 0, none⟩ (.string x.id)).setCell ⟨w.heap.size, 1, none⟩ (.int .i64 x.people)).setCell ⟨w.heap.size, 2, none⟩ (.int .i64 x.guides)).setCell ⟨w.heap.size, 3, none⟩ (.int .i64 x.beacons)).setCell ⟨w.heap.size, 4, none⟩ (.int .i64 x.shovels)).setCell ⟨w.heap.size, 5, none⟩ (.int .i64 x.probes)).setCell ⟨w.heap.size, 6, none⟩ (.int .i64 x.skill)) w.heap.size 0 x := ((((((((show PGroup UU w.heap.size 0 ⟨⟨#[]⟩, 0, 0, 0, 0, 0, 0⟩ from ⟨hbxM0.d0, hbxM0.d1, hbxM0.d2, hbxM0.d3, hbxM0.d4, hbxM0.d5, hbxM0.d6⟩).vset0 x.id).vset1 x.people).vset2 x.guides).vset3 x.beacons).vset4 x.shovels).vset5 x.probes).vset6 x.skill)
  have hXQ0 : PGroup (((((((UU.setCell ⟨w.heap.size, 0, none⟩ (.string x.id)).setCell ⟨w.heap.size, 1, none⟩ (.int .i64 x.people)).setCell ⟨w.heap.size, 2, none⟩ (.int .i64 x.guides)).setCell ⟨w.heap.size, 3, none⟩ (.int .i64 x.beacons)).setCell ⟨w.heap.size, 4, none⟩ (.int .i64 x.shovels)).setCell ⟨w.heap.size, 5, none⟩ (.int .i64 x.probes)).setCell ⟨w.heap.size, 6, none⟩ (.int .i64 x.skill)) b 0 x := (PGroup.farS (PGroup.farS (PGroup.farS (PGroup.farS (PGroup.farS (PGroup.farS (PGroup.farS hXM0 (show b ≠ w.heap.size by omega) 0 _) (show b ≠ w.heap.size by omega) 1 _) (show b ≠ w.heap.size by omega) 2 _) (show b ≠ w.heap.size by omega) 3 _) (show b ≠ w.heap.size by omega) 4 _) (show b ≠ w.heap.size by omega) 5 _) (show b ≠ w.heap.size by omega) 6 _)
  clear hXM0 hbxM0 d0 d1 d2 d3 d4 d5 d6 z0 z1 z2 z3 z4 z5 z6
  revert hbu hPr0 hXQ0
  generalize (((((((UU.setCell ⟨w.heap.size, 0, none⟩ (.string x.id)).setCell ⟨w.heap.size, 1, none⟩ (.int .i64 x.people)).setCell ⟨w.heap.size, 2, none⟩ (.int .i64 x.guides)).setCell ⟨w.heap.size, 3, none⟩ (.int .i64 x.beacons)).setCell ⟨w.heap.size, 4, none⟩ (.int .i64 x.shovels)).setCell ⟨w.heap.size, 5, none⟩ (.int .i64 x.probes)).setCell ⟨w.heap.size, 6, none⟩ (.int .i64 x.skill)) = u
  intro hbu hPr0 hXM0
  have hbuS : Below (w.heap.size) V u := hbuS.trans hbu
  try simp only [Act.put, List.setIfInBounds_toArray, List.set_cons_zero, List.set_cons_succ]
  refine hK _ _ ⟨⟨_, hbuS, hXM0⟩, rfl⟩ ?_
  clear hK K
  refine wpMix_pure (by kernel_rfl) (fun K hK => ?_); go_big_quiet_op; refine hK _ ?_; clear hK K
  refine wpMix_nil ?_
  have hB9 := hB.trans (hbuS.mono (Nat.le_refl _))
  obtain ⟨k0, k1, k2, k3, k4, k5, k6⟩ := hPr0
  have htb : -10 ≤ t ∧ t ≤ 10 := by simp only [List.mem_cons, List.not_mem_nil, or_false] at ht; omega
  go_wp2
  exact bodyPost_ret (v := .tuple #[agGroup x, .int .i64 t]) (by simp [agGroup, results, k0, k1, k2, k3, k4, k5, k6, Tryz.results5, go_sem]) rfl ⟨x, t, rfl, HXx, htb, hB9⟩
set_option maxRecDepth 100000 in
set_option maxHeartbeats 8000000 in
theorem DrawJoinGroups_any (v : Value) (xs : List UInt8) (fp : List Nat) (w : World) (hx : Sl fByte.cod w v xs fp) :
    Calls Tryz.prog 14 #[v] w fun e w' => ∃ (x y : DGroup) (t : ByteArray), e = .returned (.tuple #[agGroup x, agGroup y, .string t]) ∧ SmGroup x ∧ SmGroup y ∧ t.size ≤ 100 ∧ Below w.heap.size w w' := by
  have hB0 : Below w.heap.size w ((w.alloc (.cells #[.string ⟨#[]⟩, .int .i64 0, .int .i64 0, .int .i64 0, .int .i64 0, .int .i64 0, .int .i64 0] 25)).alloc (.cells #[.string ⟨#[]⟩, .int .i64 0, .int .i64 0, .int .i64 0, .int .i64 0, .int .i64 0, .int .i64 0] 25)) := ((Below.refl _ _).alloc (Nat.le_refl _) _).alloc (by simp) _
  have hbx0 : BxGroup ((w.alloc (.cells #[.string ⟨#[]⟩, .int .i64 0, .int .i64 0, .int .i64 0, .int .i64 0, .int .i64 0, .int .i64 0] 25)).alloc (.cells #[.string ⟨#[]⟩, .int .i64 0, .int .i64 0, .int .i64 0, .int .i64 0, .int .i64 0, .int .i64 0] 25)) w.heap.size := (BxGroup.new w 25).belowB ((Below.refl (w.heap.size + 1) _).alloc (by simp) (.cells #[.string ⟨#[]⟩, .int .i64 0, .int .i64 0, .int .i64 0, .int .i64 0, .int .i64 0, .int .i64 0] 25)) (Nat.lt_succ_self _)
  have hbx1 : BxGroup ((w.alloc (.cells #[.string ⟨#[]⟩, .int .i64 0, .int .i64 0, .int .i64 0, .int .i64 0, .int .i64 0, .int .i64 0] 25)).alloc (.cells #[.string ⟨#[]⟩, .int .i64 0, .int .i64 0, .int .i64 0, .int .i64 0, .int .i64 0, .int .i64 0] 25)) (w.heap.size + 1) := by
    have h := BxGroup.new (w.alloc (.cells #[.string ⟨#[]⟩, .int .i64 0, .int .i64 0, .int .i64 0, .int .i64 0, .int .i64 0, .int .i64 0] 25)) 25
    rw [World.size_alloc] at h; exact h
  go_enter Tryz.func14, Tryz.ntmps14
  go_wp2_with fail
  refine (l00From_any v xs fp _ (hx.below' hB0)).mono ?_
  rintro e w1 ⟨rfl, hs, hb1⟩
  replace hbx0 := hbx0.belowB hb1 hbx0.lt
  replace hbx1 := hbx1.belowB hb1 hbx1.lt
  have hB1 := hB0.trans (hb1.mono hB0.size)
  have hgw : w.heap.size + 1 < ((w.alloc (.cells #[.string ⟨#[]⟩, .int .i64 0, .int .i64 0, .int .i64 0, .int .i64 0, .int .i64 0, .int .i64 0] 25)).alloc (.cells #[.string ⟨#[]⟩, .int .i64 0, .int .i64 0, .int .i64 0, .int .i64 0, .int .i64 0, .int .i64 0] 25)).heap.size := by simp
  generalize ((w.alloc (.cells #[.string ⟨#[]⟩, .int .i64 0, .int .i64 0, .int .i64 0, .int .i64 0, .int .i64 0, .int .i64 0] 25)).alloc (.cells #[.string ⟨#[]⟩, .int .i64 0, .int .i64 0, .int .i64 0, .int .i64 0, .int .i64 0, .int .i64 0] 25)).heap.size = g at *
  have hof : ∀ b ∈ [g], w.heap.size ≤ b := by simp; omega
  clear hB0 hb1 hx
  go_wp2_with fail
  refine (l24DrawOne_any _ g ⟨#[97, 110, 116, 115]⟩ _ hs (by omega) (by decide)).mono ?_
  rintro e w2 ⟨x0, rfl, ⟨hx0, hq8, hx1⟩, hs2, ho2⟩
  clear hq8
  go_wp2_with fail
  refine (l24Bend_any _ g x0 _ hs2 (by omega) ⟨hx0, by omega⟩).mono ?_
  rintro e w3 ⟨x, rfl, HXx, hs3, ho3⟩

  replace hbx0 := hbx0.keep ((ho2.trans ho3).block _ hbx0.lt (by simp; omega))
  replace hbx1 := hbx1.keep ((ho2.trans ho3).block _ hbx1.lt (by simp; omega))
  have hB3 := hB1.trans ((ho2.trans ho3).below hB1.size hof)
  have hAl : Below w3.heap.size w3 (w3.alloc (.cells #[.string x.id, .int .i64 x.people, .int .i64 x.guides, .int .i64 x.beacons, .int .i64 x.shovels, .int .i64 x.probes, .int .i64 x.skill] 25)) := (Below.refl _ _).alloc (Nat.le_refl _) _
  have hbb : w.heap.size + 1 < w3.heap.size := hbx1.lt
  have hgb : g < w3.heap.size := hs3.lt
  clear ho2 ho3 hs hs2 hB1 hx0 hx1
  unfold agGroup
  go_upto_region 3 with fail
  refine at_world (fun W => PGroup W w3.heap.size 0 x ∧ SrcD (0 + 20 + 20) g W ∧ BxGroup W w.heap.size ∧ BxGroup W (w.heap.size + 1) ∧ Below w.heap.size w W ∧ w3.heap.size < W.heap.size) ⟨PGroup.box w3 x _, hs3.below hAl, hbx0.belowB hAl hbx0.lt, hbx1.belowB hAl hbx1.lt, hB3.trans (hAl.mono hB3.size), by simp⟩ ?_
  clear hs3 hbx0 hbx1 hB3 hAl
  generalize w3.heap.size = b at *
  clear w2 w3
  rintro V ⟨hP, hs4, hbx0, hbx1, hB, hbV⟩
  go_wp2_with fail
  refine (l24DrawOne_any _ g ⟨#[98, 101, 97, 114, 115]⟩ _ hs4 (by omega) (by decide)).mono ?_
  rintro e w2 ⟨x0, rfl, ⟨hx0, hq8, hx1⟩, hs2, ho2⟩
  clear hq8
  go_wp2_with fail
  refine (l24Bend_any _ g x0 _ hs2 (by omega) ⟨hx0, by omega⟩).mono ?_
  rintro e w3 ⟨y, rfl, HXy, hs3, ho3⟩

  replace hbx0 := hbx0.keep ((ho2.trans ho3).block _ hbx0.lt (by simp; omega))
  replace hbx1 := hbx1.keep ((ho2.trans ho3).block _ hbx1.lt (by simp; omega))
  replace hP := hP.keepB ((ho2.trans ho3).block _ hP.lt (by simp; omega))
  have hB3 := hB.trans ((ho2.trans ho3).below hB.size hof)
  have hAl : Below w3.heap.size w3 (w3.alloc (.cells #[.string y.id, .int .i64 y.people, .int .i64 y.guides, .int .i64 y.beacons, .int .i64 y.shovels, .int .i64 y.probes, .int .i64 y.skill] 25)) := (Below.refl _ _).alloc (Nat.le_refl _) _
  have hbb2 : b < w3.heap.size := hP.lt
  clear ho2 ho3 hs4 hs2 hB hx0 hx1 hbV
  unfold agGroup
  go_upto_region 4 with fail
  refine at_world (fun W => PGroup W b 0 x ∧ PGroup W w3.heap.size 0 y ∧ SrcD (0 + 20 + 20 + 20 + 20) g W ∧ BxGroup W w.heap.size ∧ BxGroup W (w.heap.size + 1) ∧ Below w.heap.size w W) ⟨hP.below' hAl, PGroup.box w3 y _, hs3.below hAl, hbx0.belowB hAl hbx0.lt, hbx1.belowB hAl hbx1.lt, hB3.trans (hAl.mono hB3.size)⟩ ?_
  clear hs3 hbx0 hbx1 hB3 hAl hP
  generalize w3.heap.size = b2 at *
  clear V w2 w3
  rintro V ⟨hP, hP2, hs4, hbx0, hbx1, hB⟩
  have hX0 : PGroup V.drew b 0 x ∧ PGroup V.drew b2 0 y := ⟨hP.drewN 1, hP2.drewN 1⟩
  have hbxd0 : BxGroup V.drew w.heap.size := hbx0.belowB (Below.drew (Below.refl _ _)) hbx0.lt
  have hbxd1 : BxGroup V.drew (w.heap.size + 1) := hbx1.belowB (Below.drew (Below.refl _ _)) hbx1.lt
  have hsd := hs4.below (Below.drew (Below.refl _ _))
  have hbW : w.heap.size ≤ V.heap.size := hB.size
  clear hP hP2 hs4 hbx0 hbx1
  have gka0 : ∀ p : KeptW (w.heap.size) V (fun N => PGroup N b 0 x ∧ PGroup N b2 0 y), p.v.cell? ⟨b, 0, none⟩ = some (.string x.id) := fun p => p.x.1.c0
  have gka1 : ∀ p : KeptW (w.heap.size) V (fun N => PGroup N b 0 x ∧ PGroup N b2 0 y), p.v.cell? ⟨b, 1, none⟩ = some (.int .i64 x.people) := fun p => p.x.1.c1
  have gka2 : ∀ p : KeptW (w.heap.size) V (fun N => PGroup N b 0 x ∧ PGroup N b2 0 y), p.v.cell? ⟨b, 2, none⟩ = some (.int .i64 x.guides) := fun p => p.x.1.c2
  have gka3 : ∀ p : KeptW (w.heap.size) V (fun N => PGroup N b 0 x ∧ PGroup N b2 0 y), p.v.cell? ⟨b, 3, none⟩ = some (.int .i64 x.beacons) := fun p => p.x.1.c3
  have gka4 : ∀ p : KeptW (w.heap.size) V (fun N => PGroup N b 0 x ∧ PGroup N b2 0 y), p.v.cell? ⟨b, 4, none⟩ = some (.int .i64 x.shovels) := fun p => p.x.1.c4
  have gka5 : ∀ p : KeptW (w.heap.size) V (fun N => PGroup N b 0 x ∧ PGroup N b2 0 y), p.v.cell? ⟨b, 5, none⟩ = some (.int .i64 x.probes) := fun p => p.x.1.c5
  have gka6 : ∀ p : KeptW (w.heap.size) V (fun N => PGroup N b 0 x ∧ PGroup N b2 0 y), p.v.cell? ⟨b, 6, none⟩ = some (.int .i64 x.skill) := fun p => p.x.1.c6
  have gkb0 : ∀ p : KeptW (w.heap.size) V (fun N => PGroup N b 0 x ∧ PGroup N b2 0 y), p.v.cell? ⟨b2, 0, none⟩ = some (.string y.id) := fun p => p.x.2.c0
  have gkb1 : ∀ p : KeptW (w.heap.size) V (fun N => PGroup N b 0 x ∧ PGroup N b2 0 y), p.v.cell? ⟨b2, 1, none⟩ = some (.int .i64 y.people) := fun p => p.x.2.c1
  have gkb2 : ∀ p : KeptW (w.heap.size) V (fun N => PGroup N b 0 x ∧ PGroup N b2 0 y), p.v.cell? ⟨b2, 2, none⟩ = some (.int .i64 y.guides) := fun p => p.x.2.c2
  have gkb3 : ∀ p : KeptW (w.heap.size) V (fun N => PGroup N b 0 x ∧ PGroup N b2 0 y), p.v.cell? ⟨b2, 3, none⟩ = some (.int .i64 y.beacons) := fun p => p.x.2.c3
  have gkb4 : ∀ p : KeptW (w.heap.size) V (fun N => PGroup N b 0 x ∧ PGroup N b2 0 y), p.v.cell? ⟨b2, 4, none⟩ = some (.int .i64 y.shovels) := fun p => p.x.2.c4
  have gkb5 : ∀ p : KeptW (w.heap.size) V (fun N => PGroup N b 0 x ∧ PGroup N b2 0 y), p.v.cell? ⟨b2, 5, none⟩ = some (.int .i64 y.probes) := fun p => p.x.2.c5
  have gkb6 : ∀ p : KeptW (w.heap.size) V (fun N => PGroup N b 0 x ∧ PGroup N b2 0 y), p.v.cell? ⟨b2, 6, none⟩ = some (.int .i64 y.skill) := fun p => p.x.2.c6
  haveI hKne : Nonempty (KeptW (w.heap.size) V (fun N => PGroup N b 0 x ∧ PGroup N b2 0 y)) := ⟨⟨_, Below.drew (Below.refl _ _), hX0⟩⟩
  refine wp_region_mix (C := fun w' => ∃ p : KeptW (w.heap.size) V (fun N => PGroup N b 0 x ∧ PGroup N b2 0 y), w' = p.v) [true, true, true, false, false, false, false, true] (by kernel_rfl) (by kernel_rfl) (by kernel_rfl) (fun _ _ d _ _ h => by cases d <;> exact h) ⟨⟨_, Below.drew (Below.refl _ _), hX0⟩, rfl⟩ ?_
  have hS0 : Below (w.heap.size) V V.drew := Below.drew (Below.refl _ _)
  refine wpMix_pure (by kernel_rfl) (fun K hK => ?_); go_big_quiet_op; refine hK _ ?_; clear hK K
  refine wpMix_pure (by kernel_rfl) (fun K hK => ?_); go_big_quiet_op; refine hK _ ?_; clear hK K
  refine wpMix_pure (by kernel_rfl) (fun K hK => ?_); go_big_quiet_op; refine hK _ ?_; clear hK K
  refine wpMix_act (by kernel_rfl) (fun K hK => ?_)
  go_big_op
  refine hK _ _ ⟨⟨_, (hS0.alloc (Nat.le_trans hbW hS0.size) _), ⟨(hX0).1.below' ((Below.refl _ _).alloc (Nat.le_refl _) _), (hX0).2.below' ((Below.refl _ _).alloc (Nat.le_refl _) _)⟩⟩, rfl⟩ ?_
  clear hK K
  refine mix_world (fun N => Below (w.heap.size) V N ∧ (PGroup N b 0 x ∧ PGroup N b2 0 y) ∧ (BxGroup N w.heap.size ∧ BxGroup N (w.heap.size + 1)) ∧ SrcD (0 + 20 + 20 + 20 + 20) g N ∧ Sl fStr.cod N (.slice (some ⟨V.drew.heap.size, 0, none⟩) 4 4) [⟨#[98, 111, 116, 104]⟩, ⟨#[97, 110, 116, 115]⟩, ⟨#[]⟩, ⟨#[66]⟩] [V.drew.heap.size] ∧ g < V.drew.heap.size) ⟨hS0.alloc (Nat.le_trans hbW hS0.size) _, ⟨⟨(hX0).1.below' ((Below.refl _ _).alloc (Nat.le_refl _) _), (hX0).2.below' ((Below.refl _ _).alloc (Nat.le_refl _) _)⟩, ⟨hbxd0.belowB ((Below.refl _ _).alloc (Nat.le_refl _) _) hbxd0.lt, hbxd1.belowB ((Below.refl _ _).alloc (Nat.le_refl _) _) hbxd1.lt⟩, hsd.below ((Below.refl _ _).alloc (Nat.le_refl _) _), slLit V.drew _ [⟨#[98, 111, 116, 104]⟩, ⟨#[97, 110, 116, 115]⟩, ⟨#[]⟩, ⟨#[66]⟩] _ rfl (by decide) (by decide) (by decide) _ _ rfl rfl, hsd.lt⟩⟩ ?_
  rintro wr1 ⟨hbr1S, hbr1F⟩
  refine wpMix_act (by kernel_rfl) (fun K hK => ?_)
  have hF9 := hbr1F
  obtain ⟨hXN, hbxN, hsN0, hslN, hgN⟩ := hF9
  obtain ⟨hbxN0, hbxN1⟩ := hbxN
  obtain ⟨hXN0, hXN1⟩ := hXN
  go_big_op
  refine (text_any _ g _ [⟨#[98, 111, 116, 104]⟩, ⟨#[97, 110, 116, 115]⟩, ⟨#[]⟩, ⟨#[66]⟩] _ _ hsN0 (by omega) hslN (by rw [List.mem_singleton]; exact Nat.ne_of_lt hgN) (by decide) (by decide)).mono ?_
  rintro e u ⟨t, ht, rfl, hsN, hoN⟩
  have hXM0 := hXN0.keepB (hoN.block b hXN0.lt (by simp; omega))
  have hXM1 := hXN1.keepB (hoN.block b2 hXN1.lt (by simp; omega))
  have hbxM0 := hbxN0.keep (hoN.block w.heap.size hbxN0.lt (by simp; omega))
  have hbxM1 := hbxN1.keep (hoN.block (w.heap.size + 1) hbxN1.lt (by simp; omega))
  have hbu : Below w.heap.size _ u := hoN.below (by have := hbr1S.size; omega) (by intro b hb; simp at hb; subst hb; omega)
  have hbuS : Below (w.heap.size) V u := hbr1S.trans hbu
  try simp only [Act.put, List.setIfInBounds_toArray, List.set_cons_zero, List.set_cons_succ]
  refine hK _ _ ⟨⟨_, hbuS, ⟨hXM0, hXM1⟩⟩, rfl⟩ ?_
  clear hK K
  refine wpMix_act (by kernel_rfl) (fun K hK => ?_)
  obtain ⟨UU, rfl⟩ : ∃ N, N = u := ⟨u, rfl⟩
  obtain ⟨d0, d1, d2, d3, d4, d5, d6, z0, z1, z2, z3, z4, z5, z6⟩ := id hbxM0
  go_big_op
  have hbu : Below w.heap.size UU (((((((UU.setCell ⟨w.heap.size, 0, none⟩ (.string x.id)).setCell ⟨w.heap.size, 1, none⟩ (.int .i64 x.people)).setCell ⟨w.heap.size, 2, none⟩ (.int .i64 x.guides)).setCell ⟨w.heap.size, 3, none⟩ (.int .i64 x.beacons)).setCell ⟨w.heap.size, 4, none⟩ (.int .i64 x.shovels)).setCell ⟨w.heap.size, 5, none⟩ (.int .i64 x.probes)).setCell ⟨w.heap.size, 6, none⟩ (.int .i64 x.skill)) := ((((((((Below.refl w.heap.size UU).setCell (p := ⟨w.heap.size, 0, none⟩) (by show w.heap.size ≤ w.heap.size; omega) _).setCell (p := ⟨w.heap.size, 1, none⟩) (by show w.heap.size ≤ w.heap.size; omega) _).setCell (p := ⟨w.heap.size, 2, none⟩) (by show w.heap.size ≤ w.heap.size; omega) _).setCell (p := ⟨w.heap.size, 3, none⟩) (by show w.heap.size ≤ w.heap.size; omega) _).setCell (p := ⟨w.heap.size, 4, none⟩) (by show w.heap.size ≤ w.heap.size; omega) _).setCell (p := ⟨w.heap.size, 5, none⟩) (by show w.heap.size ≤ w.heap.size; omega) _).setCell (p := ⟨w.heap.size, 6, none⟩) (by show w.heap.size ≤ w.heap.size; omega) _)
  have hPr0 : PGroup (((((((UU.setCell ⟨w.heap.size, 0, none⟩ (.string x.id)).setCell ⟨w.heap.size, 1, none⟩ (.int .i64 x.people)).setCell ⟨w.heap.size, 2, none⟩ (.int .i64 x.guides)).setCell ⟨w.heap.size, 3, none⟩ (.int .i64 x.beacons)).setCell ⟨w.heap.size, 4, none⟩ (.int .i64 x.shovels)).setCell ⟨w.heap.size, 5, none⟩ (.int .i64 x.probes)).setCell ⟨w.heap.size, 6, none⟩ (.int .i64 x.skill)) w.heap.size 0 x := ((((((((show PGroup UU w.heap.size 0 ⟨⟨#[]⟩, 0, 0, 0, 0, 0, 0⟩ from ⟨hbxM0.d0, hbxM0.d1, hbxM0.d2, hbxM0.d3, hbxM0.d4, hbxM0.d5, hbxM0.d6⟩).vset0 x.id).vset1 x.people).vset2 x.guides).vset3 x.beacons).vset4 x.shovels).vset5 x.probes).vset6 x.skill)
  have hXQ0 : PGroup (((((((UU.setCell ⟨w.heap.size, 0, none⟩ (.string x.id)).setCell ⟨w.heap.size, 1, none⟩ (.int .i64 x.people)).setCell ⟨w.heap.size, 2, none⟩ (.int .i64 x.guides)).setCell ⟨w.heap.size, 3, none⟩ (.int .i64 x.beacons)).setCell ⟨w.heap.size, 4, none⟩ (.int .i64 x.shovels)).setCell ⟨w.heap.size, 5, none⟩ (.int .i64 x.probes)).setCell ⟨w.heap.size, 6, none⟩ (.int .i64 x.skill)) b 0 x := (PGroup.farS (PGroup.farS (PGroup.farS (PGroup.farS (PGroup.farS (PGroup.farS (PGroup.farS hXM0 (show b ≠ w.heap.size by omega) 0 _) (show b ≠ w.heap.size by omega) 1 _) (show b ≠ w.heap.size by omega) 2 _) (show b ≠ w.heap.size by omega) 3 _) (show b ≠ w.heap.size by omega) 4 _) (show b ≠ w.heap.size by omega) 5 _) (show b ≠ w.heap.size by omega) 6 _)
  have hXQ1 : PGroup (((((((UU.setCell ⟨w.heap.size, 0, none⟩ (.string x.id)).setCell ⟨w.heap.size, 1, none⟩ (.int .i64 x.people)).setCell ⟨w.heap.size, 2, none⟩ (.int .i64 x.guides)).setCell ⟨w.heap.size, 3, none⟩ (.int .i64 x.beacons)).setCell ⟨w.heap.size, 4, none⟩ (.int .i64 x.shovels)).setCell ⟨w.heap.size, 5, none⟩ (.int .i64 x.probes)).setCell ⟨w.heap.size, 6, none⟩ (.int .i64 x.skill)) b2 0 y := (PGroup.farS (PGroup.farS (PGroup.farS (PGroup.farS (PGroup.farS (PGroup.farS (PGroup.farS hXM1 (show b2 ≠ w.heap.size by omega) 0 _) (show b2 ≠ w.heap.size by omega) 1 _) (show b2 ≠ w.heap.size by omega) 2 _) (show b2 ≠ w.heap.size by omega) 3 _) (show b2 ≠ w.heap.size by omega) 4 _) (show b2 ≠ w.heap.size by omega) 5 _) (show b2 ≠ w.heap.size by omega) 6 _)
  have hbxQ1 : BxGroup (((((((UU.setCell ⟨w.heap.size, 0, none⟩ (.string x.id)).setCell ⟨w.heap.size, 1, none⟩ (.int .i64 x.people)).setCell ⟨w.heap.size, 2, none⟩ (.int .i64 x.guides)).setCell ⟨w.heap.size, 3, none⟩ (.int .i64 x.beacons)).setCell ⟨w.heap.size, 4, none⟩ (.int .i64 x.shovels)).setCell ⟨w.heap.size, 5, none⟩ (.int .i64 x.probes)).setCell ⟨w.heap.size, 6, none⟩ (.int .i64 x.skill)) (w.heap.size + 1) := (BxGroup.far (j := 6) (v := .int .i64 x.skill) (BxGroup.far (j := 5) (v := .int .i64 x.probes) (BxGroup.far (j := 4) (v := .int .i64 x.shovels) (BxGroup.far (j := 3) (v := .int .i64 x.beacons) (BxGroup.far (j := 2) (v := .int .i64 x.guides) (BxGroup.far (j := 1) (v := .int .i64 x.people) (BxGroup.far (j := 0) (v := .string x.id) hbxM1 (show (w.heap.size + 1) ≠ w.heap.size by omega)) (show (w.heap.size + 1) ≠ w.heap.size by omega)) (show (w.heap.size + 1) ≠ w.heap.size by omega)) (show (w.heap.size + 1) ≠ w.heap.size by omega)) (show (w.heap.size + 1) ≠ w.heap.size by omega)) (show (w.heap.size + 1) ≠ w.heap.size by omega)) (show (w.heap.size + 1) ≠ w.heap.size by omega))
  clear hXM0 hXM1 hbxM0 hbxM1 d0 d1 d2 d3 d4 d5 d6 z0 z1 z2 z3 z4 z5 z6
  revert hbu hPr0 hXQ0 hXQ1 hbxQ1
  generalize (((((((UU.setCell ⟨w.heap.size, 0, none⟩ (.string x.id)).setCell ⟨w.heap.size, 1, none⟩ (.int .i64 x.people)).setCell ⟨w.heap.size, 2, none⟩ (.int .i64 x.guides)).setCell ⟨w.heap.size, 3, none⟩ (.int .i64 x.beacons)).setCell ⟨w.heap.size, 4, none⟩ (.int .i64 x.shovels)).setCell ⟨w.heap.size, 5, none⟩ (.int .i64 x.probes)).setCell ⟨w.heap.size, 6, none⟩ (.int .i64 x.skill)) = u
  intro hbu hPr0 hXM0 hXM1 hbxM1
  have hbuS : Below (w.heap.size) V u := hbuS.trans hbu
  try simp only [Act.put, List.setIfInBounds_toArray, List.set_cons_zero, List.set_cons_succ]
  refine hK _ _ ⟨⟨_, hbuS, ⟨hXM0, hXM1⟩⟩, rfl⟩ ?_
  clear hK K
  refine wpMix_act (by kernel_rfl) (fun K hK => ?_)
  obtain ⟨UU, rfl⟩ : ∃ N, N = u := ⟨u, rfl⟩
  obtain ⟨d0, d1, d2, d3, d4, d5, d6, z0, z1, z2, z3, z4, z5, z6⟩ := id hbxM1
  go_big_op
  have hbu : Below w.heap.size UU (((((((UU.setCell ⟨(w.heap.size + 1), 0, none⟩ (.string y.id)).setCell ⟨(w.heap.size + 1), 1, none⟩ (.int .i64 y.people)).setCell ⟨(w.heap.size + 1), 2, none⟩ (.int .i64 y.guides)).setCell ⟨(w.heap.size + 1), 3, none⟩ (.int .i64 y.beacons)).setCell ⟨(w.heap.size + 1), 4, none⟩ (.int .i64 y.shovels)).setCell ⟨(w.heap.size + 1), 5, none⟩ (.int .i64 y.probes)).setCell ⟨(w.heap.size + 1), 6, none⟩ (.int .i64 y.skill)) := ((((((((Below.refl w.heap.size UU).setCell (p := ⟨(w.heap.size + 1), 0, none⟩) (by show w.heap.size ≤ (w.heap.size + 1); omega) _).setCell (p := ⟨(w.heap.size + 1), 1, none⟩) (by show w.heap.size ≤ (w.heap.size + 1); omega) _).setCell (p := ⟨(w.heap.size + 1), 2, none⟩) (by show w.heap.size ≤ (w.heap.size + 1); omega) _).setCell (p := ⟨(w.heap.size + 1), 3, none⟩) (by show w.heap.size ≤ (w.heap.size + 1); omega) _).setCell (p := ⟨(w.heap.size + 1), 4, none⟩) (by show w.heap.size ≤ (w.heap.size + 1); omega) _).setCell (p := ⟨(w.heap.size + 1), 5, none⟩) (by show w.heap.size ≤ (w.heap.size + 1); omega) _).setCell (p := ⟨(w.heap.size + 1), 6, none⟩) (by show w.heap.size ≤ (w.heap.size + 1); omega) _)
  have hPr1 : PGroup (((((((UU.setCell ⟨(w.heap.size + 1), 0, none⟩ (.string y.id)).setCell ⟨(w.heap.size + 1), 1, none⟩ (.int .i64 y.people)).setCell ⟨(w.heap.size + 1), 2, none⟩ (.int .i64 y.guides)).setCell ⟨(w.heap.size + 1), 3, none⟩ (.int .i64 y.beacons)).setCell ⟨(w.heap.size + 1), 4, none⟩ (.int .i64 y.shovels)).setCell ⟨(w.heap.size + 1), 5, none⟩ (.int .i64 y.probes)).setCell ⟨(w.heap.size + 1), 6, none⟩ (.int .i64 y.skill)) (w.heap.size + 1) 0 y := ((((((((show PGroup UU (w.heap.size + 1) 0 ⟨⟨#[]⟩, 0, 0, 0, 0, 0, 0⟩ from ⟨hbxM1.d0, hbxM1.d1, hbxM1.d2, hbxM1.d3, hbxM1.d4, hbxM1.d5, hbxM1.d6⟩).vset0 y.id).vset1 y.people).vset2 y.guides).vset3 y.beacons).vset4 y.shovels).vset5 y.probes).vset6 y.skill)
  have hXQ0 : PGroup (((((((UU.setCell ⟨(w.heap.size + 1), 0, none⟩ (.string y.id)).setCell ⟨(w.heap.size + 1), 1, none⟩ (.int .i64 y.people)).setCell ⟨(w.heap.size + 1), 2, none⟩ (.int .i64 y.guides)).setCell ⟨(w.heap.size + 1), 3, none⟩ (.int .i64 y.beacons)).setCell ⟨(w.heap.size + 1), 4, none⟩ (.int .i64 y.shovels)).setCell ⟨(w.heap.size + 1), 5, none⟩ (.int .i64 y.probes)).setCell ⟨(w.heap.size + 1), 6, none⟩ (.int .i64 y.skill)) b 0 x := (PGroup.farS (PGroup.farS (PGroup.farS (PGroup.farS (PGroup.farS (PGroup.farS (PGroup.farS hXM0 (show b ≠ (w.heap.size + 1) by omega) 0 _) (show b ≠ (w.heap.size + 1) by omega) 1 _) (show b ≠ (w.heap.size + 1) by omega) 2 _) (show b ≠ (w.heap.size + 1) by omega) 3 _) (show b ≠ (w.heap.size + 1) by omega) 4 _) (show b ≠ (w.heap.size + 1) by omega) 5 _) (show b ≠ (w.heap.size + 1) by omega) 6 _)
  have hPrQ0 : PGroup (((((((UU.setCell ⟨(w.heap.size + 1), 0, none⟩ (.string y.id)).setCell ⟨(w.heap.size + 1), 1, none⟩ (.int .i64 y.people)).setCell ⟨(w.heap.size + 1), 2, none⟩ (.int .i64 y.guides)).setCell ⟨(w.heap.size + 1), 3, none⟩ (.int .i64 y.beacons)).setCell ⟨(w.heap.size + 1), 4, none⟩ (.int .i64 y.shovels)).setCell ⟨(w.heap.size + 1), 5, none⟩ (.int .i64 y.probes)).setCell ⟨(w.heap.size + 1), 6, none⟩ (.int .i64 y.skill)) w.heap.size 0 x := (PGroup.farS (PGroup.farS (PGroup.farS (PGroup.farS (PGroup.farS (PGroup.farS (PGroup.farS hPr0 (show w.heap.size ≠ (w.heap.size + 1) by omega) 0 _) (show w.heap.size ≠ (w.heap.size + 1) by omega) 1 _) (show w.heap.size ≠ (w.heap.size + 1) by omega) 2 _) (show w.heap.size ≠ (w.heap.size + 1) by omega) 3 _) (show w.heap.size ≠ (w.heap.size + 1) by omega) 4 _) (show w.heap.size ≠ (w.heap.size + 1) by omega) 5 _) (show w.heap.size ≠ (w.heap.size + 1) by omega) 6 _)
  have hXQ1 : PGroup (((((((UU.setCell ⟨(w.heap.size + 1), 0, none⟩ (.string y.id)).setCell ⟨(w.heap.size + 1), 1, none⟩ (.int .i64 y.people)).setCell ⟨(w.heap.size + 1), 2, none⟩ (.int .i64 y.guides)).setCell ⟨(w.heap.size + 1), 3, none⟩ (.int .i64 y.beacons)).setCell ⟨(w.heap.size + 1), 4, none⟩ (.int .i64 y.shovels)).setCell ⟨(w.heap.size + 1), 5, none⟩ (.int .i64 y.probes)).setCell ⟨(w.heap.size + 1), 6, none⟩ (.int .i64 y.skill)) b2 0 y := (PGroup.farS (PGroup.farS (PGroup.farS (PGroup.farS (PGroup.farS (PGroup.farS (PGroup.farS hXM1 (show b2 ≠ (w.heap.size + 1) by omega) 0 _) (show b2 ≠ (w.heap.size + 1) by omega) 1 _) (show b2 ≠ (w.heap.size + 1) by omega) 2 _) (show b2 ≠ (w.heap.size + 1) by omega) 3 _) (show b2 ≠ (w.heap.size + 1) by omega) 4 _) (show b2 ≠ (w.heap.size + 1) by omega) 5 _) (show b2 ≠ (w.heap.size + 1) by omega) 6 _)
  clear hXM0 hXM1 hbxM1 hPr0 d0 d1 d2 d3 d4 d5 d6 z0 z1 z2 z3 z4 z5 z6
  revert hbu hPr1 hXQ0 hPrQ0 hXQ1
  generalize (((((((UU.setCell ⟨(w.heap.size + 1), 0, none⟩ (.string y.id)).setCell ⟨(w.heap.size + 1), 1, none⟩ (.int .i64 y.people)).setCell ⟨(w.heap.size + 1), 2, none⟩ (.int .i64 y.guides)).setCell ⟨(w.heap.size + 1), 3, none⟩ (.int .i64 y.beacons)).setCell ⟨(w.heap.size + 1), 4, none⟩ (.int .i64 y.shovels)).setCell ⟨(w.heap.size + 1), 5, none⟩ (.int .i64 y.probes)).setCell ⟨(w.heap.size + 1), 6, none⟩ (.int .i64 y.skill)) = u
  intro hbu hPr1 hXM0 hPr0 hXM1
  have hbuS : Below (w.heap.size) V u := hbuS.trans hbu
  try simp only [Act.put, List.setIfInBounds_toArray, List.set_cons_zero, List.set_cons_succ]
  refine hK _ _ ⟨⟨_, hbuS, ⟨hXM0, hXM1⟩⟩, rfl⟩ ?_
  clear hK K
  refine wpMix_pure (by kernel_rfl) (fun K hK => ?_); go_big_quiet_op; refine hK _ ?_; clear hK K
  refine wpMix_nil ?_
  have hB9 := hB.trans (hbuS.mono (Nat.le_refl _))
  obtain ⟨k0, k1, k2, k3, k4, k5, k6⟩ := hPr0
  obtain ⟨m0, m1, m2, m3, m4, m5, m6⟩ := hPr1
  have htz : t.size ≤ 100 := by
    have : ∀ y ∈ ([⟨#[98, 111, 116, 104]⟩, ⟨#[97, 110, 116, 115]⟩, ⟨#[]⟩, ⟨#[66]⟩] : List ByteArray), y.size ≤ 100 := by decide
    exact this t ht
  go_wp2
  exact bodyPost_ret (v := .tuple #[agGroup x, agGroup y, .string t]) (by simp [agGroup, results, k0, k1, k2, k3, k4, k5, k6, m0, m1, m2, m3, m4, m5, m6, Tryz.results14, go_sem]) rfl ⟨x, y, t, rfl, HXx, HXy, htz, hB9⟩
set_option maxRecDepth 100000 in
set_option maxHeartbeats 8000000 in
theorem DrawLendKit_any (v : Value) (xs : List UInt8) (fp : List Nat) (w : World) (hx : Sl fByte.cod w v xs fp) :
    Calls Tryz.prog 9 #[v] w fun e w' => ∃ (y : Value) (ys : List DGroup) (fq : List Nat) (i j : Int), e = .returned (.tuple #[y, .int .i64 i, .int .i64 j]) ∧ Sl fGroup.cod w' y ys fq ∧ ys.length ≤ 70 ∧ (-100 ≤ i ∧ i ≤ 100) ∧ (-100 ≤ j ∧ j ≤ 100) ∧ Below w.heap.size w w' := by
  go_enter Tryz.func9, Tryz.ntmps9
  go_wp2_with fail
  refine (l00From_any v xs fp _ hx).mono ?_
  rintro e w1 ⟨rfl, hs, hb1⟩
  have hgw := Nat.le_refl w.heap.size
  generalize hg0 : w.heap.size = g at hs hgw ⊢
  have hge : w.heap.size ≤ g := by omega
  clear hg0 hgw
  have hof : ∀ b ∈ [g], w.heap.size ≤ b := by simp; omega
  clear hx
  go_wp2_with fail
  refine (l24Draw_any _ g _ hs (by omega)).mono ?_
  rintro e w2 ⟨y, ys, fq, rfl, hsl, hlo, hnd, hsm, hl, hs2, ho2⟩
  have hg1 := hs.lt
  have hgq : ∀ b ∈ fq, b ∉ [g] := fun b hb => by have := hlo b hb; simp; omega
  obtain ⟨A, cap, rfl, _, _⟩ := hsl.form
  have hB2 : Below w.heap.size w w2 := hb1.trans (ho2.below hb1.size hof)
  clear hs hlo hnd hb1 ho2 hsm
  go_wp2_with fail
  refine (maxS_any _ _ _).mono ?_
  rintro e w' ⟨rfl, rfl⟩
  have hm : 1 ≤ max 1 (ys.length : Int) ∧ max 1 (ys.length : Int) ≤ 70 := by omega
  have hm2 := Lib.hid (show max 1 (ys.length : Int) ≤ (ys.length : Int) + 1 by omega)
  generalize max 1 (ys.length : Int) = mm at *
  go_wp2_with fail
  refine (pick_any _ g _ _ hs2 (by omega) (by omega)).mono ?_
  rintro e w3 ⟨i, rfl, ⟨i0, i1, _⟩, hs3, ho3⟩
  replace i1 := i1 (by omega)
  replace hsl := hsl.only ho3 hgq
  replace hB2 := hB2.trans (ho3.below hB2.size hof)
  clear hs2 ho3
  go_wp2_with fail
  refine (maxS_any _ _ _).mono ?_
  rintro e w' ⟨rfl, rfl⟩
  have hmm2 : 1 ≤ max 1 (ys.length : Int) ∧ max 1 (ys.length : Int) ≤ 70 := by omega
  generalize max 1 (ys.length : Int) = mm2 at *
  go_wp2_with fail
  refine (pick_any _ g _ _ hs3 (by omega) (by omega)).mono ?_
  rintro e w4 ⟨j, rfl, ⟨j0, j1, _⟩, hs4, ho4⟩
  replace j1 := j1 (by omega)
  replace hsl := hsl.only ho4 hgq
  replace hB2 := hB2.trans (ho4.below hB2.size hof)
  clear hs3 ho4
  go_wp2_with fail
  refine (one_any _ g 12 _ hs4 (by omega) (by omega)).mono ?_
  rintro e w5 ⟨b, rfl, hs5, ho5⟩
  replace hsl := hsl.only ho5 hgq
  replace hB2 := hB2.trans (ho5.below hB2.size hof)
  clear hs4 ho5
  cases b
  · go_wp2
    go_ret3
    exact ⟨_, ys, fq, i, j, rfl, hsl, hl, by omega, by omega, hB2⟩
  · have hAl : Below w5.heap.size w5 (w5.alloc (.cells #[.int .i64 (-1), .int .i64 (ys.length : Int)] 2)) := (Below.refl _ _).alloc (Nat.le_refl _) _
    have hgl := hs5.lt
    have hsl2 := Sl.lit2 (E := fInt) w5 [-1, (ys.length : Int)] 2 _ rfl (by intro x hx; simp only [List.mem_cons, List.not_mem_nil, or_false] at hx; show _ ∧ _; omega) (by show 0 < 2; decide) (by show 2 ≤ _; decide)
    go_wp2_with fail
    refine (among_any _ g _ [-1, (ys.length : Int)] [w5.heap.size] _ (hs5.below hAl) (by omega) hsl2 (by simp; omega) (by show 0 < 2; decide) (by show 2 ≤ _; decide)).mono ?_
    rintro e w6 ⟨t, ht, rfl, hs6, ho6⟩
    have htb : -100 ≤ t ∧ t ≤ 100 := by simp only [List.mem_cons, List.not_mem_nil, or_false] at ht; omega
    have ho7 := Only.later hAl ho6
    replace hsl := hsl.only ho7 hgq
    replace hB2 := hB2.trans (ho7.below hB2.size hof)
    clear hs5 ho6 ho7 hsl2 hAl ht
    go_wp2
    go_ret3
    exact ⟨_, ys, fq, i, t, rfl, hsl, hl, by omega, htb, hB2⟩

end Go.Proofs.YtdpeffaplkbkgaaGreatDoor

namespace Go.Proofs.YtdpeffaplkbkgaaGreatDoor
open Go.RowKit
set_option linter.unusedVariables false

/-- A row of the call's own that holds the list. -/
def OwnK {α : Type} (E : Flat α) (T : TypeId) (w : World) (xs : List α) (e : Ending) (w' : World) : Prop := ∃ v, e = .returned v ∧ Own E w' w.heap.size T v xs ∧ Below w.heap.size w w'
theorem rowp_ {cur A B : List Value} {n p j : Nat} {u : Value} (hct : cur.take n = A ++ B) (hA : A.length = p) (hu : B[j]? = some u) : cur[p + j]? = some u := by
  have hj : p + j < n := by
    have h1 : (A ++ B).length ≤ n := by rw [← hct, List.length_take]; omega
    rw [List.length_append] at h1
    have h2 : j < B.length := by
      rcases Nat.lt_or_ge j B.length with h | h
      · exact h
      · rw [List.getElem?_eq_none h] at hu; cases hu
    omega
  have h := congrArg (fun l : List Value => l[p + j]?) hct
  simp only [List.getElem?_take, if_pos hj] at h
  rw [h, List.getElem?_append_right (by omega), hA, Nat.add_sub_cancel_left]
  exact hu
theorem arr3_ (A : List Value) (X Y : Array Value) : (A ++ (X.toList ++ Y.toList)).toArray = A.toArray ++ X ++ Y := by
  apply Array.ext'; simp
theorem rowh_ {cur A B : List Value} {n j : Nat} {u : Value} (hct : cur.take n = A ++ B) (hu : A[j]? = some u) : cur[j]? = some u := by
  have h2 : j < A.length := by
    rcases Nat.lt_or_ge j A.length with h | h
    · exact h
    · rw [List.getElem?_eq_none h] at hu; cases hu
  have hj : j < n := by
    have h1 : (A ++ B).length ≤ n := by rw [← hct, List.length_take]; omega
    rw [List.length_append] at h1
    omega
  have h := congrArg (fun l : List Value => l[j]?) hct
  simp only [List.getElem?_take, if_pos hj] at h
  rw [h, List.getElem?_append_left h2]
  exact hu
theorem ownM_ {w : World} {base base' : Nat} {e : TypeId} {size : Nat} {v : Value} {n : Nat} {xs : List Value} (h : w.ownsRow base e size v n xs) (hb : base' ≤ base) : w.ownsRow base' e size v n xs := by
  obtain ⟨h1, h2⟩ := h
  refine ⟨h1, ?_⟩
  rcases h2 with h2 | ⟨g, cap, cur, hv, hg, r⟩
  · exact .inl h2
  · exact .inr ⟨g, cap, cur, hv, by omega, r⟩
theorem ownO_ {w : World} {base : Nat} {e : TypeId} {size : Nat} {v : Value} {n : Nat} {xs : List Value} (h : w.ownsRow base e size v n xs) (hn : 0 < n) :
    ∃ g cap, v = .slice (some ⟨g, 0, none⟩) n cap ∧ base ≤ g ∧ g < w.heap.size ∧ n ≤ cap ∧ cap ≤ 9223372036854775807 := by
  obtain ⟨h1, h2⟩ := h
  rcases h2 with ⟨_, h0⟩ | ⟨g, cap, cur, hv, hg, hh, hnc, hcm, _, _⟩
  · omega
  · refine ⟨g, cap, hv, hg, ?_, hnc, by unfold maxLen at hcm; exact hcm⟩
    rcases Nat.lt_or_ge g w.heap.size with hlt | hge
    · exact hlt
    · rw [Array.getElem?_eq_none hge] at hh; cases hh
/-- How many stand ahead. -/
def posF {α : Type} (p : α → Bool) (xs : List α) : Nat := (xs.takeWhile p).length
theorem posF_is {α : Type} (p : α → Bool) (xs : List α) (k : Nat) (hk : k ≤ xs.length) (h1 : ∀ m (h : m < xs.length), m < k → p xs[m] = true) (h2 : ∀ h : k < xs.length, p xs[k] = false) : posF p xs = k := by
  unfold posF
  induction xs generalizing k with
  | nil => simp at hk; subst hk; rfl
  | cons x xs ih =>
    cases k with
    | zero =>
      have := h2 (by simp)
      rw [List.takeWhile_cons, show p x = false from this]; rfl
    | succ k =>
      have h3 : p x = true := h1 0 (by simp) (by omega)
      rw [List.takeWhile_cons, h3, if_pos rfl, List.length_cons]
      congr 1
      refine ih k (by simpa using hk) (fun m h hm => ?_) (fun h => ?_)
      · have := h1 (m + 1) (by simpa using h) (by omega); simpa using this
      · have := h2 (by simpa using h); simpa using this
theorem posF_le {α : Type} (p : α → Bool) (xs : List α) : posF p xs ≤ xs.length := by
  unfold posF
  exact (List.takeWhile_prefix p).length_le
end Go.Proofs.YtdpeffaplkbkgaaGreatDoor

namespace Go.Proofs.YtdpeffaplkbkgaaGreatDoor
open Go.RowKit
set_option linter.unusedVariables false

theorem infoGroupK : (Tryz.prog.info? 25).map (fun i => (i.zero, i.size, i.bytes)) = some (some (.agg #[.string ⟨#[]⟩, .int .i64 0, .int .i64 0, .int .i64 0, .int .i64 0, .int .i64 0, .int .i64 0]), 7, 64) := by kernel_rfl
set_option maxRecDepth 100000 in
set_option maxHeartbeats 1000000 in
theorem cloneGroup_any (v : Value) (xs : List DGroup) (fp : List Nat) (w : World) (hx : Sl fGroup.cod w v xs fp) (hl : xs.length ≤ 1000000) :
    Calls Tryz.prog 31 #[v] w fun e w' => OwnK fGroup 25 w xs e w' := by
  obtain ⟨A, cap, rfl, hlen, hcap⟩ := hx.form
  obtain ⟨i0, hi, hz0, hz1, hz2⟩ := info_parts infoGroupK
  have hsrc := (hx.below' ((Below.refl _ _).alloc (Nat.le_refl _) (.cells #[] 25))).src
  have ho := Own.lit0 fGroup w 25
  have hb0 : Below w.heap.size w (w.alloc (.cells #[] 25)) := (Below.refl _ _).alloc (Nat.le_refl _) _
  have hs2 := hb0.size
  have q22 : ∀ (w : World) (a : Option Addr) (n c n' c' : Nat), (binOp .eql 28 (.slice a n c) (.slice none n' c')).run Tryz.prog w = .ok (.bool a.isNone) w := fun w a n c n' c' => Lib.run_eql_slice_nil w _ _ a n c n' c' Tryz.underlying28
  cases A with
  | none =>
    have hnil : xs = [] := by
      rcases Nat.eq_zero_or_pos xs.length with h0 | h0
      · exact List.eq_nil_of_length_eq_zero h0
      · obtain ⟨b, off, hA, _⟩ := hx.cells h0
        cases hA
    subst hnil
    go_enter Tryz.func31, Tryz.ntmps31
    go_wp2
    go_ret
    exact ⟨_, rfl, Own.nil _ _ _ _, Below.refl _ _⟩
  | some ad =>
    go_enter Tryz.func31, Tryz.ntmps31
    go_wp2_with (at_builtin; refine wpList_append_src (E := fGroup) rfl _ _ 28 rfl w.heap.size 25 i0 (.agg #[.string ⟨#[]⟩, .int .i64 0, .int .i64 0, .int .i64 0, .int .i64 0, .int .i64 0, .int .i64 0]) 64 Tryz.underlying28 hi hz0 hz1 hz2 rfl (.slice (some ⟨w.heap.size, 0, none⟩) 0 0) [] rfl ho _ xs rfl hsrc (by simp; omega) (by decide) hs2 ?_)
    intro v' u hown hbu
    try rw [List.nil_append] at hown
    go_wp2
    go_ret
    exact ⟨_, rfl, hown, hb0.trans hbu⟩

end Go.Proofs.YtdpeffaplkbkgaaGreatDoor

namespace Go.Proofs.YtdpeffaplkbkgaaGreatDoor
open Go.RowKit
set_option linter.unusedVariables false

theorem flat_set {α : Type} {E : Flat α} : ∀ (L : List α) (k j : Nat) (y : α) (u : Value) (hk : k < L.length), j < E.n → E.enc y = (E.enc L[k]).set j u → (L.flatMap E.enc).set (k * E.n + j) u = (L.set k y).flatMap E.enc
  | [], k, j, y, u, hk, _, _ => absurd hk (Nat.not_lt_zero _)
  | x :: L, 0, j, y, u, hk, hj, hu => by
    have hl := E.len x
    rw [List.getElem_cons_zero] at hu
    rw [Nat.zero_mul, Nat.zero_add, List.flatMap_cons, List.set_cons_zero, List.flatMap_cons, List.set_append_left _ _ (by omega), hu]
  | x :: L, k + 1, j, y, u, hk, hj, hu => by
    have hl := E.len x
    have ih := flat_set L k j y u (by simpa using hk) hj (by simpa using hu)
    have e : (k + 1) * E.n + j - (E.enc x).length = k * E.n + j := by rw [hl, Nat.succ_mul]; omega
    have h2 : (E.enc x).length ≤ (k + 1) * E.n + j := by rw [hl, Nat.succ_mul]; omega
    rw [List.flatMap_cons, List.set_cons_succ, List.flatMap_cons, List.set_append_right _ _ h2, e, ih]
theorem Own.len_eq {α : Type} {E : Flat α} {w : World} {base : Nat} {e : TypeId} {A : Option Addr} {n cap : Nat} {L : List α} (h : Own E w base e (.slice A n cap) L) (hL : L ≠ []) : n = L.length := by
  rcases h.2 with ⟨hv, h0⟩ | ⟨g', cap', cur, hv, _⟩
  · injection hv with _ h1 _
    first | omega | exact absurd (List.length_eq_zero_iff.1 (by first | exact h0.1 | exact h0 | omega)) hL
  · injection hv
theorem Own.setF {α : Type} {E : Flat α} {w : World} {base : Nat} {e : TypeId} {g n cap : Nat} {L : List α} (h : Own E w base e (.slice (some ⟨g, 0, none⟩) n cap) L) {k : Nat} (hk : k < L.length) (j : Nat) (hj : j < E.n) (y : α) (u : Value) (hu : E.enc y = (E.enc L[k]).set j u) :
    Own E (w.setCell ⟨g, k * E.n + j, none⟩ u) base e (.slice (some ⟨g, 0, none⟩) n cap) (L.set k y) := by
  have hn : n = L.length := by
    rcases h.2 with ⟨hv, _⟩ | ⟨g', cap', cur, hv, _⟩
    · cases hv
    · injection hv
  have h' : w.ownsRow base e E.n (.slice (some ⟨g, 0, none⟩) L.length cap) L.length (L.flatMap E.enc) := by rw [hn] at h; exact h
  have h2 := (h'.stored (k * E.n + j) u).1
  rw [flat_set L k j y u hk hj hu] at h2
  show World.ownsRow _ base e E.n _ (L.set k y).length _
  rw [List.length_set, hn]
  exact h2
theorem Own.cellF {α : Type} {E : Flat α} {w : World} {base : Nat} {e : TypeId} {g n cap : Nat} {L : List α} (h : Own E w base e (.slice (some ⟨g, 0, none⟩) n cap) L) {k : Nat} (hk : k < L.length) {j : Nat} (hj : j < E.n) {u : Value} (hu : (E.enc L[k])[j]? = some u) : w.cell? ⟨g, k * E.n + j, none⟩ = some u := by
  have hn : n = L.length := by
    rcases h.2 with ⟨hv, _⟩ | ⟨g', cap', cur, hv, _⟩
    · cases hv
    · injection hv
  have h' : w.ownsRow base e E.n (.slice (some ⟨g, 0, none⟩) L.length cap) L.length (L.flatMap E.enc) := by rw [hn] at h; exact h
  have hlt : k * E.n + j < L.length * E.n := by
    calc k * E.n + j < k * E.n + E.n := by omega
      _ = (k + 1) * E.n := by rw [Nat.succ_mul]
      _ ≤ L.length * E.n := Nat.mul_le_mul_right _ hk
  rw [h'.cellAt (k * E.n + j) hlt]
  have := flat_get E.enc E.n L (fun x _ => E.len x) k hk j hj
  rw [this]; exact hu
theorem Own.frozenF {α : Type} {E : Flat α} {w : World} {base : Nat} {e : TypeId} {g n cap : Nat} {L : List α} (h : Own E w base e (.slice (some ⟨g, 0, none⟩) n cap) L) (k : Nat) : w.frozen? ⟨g, k, none⟩ = false := by
  have hn : n = L.length := by
    rcases h.2 with ⟨hv, _⟩ | ⟨g', cap', cur, hv, _⟩
    · cases hv
    · injection hv
  have h' : w.ownsRow base e E.n (.slice (some ⟨g, 0, none⟩) L.length cap) L.length (L.flatMap E.enc) := by rw [hn] at h; exact h
  exact h'.frozenAt k
end Go.Proofs.YtdpeffaplkbkgaaGreatDoor

namespace Go.Proofs.YtdpeffaplkbkgaaGreatDoor
open Go.RowKit
/-- Does number 't' wait for number 'i'? -/
def waitsFor (md : Region.Mode) (ops : Array Oper) (t i : Nat) : Bool := match ops[t]? with | some o => o.after.any (fun e => Region.binds md e && e.on == i) | none => false
theorem calm_call {P : Program} {o : Oper} {a : Act} {w : World} {v : Value} {f : FuncId} {args : Array Value} (hr : (execOp a.eval o).run P w = .ok (.enter f args) w) (hc : Calls P f args w fun e w' => e = .returned v ∧ ∃ m, w' = w.drewN m) :
    o.quietAt P a (fun u => ∃ m, u = w.drewN m) w v := by
  unfold Oper.quietAt
  rw [hr]
  exact ⟨rfl, hc⟩
/-- Does j wait for i, or for one not yet listed that is behind i? -/
def behind (md : Region.Mode) (ops : Array Oper) (i : Nat) (L : Array Bool) : Nat → Nat → Bool
  | 0, j => waitsFor md ops j i
  | d + 1, j => waitsFor md ops j i || (List.range ops.size).any fun k => !(L.getD k true) && waitsFor md ops j k && behind md ops i L d k
section
variable {P : Program} {ops : Array Oper} {Q : Exit → Act → World → Prop} {md : Region.Mode} {C : World → Prop} {G : Array Bool → Act → World → Prop}
theorem waitsFor_not {t i : Nat} {L : Array Bool} (hw : waitsFor md ops t i = true) (hi : L.getD i true = false) : t ∉ Region.ready md ops L := by
  intro ht
  obtain ⟨_, o, ho, hall⟩ := mem_ready.1 ht
  unfold waitsFor at hw
  rw [ho] at hw
  simp only at hw
  obtain ⟨e, he, hb⟩ := Array.any_eq_true'.1 hw
  simp only [Bool.and_eq_true, beq_iff_eq] at hb
  have h1 := hall e he hb.1
  rw [hb.2] at h1
  rcases Nat.lt_or_ge i L.size with h' | h'
  · simp [h'] at hi h1; rw [hi] at h1; cases h1
  · simp [Array.getElem?_eq_none h'] at h1
theorem behind_not {i : Nat} {L : Array Bool} (hi : L.getD i true = false) : ∀ (d j : Nat), behind md ops i L d j = true → j ∉ Region.ready md ops L := by
  intro d j h
  cases d with
  | zero => exact waitsFor_not h hi
  | succ d =>
    simp only [behind, Bool.or_eq_true] at h
    rcases h with h | h
    · exact waitsFor_not h hi
    · obtain ⟨k, _, hk⟩ := List.any_eq_true.1 h
      simp only [Bool.and_eq_true, Bool.not_eq_true'] at hk
      exact waitsFor_not hk.1.2 hk.1.1
theorem behind_keep {i x : Nat} {L : Array Bool} (hi : L.getD i true = false) (hx : x ∈ Region.ready md ops L) : ∀ (d j : Nat), behind md ops i L d j = true → behind md ops i (L.setIfInBounds x true) d j = true := by
  intro d
  induction d with
  | zero => intro j h; exact h
  | succ d ih =>
    intro j h
    simp only [behind, Bool.or_eq_true] at h ⊢
    rcases h with h | h
    · exact .inl h
    · right
      obtain ⟨k, hkr, hk⟩ := List.any_eq_true.1 h
      simp only [Bool.and_eq_true, Bool.not_eq_true'] at hk
      refine List.any_eq_true.2 ⟨k, hkr, ?_⟩
      have hne : x ≠ k := fun e => behind_not hi d k hk.2 (e ▸ hx)
      simp only [Bool.and_eq_true, Bool.not_eq_true']
      exact ⟨⟨by rw [getD_set_ne true hne]; exact hk.1.1, hk.1.2⟩, ih k hk.2⟩
/-- The operation's value, and what it makes of the world, do not hang on the count of draws; and what G says stays so. -/
def Neutral (P : Program) (md : Region.Mode) (ops : Array Oper) (G : Array Bool → Act → World → Prop) (j : Nat) (o : Oper) : Prop :=
  o.guard = none ∧ ∀ L a w, j ∈ Region.ready md ops L → G L a w → ∀ x w', (execOp a.eval o).run P w = .ok x w' → ∃ u, x = .value u ∧ G (L.setIfInBounds j true) (a.put o.dst u) w' ∧ ∀ n, (execOp a.eval o).run P (w.drewN n) = .ok (.value u) (w'.drewN n)
theorem wanted_none {o : Oper} (h : o.guard = none) (y : Nat → Option Bool) : Region.wanted o y = true := by unfold Region.wanted; rw [h]
/-- What is known of a calm operation in a state. -/
def CalmIn (P : Program) (ops : Array Oper) (C : World → Prop) (o : Oper) (v : Value) (a : Act) : Prop :=
  Region.wanted o (yielded ops a.tmps) = true ∧ ∀ w, C w → o.quietAt P a (fun u => ∃ m, u = w.drewN m) w v
theorem CalmIn.turn {o : Oper} {v : Value} {a b : Act} (h : CalmIn P ops C o v a) (he : execOp b.eval o = execOp a.eval o) (hw : Region.wanted o (yielded ops b.tmps) = Region.wanted o (yielded ops a.tmps)) : CalmIn P ops C o v b := by
  unfold CalmIn Oper.quietAt at *
  rw [he, hw]; exact h
theorem CalmIn.goes {i : Nat} {o : Oper} {v : Value} {a : Act} {w : World} {K : Act → World → Prop} (hi : ops[i]? = some o) (h : CalmIn P ops C o v a) (hC : C w) (hK : ∀ n, K (a.put o.dst v) (w.drewN n)) : wpOp P ops Q i K a w := by
  obtain ⟨hw, hq⟩ := h
  unfold wpOp
  simp only [hi]
  rw [if_pos hw]
  have hqw := hq w hC
  left
  unfold Oper.quietAt at hqw
  unfold Oper.wp
  revert hqw
  cases (execOp a.eval o).run P w with
  | halt x w' => exact fun h => h.elim
  | ok nx w' =>
    cases nx with
    | value u => rintro ⟨rfl, rfl⟩; exact hK 0
    | skip => rintro ⟨rfl, rfl⟩; exact hK 0
    | enter f args =>
      rintro ⟨rfl, hc⟩
      refine Calls.mono hc fun e w'' hh => ?_
      obtain ⟨rfl, m, rfl⟩ := hh
      exact hK m
    | _ => exact fun h => h.elim
/-- A calm operation that may come up may go first. -/
theorem wpAnyH_calm {i : Nat} {oi : Oper} {v : Value} {ns : List Nat} (hi : ops[i]? = some oi) (hs : Region.noSelect ops = true) (hN : ∀ j ∈ ns, ∀ o, ops[j]? = some o → Neutral P md ops G j o) (hCd : ∀ w n, C w → C (w.drewN n)) (hLO : ¬ LetsOut Q)
    (hQ : ∀ (c : _) (a : Act) (w : World), Q (.panic c) (a.put oi.dst v) w → Q (.panic c) a w) :
    ∀ (n : Nat) (L : Array Bool) (a : Act) (w : World), (∀ j oj, ops[j]? = some oj → j ≠ i → L.getD j true = false → (∀ e ∈ oj.after, Region.binds md e = true → e.on ≠ i) → oi.apart ops oj = true) →
      (∀ j, j < ops.size → L.getD j true = true ∨ j = i ∨ j ∈ ns ∨ behind md ops i L 9 j = true) →
      i ∈ Region.ready md ops L → CalmIn P ops C oi v a → G L a w → C w → (∀ m, wpAnyH P md ops Q C n (L.setIfInBounds i true) (a.put oi.dst v) (w.drewN m)) → wpAnyH P md ops Q C (n + 1) L a w := by
  have hsel := Region.noSelect_spec hs
  intro n
  induction n with
  | zero =>
    intro L a w _ _ hr hy _ hC h
    refine ⟨fun e => absurd hr (by rw [e]; exact List.not_mem_nil), fun j hj => ?_⟩
    by_cases e : j = i
    · subst e; exact hy.goes hi hC (fun m => ⟨hCd _ _ hC, h m⟩)
    · have hm := ready_mono hj e
      rw [(h 0).1] at hm; exact absurd hm List.not_mem_nil
  | succ n ih =>
    intro L a w hfr hbe hr hy hG hC h
    refine ⟨fun e => absurd hr (by rw [e]; exact List.not_mem_nil), fun j hj => ?_⟩
    by_cases e : j = i
    · subst e; exact hy.goes hi hC (fun m => ⟨hCd _ _ hC, h m⟩)
    obtain ⟨hu, oj, hoj, hall⟩ := mem_ready.1 hj
    have hui := (mem_ready.1 hr).1
    have hno : ∀ d ∈ oj.after, Region.binds md d = true → d.on ≠ i := fun d hd hb he => by
      have t := hall d hd hb
      rw [he] at t
      rcases Nat.lt_or_ge i L.size with hl | hl
      · simp [hl] at hui t; rw [hui] at t; cases t
      · simp [Array.getElem?_eq_none hl] at hui
    have hjn : j ∈ ns := by
      have hjs : j < ops.size := by
        rcases Nat.lt_or_ge j ops.size with hl | hl
        · exact hl
        · rw [Array.getElem?_eq_none hl] at hoj; cases hoj
      rcases hbe j hjs with h1 | h1 | h1 | h1
      · rw [hu] at h1; cases h1
      · exact absurd h1 e
      · exact h1
      · exact absurd hj (behind_not hui _ _ h1)
    have hap := hfr j oj hoj e hu hno
    obtain ⟨h1, h2, h3⟩ := Oper.apart_spec hap
    have hsi : ∀ cs b, oi.op ≠ .select cs b := fun cs b => hsel i oi cs b hi
    have hsj : ∀ cs b, oj.op ≠ .select cs b := fun cs b => hsel j oj cs b hoj
    have he := execOp_put oj hsj a oi.dst v h1
    have hwj := wanted_put oj a oi.dst v h1
    have next : ∀ (u : Value) (w' : World), G (L.setIfInBounds j true) (a.put oj.dst u) w' → (∀ m, C (w'.drewN m) ∧ wpAnyH P md ops Q C n ((L.setIfInBounds i true).setIfInBounds j true) ((a.put oi.dst v).put oj.dst u) (w'.drewN m)) → C w' ∧ wpAnyH P md ops Q C (n + 1) (L.setIfInBounds j true) (a.put oj.dst u) w' := fun u w' hg hk => by
      have hC' : C w' := (hk 0).1
      refine ⟨hC', ih (L.setIfInBounds j true) _ w' (fun k ok hk' hki hun hnk => hfr k ok hk' hki ?_ hnk) (fun k hk' => ?_) (ready_mono hr (Ne.symm e)) (hy.turn (execOp_put oi hsi a oj.dst u h3) (wanted_put oi a oj.dst u h3)) hg hC' (fun m => ?_)⟩
      · by_cases hjk : j = k
        · subst hjk; exact hu
        · rwa [getD_set_ne true hjk] at hun
      · rcases hbe k hk' with h1 | h1 | h1 | h1
        · by_cases hjk : j = k
          · subst hjk; rw [hu] at h1; cases h1
          · left; rw [getD_set_ne true hjk]; exact h1
        · exact .inr (.inl h1)
        · exact .inr (.inr (.inl h1))
        · exact .inr (.inr (.inr (behind_keep hui hj _ _ h1)))
      · have h9 := (hk m).2
        rw [Act.put_comm a v u h2] at h9
        rw [Array.setIfInBounds_comm _ _ e]
        exact h9
    have hj' := ready_mono hj e
    have hn0 := fun m => (h m).2 j hj'
    unfold wpOp at hn0 ⊢
    simp only [hoj] at hn0 ⊢
    rw [hwj] at hn0
    by_cases hw : Region.wanted oj (yielded ops a.tmps) = true
    · simp only [hw, if_true] at hn0
      rw [if_pos hw]
      rcases hn0 0 with h0 | ⟨ha, hl⟩
      · left
        have hneu := (hN j hjn oj hoj).2 L a w hj hG
        unfold Oper.wp at h0 ⊢
        rw [he] at h0
        cases hrun : (execOp a.eval oj).run P w with
        | halt x w' =>
          rw [show w.drewN 0 = w from rfl, hrun] at h0
          cases x with
          | panic u => exact hQ _ _ _ h0
          | _ => exact h0
        | ok x w' =>
          obtain ⟨u, rfl, hg, hsh⟩ := hneu x w' hrun
          refine next u w' hg (fun m => ?_)
          have hm : C (w'.drewN m) ∧ wpAnyH P md ops Q C n ((L.setIfInBounds i true).setIfInBounds j true) ((a.put oi.dst v).put oj.dst u) (w'.drewN m) := by
            rcases hn0 m with hm | ⟨ha, hl⟩
            · unfold Oper.wp at hm
              rw [he, hsh m] at hm
              exact hm
            · exact absurd hl hLO
          exact hm
      · exact absurd hl hLO
    · exact absurd (wanted_none (hN j hjn oj hoj).1 _) hw
end
/-- The post, of what ends as it should; all else is False. -/
def NormQ (Q : Exit → Act → World → Prop) : Exit → Act → World → Prop
  | .normal, a, w => Q .normal a w
  | _, _, _ => False
theorem normQ_imp {Q : Exit → Act → World → Prop} : ∀ (e : Exit) (a : Act) (w : World), NormQ Q e a w → Q e a w := fun e a w h => by
  cases e <;> first | exact h | exact h.elim
theorem normQ_out {Q : Exit → Act → World → Prop} : ¬ LetsOut (NormQ Q) := fun ⟨_, _, h⟩ => h
/-- A plan: what only looks goes first; what acts comes up alone, or two by two. -/
inductive QT where
  | nil : QT
  | look (i : Nat) (t : QT) : QT
  | still (i : Nat) (t : QT) : QT
  | act (i : Nat) (t : QT) : QT
  | two (i : Nat) (s : QT) (j : Nat) (t : QT) : QT
inductive UT where
  | nil : UT
  | look (o : Oper) (t : UT) : UT
  | still (o : Oper) (t : UT) : UT
  | act (o : Oper) (t : UT) : UT
  | two (o : Oper) (s : UT) (p : Oper) (t : UT) : UT
def QT.ops (l : List Oper) : QT → UT
  | .nil => .nil
  | .look i t => .look (l.getD i default) (t.ops l)
  | .still i t => .still (l.getD i default) (t.ops l)
  | .act i t => .act (l.getD i default) (t.ops l)
  | .two i s j t => .two (l.getD i default) (s.ops l) (l.getD j default) (t.ops l)
def QT.len : QT → Nat
  | .nil => 0
  | .look _ t => t.len + 1
  | .still _ t => t.len + 1
  | .act _ t => t.len + 1
  | .two _ s _ _ => s.len + 1
def calmB (md : Region.Mode) (ops : Array Oper) (ns ls : List Nat) : QT → Array Bool → Bool
  | .nil, L => (Region.ready md ops L).isEmpty
  | .look i t, L => decide (i < ops.size) && ((Region.ready md ops L).contains i && Region.free md ops L i && ((ops[i]?).map valueOnly).getD false) && calmB md ops ns ls t (L.setIfInBounds i true)
  | .still i t, L => decide (i < ops.size) && ((Region.ready md ops L).contains i && Region.free md ops L i && ls.all (fun k => !(L.getD k true)) && (List.range ops.size).all fun j => L.getD j true || j == i || ns.contains j || behind md ops i L 9 j) && calmB md ops ns ls t (L.setIfInBounds i true)
  | .act i t, L => decide (i < ops.size) && (Region.ready md ops L == [i]) && calmB md ops ns ls t (L.setIfInBounds i true)
  | .two i s j t, L => decide (i < ops.size) && decide (j < ops.size) && (s.len == t.len) && (Region.ready md ops L == [i, j]) && calmB md ops ns ls s (L.setIfInBounds i true) && calmB md ops ns ls t (L.setIfInBounds j true)
section
variable {P : Program} {ops : Array Oper} {Q : Exit → Act → World → Prop} {md : Region.Mode} {C : World → Prop} {G : Act → World → Prop}
def wpCalm (P : Program) (ops : Array Oper) (Q : Exit → Act → World → Prop) (C : World → Prop) (G : Act → World → Prop) : UT → Act → World → Prop
  | .nil, a, w => Q .normal a w
  | .look o t, a, w => if Region.wanted o (yielded ops a.tmps) then o.quiet P a C (fun a' => wpCalm P ops Q C G t a' w) else wpCalm P ops Q C G t (a.put o.dst undef) w
  | .still o t, a, w => G a w ∧ Region.wanted o (yielded ops a.tmps) = true ∧ ∃ v, (∀ u, C u → o.quietAt P a (fun x => ∃ m, x = u.drewN m) u v) ∧ ∀ n, wpCalm P ops Q C G t (a.put o.dst v) (w.drewN n)
  | .act o t, a, w => if Region.wanted o (yielded ops a.tmps) then o.wp P a w (fun a' w' => C w' ∧ wpCalm P ops Q C G t a' w') Q else wpCalm P ops Q C G t (a.put o.dst undef) w
  | .two o s p t, a, w => (if Region.wanted o (yielded ops a.tmps) then o.wp P a w (fun a' w' => C w' ∧ wpCalm P ops Q C G s a' w') Q else wpCalm P ops Q C G s (a.put o.dst undef) w) ∧
      (if Region.wanted p (yielded ops a.tmps) then p.wp P a w (fun a' w' => C w' ∧ wpCalm P ops Q C G t a' w') Q else wpCalm P ops Q C G t (a.put p.dst undef) w)
theorem wpAnyH_of_calm {ns ls : List Nat} {GL : Array Bool → Act → World → Prop} (hGL : ∀ L a w, L.size = ops.size → (∀ k ∈ ls, L.getD k true = false) → G a w → GL L a w) (hN : ∀ j ∈ ns, ∀ o, ops[j]? = some o → Neutral P md ops GL j o) (hCd : ∀ w n, C w → C (w.drewN n)) (hLO : ¬ LetsOut Q) (hs : Region.noSelect ops = true) (hQ : ∀ (c : _) (a : Act) (d : Option Tmp) (v : Value) (w : World), Q (.panic c) (a.put d v) w → Q (.panic c) a w) :
    ∀ (t : QT) (L : Array Bool) (a : Act) (w : World), calmB md ops ns ls t L = true → L.size = ops.size → C w → wpCalm P ops Q C G (t.ops ops.toList) a w → wpAnyH P md ops Q C t.len L a w := by
  have step : ∀ (i : Nat) (t : QT) (L : Array Bool) (a : Act) (w : World), i < ops.size → (∀ (a : Act) (w : World), C w → wpCalm P ops Q C G (t.ops ops.toList) a w → wpAnyH P md ops Q C t.len (L.setIfInBounds i true) a w) → C w →
      (if Region.wanted (ops.toList.getD i default) (yielded ops a.tmps) then (ops.toList.getD i default).wp P a w (fun a' w' => C w' ∧ wpCalm P ops Q C G (t.ops ops.toList) a' w') Q else wpCalm P ops Q C G (t.ops ops.toList) (a.put (ops.toList.getD i default).dst undef) w) →
      wpOp P ops Q i (fun a' w' => C w' ∧ wpAnyH P md ops Q C t.len (L.setIfInBounds i true) a' w') a w := by
    intro i t L a w hi ih hC h
    have ho : ops[i]? = some (ops.toList.getD i default) := by simp [hi]
    unfold wpOp
    simp only [ho]
    by_cases hw : Region.wanted (ops.toList.getD i default) (yielded ops a.tmps) = true
    · rw [if_pos hw] at h ⊢
      exact .inl (Oper.wp_mono (fun a' w' hh => ⟨hh.1, ih a' w' hh.1 hh.2⟩) h)
    · rw [if_neg hw] at h ⊢
      exact ⟨hC, ih _ w hC h⟩
  intro t
  induction t with
  | nil => intro L a w hB hsz hC h; exact ⟨by simpa [calmB] using hB, h⟩
  | look i t ih =>
    intro L a w hB hsz hC h
    simp only [calmB, Bool.and_eq_true, decide_eq_true_eq] at hB
    obtain ⟨⟨hi, ⟨hr, hf⟩, hv⟩, hB'⟩ := hB
    have ho : ops[i]? = some (ops.toList.getD i default) := by simp [hi]
    rw [ho, Option.map_some, Option.getD_some] at hv
    simp only [QT.ops, wpCalm] at h
    by_cases hw : Region.wanted (ops.toList.getD i default) (yielded ops a.tmps) = true
    · rw [if_pos hw] at h
      obtain ⟨v, h1, h2⟩ := yieldsIf_of_quiet hv h
      exact wpAnyH_take ho hs hf hr (fun c a w => hQ c a _ _ w) (.inl ⟨hw, h1⟩) hC (ih _ _ w hB' (by simpa using hsz) hC h2)
    · rw [if_neg hw] at h
      exact wpAnyH_take ho hs hf hr (fun c a w => hQ c a _ _ w) (.inr ⟨by simpa using hw, rfl⟩) hC (ih _ _ w hB' (by simpa using hsz) hC h)
  | still i t ih =>
    intro L a w hB hsz hC h
    simp only [calmB, Bool.and_eq_true, decide_eq_true_eq] at hB
    obtain ⟨⟨hi, ⟨⟨hr, hf⟩, hls⟩, hbe⟩, hB'⟩ := hB
    have ho : ops[i]? = some (ops.toList.getD i default) := by simp [hi]
    simp only [QT.ops, wpCalm] at h
    have hr' : i ∈ Region.ready md ops L := by simpa using hr
    obtain ⟨hg, hw, v, h1, h2⟩ := h
    refine wpAnyH_calm ho hs hN hCd hLO (fun c a w => hQ c a _ _ w) _ L a w (Region.free_spec ho hf) (fun j hj => ?_) hr' ⟨hw, h1⟩ (hGL L a w hsz (fun k hk => by simpa using (List.all_eq_true.1 hls) k hk) hg) hC (fun m => ih _ _ _ hB' (by simpa using hsz) (hCd _ _ hC) (h2 m))
    have := (List.all_eq_true.1 hbe) j (List.mem_range.2 hj)
    simp only [Bool.or_eq_true, beq_iff_eq, List.contains_iff_mem] at this
    rcases this with ((h3 | h3) | h3) | h3
    · exact .inl h3
    · exact .inr (.inl h3)
    · exact .inr (.inr (.inl h3))
    · exact .inr (.inr (.inr h3))
  | act i t ih =>
    intro L a w hB hsz hC h
    simp only [calmB, Bool.and_eq_true, decide_eq_true_eq] at hB
    obtain ⟨⟨hi, hr⟩, hB'⟩ := hB
    refine wpAnyH_all (rs := [i]) (by simpa using hr) (by simp) (fun j hj => ?_)
    obtain rfl : j = i := by simpa using hj
    exact step j t L a w hi (fun a w hC h => ih _ a w hB' (by simpa using hsz) hC h) hC h
  | two i s j t ihs iht =>
    intro L a w hB hsz hC h
    simp only [calmB, Bool.and_eq_true, decide_eq_true_eq, beq_iff_eq] at hB
    obtain ⟨⟨⟨⟨⟨hi, hj⟩, hl⟩, hr⟩, hB1⟩, hB2⟩ := hB
    refine wpAnyH_all (rs := [i, j]) hr (by simp) (fun x hx => ?_)
    rcases List.mem_cons.1 hx with rfl | hx
    · exact step x s L a w hi (fun a w hC h => ihs _ a w hB1 (by simpa using hsz) hC h) hC h.1
    · rw [List.mem_singleton] at hx; subst hx
      rw [hl]
      exact step x t L a w hj (fun a w hC h => iht _ a w hB2 (by simpa using hsz) hC h) hC h.2
/-- The same, closed to whoever would unfold it. -/
structure MixC (P : Program) (ops : Array Oper) (Q : Exit → Act → World → Prop) (C : World → Prop) (G : Act → World → Prop) (t : UT) (a : Act) (w : World) : Prop where
  out : wpCalm P ops Q C G t a w
theorem wp_region_calm {id : Nat} {l : List Oper} {a : Act} {w : World} (t : QT) (ns ls : List Nat) (G : Act → World → Prop) (GL : Array Bool → Act → World → Prop) (hGL : ∀ L a w, L.size = l.toArray.size → (∀ k ∈ ls, L.getD k true = false) → G a w → GL L a w) (hN : ∀ j ∈ ns, ∀ o, l.toArray[j]? = some o → Neutral P .any l.toArray GL j o) (hCd : ∀ w n, C w → C (w.drewN n)) (hm : P.follows .mixedOrders = true) (hs : Region.noSelect l.toArray = true)
    (hB : (decide (t.len = l.length) && calmB .any l.toArray ns ls t (Array.replicate l.length false)) = true)
    (hC : C w.drew) (h : MixC P l.toArray (NormQ Q) C G (t.ops l) a w.drew) : (Code.region id l.toArray true).wp P Q a w := by
  simp only [Bool.and_eq_true, decide_eq_true_eq] at hB
  refine Code.wp_mono normQ_imp (wp_region_held (S := C) hm ?_)
  have := wpAnyH_of_calm (md := .any) hGL hN hCd normQ_out hs (fun _ _ _ _ _ h => h.elim) t (Array.replicate l.length false) a w.drew hB.2 (by simp) hC h.out
  rw [hB.1] at this
  simpa using this
theorem wpMixC_look {o : Oper} {t : UT} {a : Act} {w : World} (hw : Region.wanted o (yielded ops a.tmps) = true)
    (h : ∀ K : Act → Prop, (∀ a', MixC P ops Q C G t a' w → K a') → o.quiet P a C K) : MixC P ops Q C G (.look o t) a w := by
  refine ⟨?_⟩
  simp only [wpCalm]; rw [if_pos hw]; exact h _ fun _ h => h.out
theorem wpMixC_skip {o : Oper} {t : UT} {a : Act} {w : World} (hw : Region.wanted o (yielded ops a.tmps) = false)
    (h : ∀ K : Act → Prop, (∀ a', MixC P ops Q C G t a' w → K a') → K (a.put o.dst undef)) : MixC P ops Q C G (.look o t) a w := by
  have h' : wpCalm P ops Q C G t (a.put o.dst undef) w := h _ fun _ h => h.out
  refine ⟨?_⟩
  simp only [wpCalm]; rw [if_neg (by rw [hw]; exact Bool.false_ne_true)]; exact h'
theorem wpMixC_still {o : Oper} {t : UT} {a : Act} {w : World} (hw : Region.wanted o (yielded ops a.tmps) = true) (hg : G a w) (v : Value) (hc : ∀ u, C u → o.quietAt P a (fun x => ∃ m, x = u.drewN m) u v)
    (h : ∀ n, MixC P ops Q C G t (a.put o.dst v) (w.drewN n)) : MixC P ops Q C G (.still o t) a w := by
  refine ⟨?_⟩
  simp only [wpCalm]
  exact ⟨hg, hw, v, hc, fun n => (h n).out⟩
theorem wpMixC_act {o : Oper} {t : UT} {a : Act} {w : World} (hw : Region.wanted o (yielded ops a.tmps) = true)
    (h : ∀ K : Act → World → Prop, (∀ a' w', C w' → MixC P ops Q C G t a' w' → K a' w') → o.wp P a w K Q) : MixC P ops Q C G (.act o t) a w := by
  refine ⟨?_⟩
  simp only [wpCalm]; rw [if_pos hw]
  exact h _ fun a' w' hC h => ⟨hC, h.out⟩
theorem wpMixC_two {o p : Oper} {s t : UT} {a : Act} {w : World} (h1 : MixC P ops Q C G (.act o s) a w) (h2 : MixC P ops Q C G (.act p t) a w) : MixC P ops Q C G (.two o s p t) a w := by
  refine ⟨?_⟩
  exact ⟨h1.out, h2.out⟩
theorem mixC_world {t : UT} {a : Act} {w : World} (X : World → Prop) (hX : X w) (h : ∀ N, X N → MixC P ops Q C G t a N) : MixC P ops Q C G t a w := h w hX
theorem wpMixC_nil {a : Act} {w : World} (h : Q .normal a w) : MixC P ops (NormQ Q) C G .nil a w := ⟨h⟩
end
open Go.Sort in
theorem regrown_drewN {W V : World} (h : ∃ p : Regrown, V = grow (redrawn W p.d) p.os) (n : Nat) : ∃ p : Regrown, V.drewN n = grow (redrawn W p.d) p.os := by
  obtain ⟨p, rfl⟩ := h
  exact ⟨⟨p.d + n, p.os⟩, rfl⟩
end Go.Proofs.YtdpeffaplkbkgaaGreatDoor

namespace Go.Proofs.YtdpeffaplkbkgaaGreatDoor
open Go.RowKit
set_option linter.unusedVariables false

set_option maxRecDepth 100000 in
set_option maxHeartbeats 400000 in
theorem specValidGroups_any (v : Value) (xs : List DGroup) (fp : List Nat) (w : World) (hx : Sl fGroup.cod w v xs fp) :
    Calls Tryz.prog 12 #[v] w fun e w' => e = .returned (.bool (groupsB xs)) ∧ Below w.heap.size w w' := by
  go_enter Tryz.func12, Tryz.ntmps12
  go_wp2_with fail
  refine (l24Ok_any v xs fp _ hx).mono ?_
  rintro e w1 ⟨rfl, hb⟩
  go_wp2
  go_ret
  exact ⟨rfl, hb⟩
set_option maxRecDepth 100000 in
set_option maxHeartbeats 400000 in
theorem indexValidG_any (v : Value) (xs : List DGroup) (fp : List Nat) (i : Int) (w : World) (hx : Sl fGroup.cod w v xs fp) (hl : xs.length ≤ 1000000) :
    Calls Tryz.prog 30 #[v, .int .i64 i] w fun e w' => e = .returned (.bool (inB i 0 ((xs.length : Int) - 1))) ∧ w = w' := by
  obtain ⟨A, cap, rfl, hlen, hcap⟩ := hx.form
  go_enter Tryz.func30, Tryz.ntmps30
  go_wp2_with fail
  refine (withinB_any _ _ _ _).mono ?_
  rintro e w' ⟨rfl, rfl⟩
  go_wp2
  go_ret
  exact ⟨rfl, rfl⟩
def joinF (a b : DGroup) (nm : ByteArray) : DGroup := if joinC a b nm = 0 then sumG a b nm else ⟨⟨#[]⟩, 0, 0, 0, 0, 0, 0⟩
theorem join_bad {a b : DGroup} {nm : ByteArray} {c : Int} (hc : joinC a b nm = c) (h0 : c ≠ 0) : Hid (joinC a b nm = c ∧ joinF a b nm = ⟨⟨#[]⟩, 0, 0, 0, 0, 0, 0⟩) := ⟨hc, by unfold joinF; rw [if_neg (by rw [hc]; exact h0)]⟩
set_option maxRecDepth 100000 in
set_option maxHeartbeats 8000000 in
theorem implJoinGroups_any (a b : DGroup) (nm : ByteArray) (w : World) (hoa : fGroup.ok a) (hob : fGroup.ok b) (hid : nm.size ≤ 1000) :
    Calls Tryz.prog 15 #[.agg #[.string a.id, .int .i64 a.people, .int .i64 a.guides, .int .i64 a.beacons, .int .i64 a.shovels, .int .i64 a.probes, .int .i64 a.skill], .agg #[.string b.id, .int .i64 b.people, .int .i64 b.guides, .int .i64 b.beacons, .int .i64 b.shovels, .int .i64 b.probes, .int .i64 b.skill], .string nm] w fun e w' => e = .returned (.tuple #[agGroup (joinF a b nm), .int .i64 (joinC a b nm)]) ∧ Below w.heap.size w w' := by
  have hB0 : Below w.heap.size w ((w.alloc (.cells #[.string a.id, .int .i64 a.people, .int .i64 a.guides, .int .i64 a.beacons, .int .i64 a.shovels, .int .i64 a.probes, .int .i64 a.skill] 25)).alloc (.cells #[.string b.id, .int .i64 b.people, .int .i64 b.guides, .int .i64 b.beacons, .int .i64 b.shovels, .int .i64 b.probes, .int .i64 b.skill] 25)) := ((Below.refl _ _).alloc (Nat.le_refl _) _).alloc (by simp) _
  have hB1 : Below w.heap.size w (((w.alloc (.cells #[.string a.id, .int .i64 a.people, .int .i64 a.guides, .int .i64 a.beacons, .int .i64 a.shovels, .int .i64 a.probes, .int .i64 a.skill] 25)).alloc (.cells #[.string b.id, .int .i64 b.people, .int .i64 b.guides, .int .i64 b.beacons, .int .i64 b.shovels, .int .i64 b.probes, .int .i64 b.skill] 25)).alloc (.cells #[.string ⟨#[]⟩, .int .i64 0, .int .i64 0, .int .i64 0, .int .i64 0, .int .i64 0, .int .i64 0] 25)) := hB0.alloc hB0.size _
  have hpa : PGroup (((w.alloc (.cells #[.string a.id, .int .i64 a.people, .int .i64 a.guides, .int .i64 a.beacons, .int .i64 a.shovels, .int .i64 a.probes, .int .i64 a.skill] 25)).alloc (.cells #[.string b.id, .int .i64 b.people, .int .i64 b.guides, .int .i64 b.beacons, .int .i64 b.shovels, .int .i64 b.probes, .int .i64 b.skill] 25)).alloc (.cells #[.string ⟨#[]⟩, .int .i64 0, .int .i64 0, .int .i64 0, .int .i64 0, .int .i64 0, .int .i64 0] 25)) w.heap.size 0 a := ((PGroup.box w a 25).below ((Below.refl (w.heap.size + 1) _).alloc (by simp) _) (Nat.lt_succ_self _)).below ((Below.refl (w.heap.size + 1) _).alloc (by simp) _) (Nat.lt_succ_self _)
  have hpb : PGroup (((w.alloc (.cells #[.string a.id, .int .i64 a.people, .int .i64 a.guides, .int .i64 a.beacons, .int .i64 a.shovels, .int .i64 a.probes, .int .i64 a.skill] 25)).alloc (.cells #[.string b.id, .int .i64 b.people, .int .i64 b.guides, .int .i64 b.beacons, .int .i64 b.shovels, .int .i64 b.probes, .int .i64 b.skill] 25)).alloc (.cells #[.string ⟨#[]⟩, .int .i64 0, .int .i64 0, .int .i64 0, .int .i64 0, .int .i64 0, .int .i64 0] 25)) (w.heap.size + 1) 0 b := by
    have h := PGroup.box (w.alloc (.cells #[.string a.id, .int .i64 a.people, .int .i64 a.guides, .int .i64 a.beacons, .int .i64 a.shovels, .int .i64 a.probes, .int .i64 a.skill] 25)) b 25
    rw [World.size_alloc] at h
    exact h.below ((Below.refl (w.heap.size + 2) _).alloc (by simp) _) (by omega)
  have hbx : BxGroup (((w.alloc (.cells #[.string a.id, .int .i64 a.people, .int .i64 a.guides, .int .i64 a.beacons, .int .i64 a.shovels, .int .i64 a.probes, .int .i64 a.skill] 25)).alloc (.cells #[.string b.id, .int .i64 b.people, .int .i64 b.guides, .int .i64 b.beacons, .int .i64 b.shovels, .int .i64 b.probes, .int .i64 b.skill] 25)).alloc (.cells #[.string ⟨#[]⟩, .int .i64 0, .int .i64 0, .int .i64 0, .int .i64 0, .int .i64 0, .int .i64 0] 25)) (w.heap.size + 2) := by
    have h := BxGroup.new ((w.alloc (.cells #[.string a.id, .int .i64 a.people, .int .i64 a.guides, .int .i64 a.beacons, .int .i64 a.shovels, .int .i64 a.probes, .int .i64 a.skill] 25)).alloc (.cells #[.string b.id, .int .i64 b.people, .int .i64 b.guides, .int .i64 b.beacons, .int .i64 b.shovels, .int .i64 b.probes, .int .i64 b.skill] 25)) 25
    rw [World.size_alloc, World.size_alloc] at h; exact h
  have hrr : w.heap.size ≤ w.heap.size + 2 := by omega
  clear hB0
  obtain ⟨c0, c1, c2, c3, c4, c5, c6⟩ := id hpa
  go_enter Tryz.func15, Tryz.ntmps15
  go_wp2_with fail
  refine (implValid_any a _ hoa).mono ?_
  rintro e w1 ⟨rfl, hbN⟩
  have hp1a := hpa.below' hbN
  have hp1b := hpb.below' hbN
  replace hbx := hbx.belowB hbN hbx.lt
  replace hB1 := hB1.trans (hbN.mono hB1.size)
  clear hpa hpb hbN c0 c1 c2 c3 c4 c5 c6
  have hpa := hp1a
  have hpb := hp1b
  clear hp1a hp1b
  cases hva : groupB a
  · have HE := join_bad (show joinC a b nm = 1 by unfold joinC; rw [hva]; rfl) (by decide)
    obtain ⟨d0, d1, d2, d3, d4, d5, d6, z0, z1, z2, z3, z4, z5, z6⟩ := hbx
    go_wp2
    exact bodyPost_ret (v := .tuple #[.agg #[.string ⟨#[]⟩, .int .i64 0, .int .i64 0, .int .i64 0, .int .i64 0, .int .i64 0, .int .i64 0], .int .i64 1]) (by simp [results, hit_cellX, d0, d1, d2, d3, d4, d5, d6, Tryz.results15, go_sem]) rfl ⟨by rw [HE.out.1, HE.out.2]; rfl, by (repeat (refine Below.setCell ?_ hrr _)); exact hB1⟩
  obtain ⟨c0, c1, c2, c3, c4, c5, c6⟩ := id hpb
  go_wp2_with fail
  refine (implValid_any b _ hob).mono ?_
  rintro e w2 ⟨rfl, hbN⟩
  have hp2a := hpa.below' hbN
  have hp2b := hpb.below' hbN
  replace hbx := hbx.belowB hbN hbx.lt
  replace hB1 := hB1.trans (hbN.mono hB1.size)
  clear hpa hpb hbN c0 c1 c2 c3 c4 c5 c6
  have hpa := hp2a
  have hpb := hp2b
  clear hp2a hp2b
  cases hvb : groupB b
  · have HE := join_bad (show joinC a b nm = 1 by unfold joinC; rw [hva, hvb]; rfl) (by decide)
    obtain ⟨d0, d1, d2, d3, d4, d5, d6, z0, z1, z2, z3, z4, z5, z6⟩ := hbx
    go_wp2
    exact bodyPost_ret (v := .tuple #[.agg #[.string ⟨#[]⟩, .int .i64 0, .int .i64 0, .int .i64 0, .int .i64 0, .int .i64 0, .int .i64 0], .int .i64 1]) (by simp [results, hit_cellX, d0, d1, d2, d3, d4, d5, d6, Tryz.results15, go_sem]) rfl ⟨by rw [HE.out.1, HE.out.2]; rfl, by (repeat (refine Below.setCell ?_ hrr _)); exact hB1⟩
  go_wp2_with fail
  refine (implIsName_any nm _ (by omega)).mono ?_
  rintro e w' ⟨rfl, rfl⟩
  cases hn : nameB nm
  · have HE := join_bad (show joinC a b nm = 2 by unfold joinC; rw [hva, hvb, hn]; rfl) (by decide)
    obtain ⟨d0, d1, d2, d3, d4, d5, d6, z0, z1, z2, z3, z4, z5, z6⟩ := hbx
    go_wp2
    exact bodyPost_ret (v := .tuple #[.agg #[.string ⟨#[]⟩, .int .i64 0, .int .i64 0, .int .i64 0, .int .i64 0, .int .i64 0, .int .i64 0], .int .i64 2]) (by simp [results, hit_cellX, d0, d1, d2, d3, d4, d5, d6, Tryz.results15, go_sem]) rfl ⟨by rw [HE.out.1, HE.out.2]; rfl, by (repeat (refine Below.setCell ?_ hrr _)); exact hB1⟩
  obtain ⟨c0, c1, c2, c3, c4, c5, c6⟩ := id hpa
  obtain ⟨e0, e1, e2, e3, e4, e5, e6⟩ := id hpb
  go_wp2_with fail
  refine (with_any a b nm _ (GrpIn.of hva) (GrpIn.of hvb)).mono ?_
  rintro e w3 ⟨rfl, hbN⟩
  have hsok : fGroup.ok (sumG a b nm) := sumG_ok (GrpIn.of hva) (GrpIn.of hvb) hid
  have hJ : joinC a b nm = if groupB (sumG a b nm) = false then 6 else 0 := by unfold joinC; rw [hva, hvb, hn]; rfl
  replace hbx := hbx.belowB hbN hbx.lt
  replace hB1 := hB1.trans (hbN.mono hB1.size)
  clear hpa hpb hbN c0 c1 c2 c3 c4 c5 c6 e0 e1 e2 e3 e4 e5 e6 hva hvb hn
  have hAl : Below w3.heap.size w3 (w3.alloc (.cells #[.string nm, .int .i64 (a.people + b.people), .int .i64 (a.guides + b.guides), .int .i64 (a.beacons + b.beacons), .int .i64 (a.shovels + b.shovels), .int .i64 (a.probes + b.probes), .int .i64 (min a.skill b.skill)] 25)) := (Below.refl _ _).alloc (Nat.le_refl _) _
  have hps := PGroup.box w3 (sumG a b nm) 25
  replace hbx := hbx.belowB hAl hbx.lt
  replace hB1 := hB1.trans (hAl.mono hB1.size)
  clear hAl
  go_wp2_with fail
  refine (implValid_any (sumG a b nm) _ hsok).mono ?_
  rintro e w4 ⟨rfl, hbN⟩
  have hps4 := hps.below' hbN
  replace hbx := hbx.belowB hbN hbx.lt
  replace hB1 := hB1.trans (hbN.mono hB1.size)
  clear hbN hps
  cases hs : groupB (sumG a b nm)
  · have HE := join_bad (show joinC a b nm = 6 by rw [hJ, hs]; rfl) (by decide)
    clear hJ hs hsok hps4
    obtain ⟨d0, d1, d2, d3, d4, d5, d6, z0, z1, z2, z3, z4, z5, z6⟩ := hbx
    go_wp2
    exact bodyPost_ret (v := .tuple #[.agg #[.string ⟨#[]⟩, .int .i64 0, .int .i64 0, .int .i64 0, .int .i64 0, .int .i64 0, .int .i64 0], .int .i64 6]) (by simp [results, hit_cellX, d0, d1, d2, d3, d4, d5, d6, Tryz.results15, go_sem]) rfl ⟨by rw [HE.out.1, HE.out.2]; rfl, by (repeat (refine Below.setCell ?_ hrr _)); exact hB1⟩
  · have h0 : joinC a b nm = 0 := by rw [hJ, hs]; rfl
    have HE := Lib.hid (show joinC a b nm = 0 ∧ joinF a b nm = sumG a b nm from ⟨h0, by unfold joinF; rw [if_pos h0]⟩)
    obtain ⟨c0, c1, c2, c3, c4, c5, c6⟩ := id hps4
    simp only [sumG] at c0 c1 c2 c3 c4 c5 c6
    clear hJ hs hsok h0 hps4
    obtain ⟨d0, d1, d2, d3, d4, d5, d6, z0, z1, z2, z3, z4, z5, z6⟩ := hbx
    go_wp2
    exact bodyPost_ret (v := .tuple #[.agg #[.string nm, .int .i64 (a.people + b.people), .int .i64 (a.guides + b.guides), .int .i64 (a.beacons + b.beacons), .int .i64 (a.shovels + b.shovels), .int .i64 (a.probes + b.probes), .int .i64 (min a.skill b.skill)], .int .i64 0]) (by simp [results, hit_cellX, d0, d1, d2, d3, d4, d5, d6, Tryz.results15, go_sem]) rfl ⟨by rw [HE.out.1, HE.out.2]; rfl, by (repeat (refine Below.setCell ?_ hrr _)); exact hB1⟩

end Go.Proofs.YtdpeffaplkbkgaaGreatDoor
