/- Parts of the proof: Vp, Ms, Rf. -/
import Derived.Test.YtldigalncjhkeaaGreatDoorG04
import Derived.Test.YtldigalncjhkeaaGreatDoorG03
import Derived.Test.YtldigalncjhkeaaGreatDoorG01
import Derived.Test.YtldigalncjhkeaaGreatDoorG02
namespace Go.Proofs.YtldigalncjhkeaaGreatDoor
open Go.RowKit
set_option linter.unusedVariables false
set_option linter.unnecessarySimpa false

def pp0 : DPathPoint := ⟨0, 0⟩
def ptB (h0 : Int) (x : DPathPoint) : Bool := inB x.distance 0 20000 && inB x.height 0 9000 && decide (x.height ≤ h0)
def ptOk (xs : List DPathPoint) (i : Nat) : Bool := ptB (xs.getD 0 pp0).height (xs.getD i pp0) && (decide (i = 0) || decide ((xs.getD (i - 1) pp0).distance < (xs.getD i pp0).distance))
def pathB (xs : List DPathPoint) : Bool := allIdx (ptOk xs) xs.length && (decide (2 ≤ xs.length) && decide (xs.length ≤ 24) && decide ((xs.getD 0 pp0).distance = 0))
theorem ptOk_zero {xs : List DPathPoint} (h : 0 < xs.length) : ptOk xs 0 = ptB xs[0].height xs[0] := by simp [ptOk, h]
theorem ptOk_succ {xs : List DPathPoint} {m : Nat} (h : m + 1 < xs.length) : ptOk xs (m + 1) = (ptB (xs[0]'(by omega)).height xs[m + 1] && decide (xs[m].distance < xs[m + 1].distance)) := by
  have h1 : m < xs.length := by omega
  have h2 : 0 < xs.length := by omega
  simp [ptOk, h, h1, h2]
theorem pathB_bad {xs : List DPathPoint} {k : Nat} (h : k < xs.length) (h1 : ptOk xs k = false) : pathB xs = false := by
  unfold pathB; rw [allIdx_bad h h1]; rfl
theorem ptOk_nonneg {xs : List DPathPoint} {m k : Nat} (h : allIdx (ptOk xs) k = true) (hm : m < k) (hk : k ≤ xs.length) : 0 ≤ (xs[m]'(by omega)).distance := by
  have h1 := allIdx_true.1 h m hm
  have h2 : m < xs.length := by omega
  unfold ptOk ptB at h1
  rw [Bool.and_eq_true, Bool.and_eq_true, Bool.and_eq_true, inB_true] at h1
  have h3 := h1.1.1.1.1
  rw [List.getD_eq_getElem?_getD, List.getElem?_eq_getElem h2] at h3
  exact h3
theorem ptB_good {h0 : Int} {x : DPathPoint} (h : 0 ≤ x.distance ∧ x.distance ≤ 20000 ∧ 0 ≤ x.height ∧ x.height ≤ 9000 ∧ x.height ≤ h0) : ptB h0 x = true := by
  unfold ptB
  simp only [Bool.and_eq_true, inB_true, decide_eq_true_eq]
  omega
theorem ptB_bad {h0 : Int} {x : DPathPoint} (h : ¬ (0 ≤ x.distance ∧ x.distance ≤ 20000 ∧ 0 ≤ x.height ∧ x.height ≤ 9000 ∧ x.height ≤ h0)) : ptB h0 x = false := by
  rw [Bool.eq_false_iff]
  intro e
  unfold ptB at e
  simp only [Bool.and_eq_true, inB_true, decide_eq_true_eq] at e
  omega
theorem ptN_good {h0 d : Int} {x : DPathPoint} (h : (0 ≤ x.distance ∧ x.distance ≤ 20000 ∧ 0 ≤ x.height ∧ x.height ≤ 9000 ∧ x.height ≤ h0) ∧ d < x.distance) : (ptB h0 x && decide (d < x.distance)) = true := by
  rw [ptB_good h.1, decide_eq_true h.2]; rfl
theorem ptN_bad {h0 d : Int} {x : DPathPoint} (h : ¬ ((0 ≤ x.distance ∧ x.distance ≤ 20000 ∧ 0 ≤ x.height ∧ x.height ≤ 9000 ∧ x.height ≤ h0) ∧ d < x.distance)) : (ptB h0 x && decide (d < x.distance)) = false := by
  by_cases h1 : d < x.distance
  · rw [ptB_bad (fun e => h ⟨e, h1⟩)]; rfl
  · rw [decide_eq_false h1, Bool.and_false]
set_option maxRecDepth 100000 in
set_option maxHeartbeats 4000000 in
theorem l14Ok_any (v : Value) (xs : List DPathPoint) (fp : List Nat) (w : World) (hx : Sl fPathPoint.cod w v xs fp) :
    Calls Tryz.prog 76 #[v] w fun e w' => e = .returned (.bool (pathB xs)) ∧ Below w.heap.size w w' := by
  obtain ⟨A, cap, rfl, hlen, hcap⟩ := hx.form
  go_enter Tryz.func76, Tryz.ntmps76
  go_wp2
  go_loopw [3] (fun i wr => ∃ k : Nat, k ≤ xs.length ∧ i = .int .i64 k ∧ Hid (allIdx (ptOk xs) k = true) ∧ Below w.heap.size w wr) (fun i _ => xs.length - (intOf i).toNat)
  case atStart => exact ⟨0, Nat.zero_le _, rfl, rfl, Below.refl _ _⟩
  case round =>
    obtain ⟨k, hk, rfl, H0, hb⟩ := hrel
    by_cases hlt : k < xs.length
    · rcases Nat.eq_zero_or_pos k with rfl | hpos
      · skip
        obtain ⟨b, off, rfl, _, hok, hp⟩ := PPathPoint.elem (hx.below' hb) hlt
        rw [Nat.zero_mul, Nat.add_zero] at hp
        obtain ⟨c0, c1⟩ := id hp
        go_wp2
        refine at_world (fun W => Below wr.heap.size wr W ∧ PPathPoint W wr.heap.size 0 xs[0] ∧ PPathPoint W b off xs[0]) ⟨(Below.refl _ _).alloc (Nat.le_refl _) _, PPathPoint.box wr xs[0] _, hp.below' ((Below.refl _ _).alloc (Nat.le_refl _) _)⟩ ?_
        clear c0 c1 hp
        rintro W ⟨hW, ⟨c0, c1⟩, ⟨d0, d1⟩⟩
        have gc0 := cell_regrown c0
        have gc1 := cell_regrown c1
        have gd1 := cell_regrown d1
        refine wp_region_mix (C := fun w' => ∃ p : Regrown, w' = Go.Sort.grow (redrawn W p.d) p.os) [true, true, false, true, true, true, true, false, true, true, true, true, true, true, true, true, true, true, true, true, true, true, true, true, true, true, true, true, true, true, true, true, true, true] (by kernel_rfl) (by kernel_rfl) (by kernel_rfl) (fun _ _ d _ _ h => by cases d <;> exact h) (regrown_of_below (Below.drew (Below.refl _ _))) ?_
        have hS0 : Below (W.heap.size) W W.drew := Below.drew (Below.refl _ _)
        refine wpMix_pure (by kernel_rfl) (fun K hK => ?_); go_big_quiet_op; refine hK _ ?_; clear hK K
        refine wpMix_pure (by kernel_rfl) (fun K hK => ?_); go_big_quiet_op; refine hK _ ?_; clear hK K
        refine wpMix_act (by kernel_rfl) (fun K hK => ?_)
        go_big_op
        refine (l00InB_any _ _ _ _).mono ?_
        rintro e w' ⟨rfl, rfl⟩
        refine hK _ _ (regrown_of_below hS0) ?_
        clear hK K
        cases hq2 : inB xs[0].distance 0 20000
        · skip
          have b1 := inB_false.1 hq2
          refine wpMix_pure (by kernel_rfl) (fun K hK => ?_); go_big_quiet_op; refine hK _ ?_; clear hK K
          refine wpMix_pure (by kernel_rfl) (fun K hK => ?_); go_big_quiet_op; refine hK _ ?_; clear hK K
          refine wpMix_skip (by kernel_rfl) (fun K hK => ?_)
          simp only [Act.put, List.setIfInBounds_toArray, List.set_cons_zero, List.set_cons_succ]
          refine hK _ ?_; clear hK K
          refine wpMix_skip (by kernel_rfl) (fun K hK => ?_)
          simp only [Act.put, List.setIfInBounds_toArray, List.set_cons_zero, List.set_cons_succ]
          refine hK _ ?_; clear hK K
          refine wpMix_skip (by kernel_rfl) (fun K hK => ?_)
          simp only [Act.put, List.setIfInBounds_toArray, List.set_cons_zero, List.set_cons_succ]
          refine hK _ ?_; clear hK K
          refine wpMix_skip (by kernel_rfl) (fun K hK => ?_)
          simp only [Act.put, List.setIfInBounds_toArray, List.set_cons_zero, List.set_cons_succ]
          refine hK _ ?_; clear hK K
          refine wpMix_pure (by kernel_rfl) (fun K hK => ?_); go_big_quiet_op; refine hK _ ?_; clear hK K
          refine wpMix_pure (by kernel_rfl) (fun K hK => ?_); go_big_quiet_op; refine hK _ ?_; clear hK K
          refine wpMix_skip (by kernel_rfl) (fun K hK => ?_)
          simp only [Act.put, List.setIfInBounds_toArray, List.set_cons_zero, List.set_cons_succ]
          refine hK _ ?_; clear hK K
          refine wpMix_skip (by kernel_rfl) (fun K hK => ?_)
          simp only [Act.put, List.setIfInBounds_toArray, List.set_cons_zero, List.set_cons_succ]
          refine hK _ ?_; clear hK K
          refine wpMix_skip (by kernel_rfl) (fun K hK => ?_)
          simp only [Act.put, List.setIfInBounds_toArray, List.set_cons_zero, List.set_cons_succ]
          refine hK _ ?_; clear hK K
          refine wpMix_skip (by kernel_rfl) (fun K hK => ?_)
          simp only [Act.put, List.setIfInBounds_toArray, List.set_cons_zero, List.set_cons_succ]
          refine hK _ ?_; clear hK K
          refine wpMix_skip (by kernel_rfl) (fun K hK => ?_)
          simp only [Act.put, List.setIfInBounds_toArray, List.set_cons_zero, List.set_cons_succ]
          refine hK _ ?_; clear hK K
          refine wpMix_skip (by kernel_rfl) (fun K hK => ?_)
          simp only [Act.put, List.setIfInBounds_toArray, List.set_cons_zero, List.set_cons_succ]
          refine hK _ ?_; clear hK K
          refine wpMix_skip (by kernel_rfl) (fun K hK => ?_)
          simp only [Act.put, List.setIfInBounds_toArray, List.set_cons_zero, List.set_cons_succ]
          refine hK _ ?_; clear hK K
          refine wpMix_pure (by kernel_rfl) (fun K hK => ?_); go_big_quiet_op; refine hK _ ?_; clear hK K
          refine wpMix_pure (by kernel_rfl) (fun K hK => ?_); go_big_quiet_op; refine hK _ ?_; clear hK K
          refine wpMix_skip (by kernel_rfl) (fun K hK => ?_)
          simp only [Act.put, List.setIfInBounds_toArray, List.set_cons_zero, List.set_cons_succ]
          refine hK _ ?_; clear hK K
          refine wpMix_skip (by kernel_rfl) (fun K hK => ?_)
          simp only [Act.put, List.setIfInBounds_toArray, List.set_cons_zero, List.set_cons_succ]
          refine hK _ ?_; clear hK K
          refine wpMix_skip (by kernel_rfl) (fun K hK => ?_)
          simp only [Act.put, List.setIfInBounds_toArray, List.set_cons_zero, List.set_cons_succ]
          refine hK _ ?_; clear hK K
          refine wpMix_skip (by kernel_rfl) (fun K hK => ?_)
          simp only [Act.put, List.setIfInBounds_toArray, List.set_cons_zero, List.set_cons_succ]
          refine hK _ ?_; clear hK K
          refine wpMix_skip (by kernel_rfl) (fun K hK => ?_)
          simp only [Act.put, List.setIfInBounds_toArray, List.set_cons_zero, List.set_cons_succ]
          refine hK _ ?_; clear hK K
          refine wpMix_skip (by kernel_rfl) (fun K hK => ?_)
          simp only [Act.put, List.setIfInBounds_toArray, List.set_cons_zero, List.set_cons_succ]
          refine hK _ ?_; clear hK K
          refine wpMix_skip (by kernel_rfl) (fun K hK => ?_)
          simp only [Act.put, List.setIfInBounds_toArray, List.set_cons_zero, List.set_cons_succ]
          refine hK _ ?_; clear hK K
          refine wpMix_skip (by kernel_rfl) (fun K hK => ?_)
          simp only [Act.put, List.setIfInBounds_toArray, List.set_cons_zero, List.set_cons_succ]
          refine hK _ ?_; clear hK K
          refine wpMix_skip (by kernel_rfl) (fun K hK => ?_)
          simp only [Act.put, List.setIfInBounds_toArray, List.set_cons_zero, List.set_cons_succ]
          refine hK _ ?_; clear hK K
          refine wpMix_skip (by kernel_rfl) (fun K hK => ?_)
          simp only [Act.put, List.setIfInBounds_toArray, List.set_cons_zero, List.set_cons_succ]
          refine hK _ ?_; clear hK K
          refine wpMix_skip (by kernel_rfl) (fun K hK => ?_)
          simp only [Act.put, List.setIfInBounds_toArray, List.set_cons_zero, List.set_cons_succ]
          refine hK _ ?_; clear hK K
          refine wpMix_skip (by kernel_rfl) (fun K hK => ?_)
          simp only [Act.put, List.setIfInBounds_toArray, List.set_cons_zero, List.set_cons_succ]
          refine hK _ ?_; clear hK K
          refine wpMix_skip (by kernel_rfl) (fun K hK => ?_)
          simp only [Act.put, List.setIfInBounds_toArray, List.set_cons_zero, List.set_cons_succ]
          refine hK _ ?_; clear hK K
          refine wpMix_pure (by kernel_rfl) (fun K hK => ?_); go_big_quiet_op; refine hK _ ?_; clear hK K
          refine wpMix_nil ?_
          go_wp2
          have HZ : Hid (ptOk xs (0) = false) := by show _ = _; rw [ptOk_zero hlt]; exact ptB_bad (by omega)
          go_ret
          exact ⟨ret_bool (by rw [pathB_bad hlt HZ.out]), hb.trans (hW.trans (hS0.mono hW.size) |>.mono hb.size)⟩
        · skip
          have b1 := inB_true.1 hq2
          refine wpMix_pure (by kernel_rfl) (fun K hK => ?_); go_big_quiet_op; refine hK _ ?_; clear hK K
          refine wpMix_pure (by kernel_rfl) (fun K hK => ?_); go_big_quiet_op; refine hK _ ?_; clear hK K
          refine wpMix_pure (by kernel_rfl) (fun K hK => ?_); go_big_quiet_op; refine hK _ ?_; clear hK K
          refine wpMix_pure (by kernel_rfl) (fun K hK => ?_); go_big_quiet_op; refine hK _ ?_; clear hK K
          refine wpMix_act (by kernel_rfl) (fun K hK => ?_)
          go_big_op
          refine (l00InB_any _ _ _ _).mono ?_
          rintro e w' ⟨rfl, rfl⟩
          refine hK _ _ (regrown_of_below hS0) ?_
          clear hK K
          cases hq7 : inB xs[0].height 0 9000
          · skip
            have b2 := inB_false.1 hq7
            refine wpMix_pure (by kernel_rfl) (fun K hK => ?_); go_big_quiet_op; refine hK _ ?_; clear hK K
            refine wpMix_pure (by kernel_rfl) (fun K hK => ?_); go_big_quiet_op; refine hK _ ?_; clear hK K
            refine wpMix_pure (by kernel_rfl) (fun K hK => ?_); go_big_quiet_op; refine hK _ ?_; clear hK K
            refine wpMix_skip (by kernel_rfl) (fun K hK => ?_)
            simp only [Act.put, List.setIfInBounds_toArray, List.set_cons_zero, List.set_cons_succ]
            refine hK _ ?_; clear hK K
            refine wpMix_skip (by kernel_rfl) (fun K hK => ?_)
            simp only [Act.put, List.setIfInBounds_toArray, List.set_cons_zero, List.set_cons_succ]
            refine hK _ ?_; clear hK K
            refine wpMix_skip (by kernel_rfl) (fun K hK => ?_)
            simp only [Act.put, List.setIfInBounds_toArray, List.set_cons_zero, List.set_cons_succ]
            refine hK _ ?_; clear hK K
            refine wpMix_skip (by kernel_rfl) (fun K hK => ?_)
            simp only [Act.put, List.setIfInBounds_toArray, List.set_cons_zero, List.set_cons_succ]
            refine hK _ ?_; clear hK K
            refine wpMix_skip (by kernel_rfl) (fun K hK => ?_)
            simp only [Act.put, List.setIfInBounds_toArray, List.set_cons_zero, List.set_cons_succ]
            refine hK _ ?_; clear hK K
            refine wpMix_skip (by kernel_rfl) (fun K hK => ?_)
            simp only [Act.put, List.setIfInBounds_toArray, List.set_cons_zero, List.set_cons_succ]
            refine hK _ ?_; clear hK K
            refine wpMix_skip (by kernel_rfl) (fun K hK => ?_)
            simp only [Act.put, List.setIfInBounds_toArray, List.set_cons_zero, List.set_cons_succ]
            refine hK _ ?_; clear hK K
            refine wpMix_pure (by kernel_rfl) (fun K hK => ?_); go_big_quiet_op; refine hK _ ?_; clear hK K
            refine wpMix_pure (by kernel_rfl) (fun K hK => ?_); go_big_quiet_op; refine hK _ ?_; clear hK K
            refine wpMix_skip (by kernel_rfl) (fun K hK => ?_)
            simp only [Act.put, List.setIfInBounds_toArray, List.set_cons_zero, List.set_cons_succ]
            refine hK _ ?_; clear hK K
            refine wpMix_skip (by kernel_rfl) (fun K hK => ?_)
            simp only [Act.put, List.setIfInBounds_toArray, List.set_cons_zero, List.set_cons_succ]
            refine hK _ ?_; clear hK K
            refine wpMix_skip (by kernel_rfl) (fun K hK => ?_)
            simp only [Act.put, List.setIfInBounds_toArray, List.set_cons_zero, List.set_cons_succ]
            refine hK _ ?_; clear hK K
            refine wpMix_skip (by kernel_rfl) (fun K hK => ?_)
            simp only [Act.put, List.setIfInBounds_toArray, List.set_cons_zero, List.set_cons_succ]
            refine hK _ ?_; clear hK K
            refine wpMix_skip (by kernel_rfl) (fun K hK => ?_)
            simp only [Act.put, List.setIfInBounds_toArray, List.set_cons_zero, List.set_cons_succ]
            refine hK _ ?_; clear hK K
            refine wpMix_skip (by kernel_rfl) (fun K hK => ?_)
            simp only [Act.put, List.setIfInBounds_toArray, List.set_cons_zero, List.set_cons_succ]
            refine hK _ ?_; clear hK K
            refine wpMix_skip (by kernel_rfl) (fun K hK => ?_)
            simp only [Act.put, List.setIfInBounds_toArray, List.set_cons_zero, List.set_cons_succ]
            refine hK _ ?_; clear hK K
            refine wpMix_skip (by kernel_rfl) (fun K hK => ?_)
            simp only [Act.put, List.setIfInBounds_toArray, List.set_cons_zero, List.set_cons_succ]
            refine hK _ ?_; clear hK K
            refine wpMix_skip (by kernel_rfl) (fun K hK => ?_)
            simp only [Act.put, List.setIfInBounds_toArray, List.set_cons_zero, List.set_cons_succ]
            refine hK _ ?_; clear hK K
            refine wpMix_skip (by kernel_rfl) (fun K hK => ?_)
            simp only [Act.put, List.setIfInBounds_toArray, List.set_cons_zero, List.set_cons_succ]
            refine hK _ ?_; clear hK K
            refine wpMix_skip (by kernel_rfl) (fun K hK => ?_)
            simp only [Act.put, List.setIfInBounds_toArray, List.set_cons_zero, List.set_cons_succ]
            refine hK _ ?_; clear hK K
            refine wpMix_skip (by kernel_rfl) (fun K hK => ?_)
            simp only [Act.put, List.setIfInBounds_toArray, List.set_cons_zero, List.set_cons_succ]
            refine hK _ ?_; clear hK K
            refine wpMix_skip (by kernel_rfl) (fun K hK => ?_)
            simp only [Act.put, List.setIfInBounds_toArray, List.set_cons_zero, List.set_cons_succ]
            refine hK _ ?_; clear hK K
            refine wpMix_pure (by kernel_rfl) (fun K hK => ?_); go_big_quiet_op; refine hK _ ?_; clear hK K
            refine wpMix_nil ?_
            go_wp2
            have HZ : Hid (ptOk xs (0) = false) := by show _ = _; rw [ptOk_zero hlt]; exact ptB_bad (by omega)
            go_ret
            exact ⟨ret_bool (by rw [pathB_bad hlt HZ.out]), hb.trans (hW.trans (hS0.mono hW.size) |>.mono hb.size)⟩
          · skip
            have b2 := inB_true.1 hq7
            refine wpMix_pure (by kernel_rfl) (fun K hK => ?_); go_big_quiet_op; refine hK _ ?_; clear hK K
            refine wpMix_pure (by kernel_rfl) (fun K hK => ?_); go_big_quiet_op; refine hK _ ?_; clear hK K
            refine wpMix_pure (by kernel_rfl) (fun K hK => ?_); go_big_quiet_op; refine hK _ ?_; clear hK K
            refine wpMix_pure (by kernel_rfl) (fun K hK => ?_); go_big_quiet_op; refine hK _ ?_; clear hK K
            refine wpMix_pure (by kernel_rfl) (fun K hK => ?_); go_big_quiet_op; refine hK _ ?_; clear hK K
            refine wpMix_pure (by kernel_rfl) (fun K hK => ?_); go_big_quiet_op; refine hK _ ?_; clear hK K
            refine wpMix_pure (by kernel_rfl) (fun K hK => ?_); go_big_quiet_op; refine hK _ ?_; clear hK K
            refine wpMix_pure (by kernel_rfl) (fun K hK => ?_); go_big_quiet_op; refine hK _ ?_; clear hK K
            refine wpMix_pure (by kernel_rfl) (fun K hK => ?_); go_big_quiet_op; refine hK _ ?_; clear hK K
            by_cases hq17 : xs[0].height < xs[0].height
            · skip
              have e17 : decide (xs[0].height < xs[0].height) = true := by simpa using hq17
              refine wpMix_pure (by kernel_rfl) (fun K hK => ?_); go_big_quiet_op; refine hK _ ?_; clear hK K
              refine wpMix_pure (by kernel_rfl) (fun K hK => ?_); go_big_quiet_op; refine hK _ ?_; clear hK K
              refine wpMix_pure (by kernel_rfl) (fun K hK => ?_); go_big_quiet_op; refine hK _ ?_; clear hK K
              refine wpMix_skip (by kernel_rfl) (fun K hK => ?_)
              simp only [Act.put, List.setIfInBounds_toArray, List.set_cons_zero, List.set_cons_succ]
              refine hK _ ?_; clear hK K
              refine wpMix_skip (by kernel_rfl) (fun K hK => ?_)
              simp only [Act.put, List.setIfInBounds_toArray, List.set_cons_zero, List.set_cons_succ]
              refine hK _ ?_; clear hK K
              refine wpMix_skip (by kernel_rfl) (fun K hK => ?_)
              simp only [Act.put, List.setIfInBounds_toArray, List.set_cons_zero, List.set_cons_succ]
              refine hK _ ?_; clear hK K
              refine wpMix_skip (by kernel_rfl) (fun K hK => ?_)
              simp only [Act.put, List.setIfInBounds_toArray, List.set_cons_zero, List.set_cons_succ]
              refine hK _ ?_; clear hK K
              refine wpMix_skip (by kernel_rfl) (fun K hK => ?_)
              simp only [Act.put, List.setIfInBounds_toArray, List.set_cons_zero, List.set_cons_succ]
              refine hK _ ?_; clear hK K
              refine wpMix_skip (by kernel_rfl) (fun K hK => ?_)
              simp only [Act.put, List.setIfInBounds_toArray, List.set_cons_zero, List.set_cons_succ]
              refine hK _ ?_; clear hK K
              refine wpMix_skip (by kernel_rfl) (fun K hK => ?_)
              simp only [Act.put, List.setIfInBounds_toArray, List.set_cons_zero, List.set_cons_succ]
              refine hK _ ?_; clear hK K
              refine wpMix_skip (by kernel_rfl) (fun K hK => ?_)
              simp only [Act.put, List.setIfInBounds_toArray, List.set_cons_zero, List.set_cons_succ]
              refine hK _ ?_; clear hK K
              refine wpMix_skip (by kernel_rfl) (fun K hK => ?_)
              simp only [Act.put, List.setIfInBounds_toArray, List.set_cons_zero, List.set_cons_succ]
              refine hK _ ?_; clear hK K
              refine wpMix_skip (by kernel_rfl) (fun K hK => ?_)
              simp only [Act.put, List.setIfInBounds_toArray, List.set_cons_zero, List.set_cons_succ]
              refine hK _ ?_; clear hK K
              refine wpMix_skip (by kernel_rfl) (fun K hK => ?_)
              simp only [Act.put, List.setIfInBounds_toArray, List.set_cons_zero, List.set_cons_succ]
              refine hK _ ?_; clear hK K
              refine wpMix_skip (by kernel_rfl) (fun K hK => ?_)
              simp only [Act.put, List.setIfInBounds_toArray, List.set_cons_zero, List.set_cons_succ]
              refine hK _ ?_; clear hK K
              refine wpMix_skip (by kernel_rfl) (fun K hK => ?_)
              simp only [Act.put, List.setIfInBounds_toArray, List.set_cons_zero, List.set_cons_succ]
              refine hK _ ?_; clear hK K
              refine wpMix_pure (by kernel_rfl) (fun K hK => ?_); go_big_quiet_op; refine hK _ ?_; clear hK K
              refine wpMix_nil ?_
              go_wp2
              have HZ : Hid (ptOk xs (0) = false) := by show _ = _; rw [ptOk_zero hlt]; exact ptB_bad (by omega)
              go_ret
              exact ⟨ret_bool (by rw [pathB_bad hlt HZ.out]), hb.trans (hW.trans (hS0.mono hW.size) |>.mono hb.size)⟩
            · skip
              have e17 : decide (xs[0].height < xs[0].height) = false := by simpa using hq17
              refine wpMix_pure (by kernel_rfl) (fun K hK => ?_); go_big_quiet_op; refine hK _ ?_; clear hK K
              refine wpMix_pure (by kernel_rfl) (fun K hK => ?_); go_big_quiet_op; refine hK _ ?_; clear hK K
              refine wpMix_pure (by kernel_rfl) (fun K hK => ?_); go_big_quiet_op; refine hK _ ?_; clear hK K
              refine wpMix_pure (by kernel_rfl) (fun K hK => ?_); go_big_quiet_op; refine hK _ ?_; clear hK K
              refine wpMix_pure (by kernel_rfl) (fun K hK => ?_); go_big_quiet_op; refine hK _ ?_; clear hK K
              refine wpMix_pure (by kernel_rfl) (fun K hK => ?_); go_big_quiet_op; refine hK _ ?_; clear hK K
              refine wpMix_skip (by kernel_rfl) (fun K hK => ?_)
              simp only [Act.put, List.setIfInBounds_toArray, List.set_cons_zero, List.set_cons_succ]
              refine hK _ ?_; clear hK K
              refine wpMix_skip (by kernel_rfl) (fun K hK => ?_)
              simp only [Act.put, List.setIfInBounds_toArray, List.set_cons_zero, List.set_cons_succ]
              refine hK _ ?_; clear hK K
              refine wpMix_skip (by kernel_rfl) (fun K hK => ?_)
              simp only [Act.put, List.setIfInBounds_toArray, List.set_cons_zero, List.set_cons_succ]
              refine hK _ ?_; clear hK K
              refine wpMix_skip (by kernel_rfl) (fun K hK => ?_)
              simp only [Act.put, List.setIfInBounds_toArray, List.set_cons_zero, List.set_cons_succ]
              refine hK _ ?_; clear hK K
              refine wpMix_skip (by kernel_rfl) (fun K hK => ?_)
              simp only [Act.put, List.setIfInBounds_toArray, List.set_cons_zero, List.set_cons_succ]
              refine hK _ ?_; clear hK K
              refine wpMix_skip (by kernel_rfl) (fun K hK => ?_)
              simp only [Act.put, List.setIfInBounds_toArray, List.set_cons_zero, List.set_cons_succ]
              refine hK _ ?_; clear hK K
              refine wpMix_skip (by kernel_rfl) (fun K hK => ?_)
              simp only [Act.put, List.setIfInBounds_toArray, List.set_cons_zero, List.set_cons_succ]
              refine hK _ ?_; clear hK K
              refine wpMix_skip (by kernel_rfl) (fun K hK => ?_)
              simp only [Act.put, List.setIfInBounds_toArray, List.set_cons_zero, List.set_cons_succ]
              refine hK _ ?_; clear hK K
              refine wpMix_skip (by kernel_rfl) (fun K hK => ?_)
              simp only [Act.put, List.setIfInBounds_toArray, List.set_cons_zero, List.set_cons_succ]
              refine hK _ ?_; clear hK K
              refine wpMix_pure (by kernel_rfl) (fun K hK => ?_); go_big_quiet_op; refine hK _ ?_; clear hK K
              refine wpMix_pure (by kernel_rfl) (fun K hK => ?_); go_big_quiet_op; refine hK _ ?_; clear hK K
              refine wpMix_nil ?_
              go_wp2
              have HZ : Hid (ptOk xs (0) = true) := by show _ = _; rw [ptOk_zero hlt]; exact ptB_good (by omega)
              go_roundw
              case rel => exact ⟨0 + 1, by omega, by go_num, allIdx_step H0.out HZ.out, hb.trans (hW.trans (hS0.mono hW.size) |>.mono hb.size)⟩
              case measure => simp [intOf]; omega
      · obtain ⟨m, rfl⟩ : ∃ m, k = m + 1 := ⟨k - 1, by omega⟩
        have hm : m < xs.length := by omega
        have h00 : 0 < xs.length := by omega
        obtain ⟨b, off, rfl, _, hok, hp⟩ := PPathPoint.elem (hx.below' hb) hlt
        skip
        obtain ⟨c0, c1⟩ := id hp
        obtain ⟨b1, off1, hA1, _, hokm, hpm⟩ := PPathPoint.elem (hx.below' hb) hm
        injection hA1 with hA1
        injection hA1 with hA1 hA2 _
        subst hA1 hA2
        obtain ⟨b1, off1, hA1, _, hokz, hpz⟩ := PPathPoint.elem (hx.below' hb) h00
        injection hA1 with hA1
        injection hA1 with hA1 hA2 _
        subst hA1 hA2
        rw [Nat.zero_mul, Nat.add_zero] at hpz
        have hnn := ptOk_nonneg H0.out (Nat.lt_succ_self m) hk
        go_wp2
        refine at_world (fun W => Below wr.heap.size wr W ∧ PPathPoint W wr.heap.size 0 xs[m + 1] ∧ PPathPoint W b off xs[0] ∧ PPathPoint W b (off + m * 2) xs[m]) ⟨(Below.refl _ _).alloc (Nat.le_refl _) _, PPathPoint.box wr xs[m + 1] _, hpz.below' ((Below.refl _ _).alloc (Nat.le_refl _) _), hpm.below' ((Below.refl _ _).alloc (Nat.le_refl _) _)⟩ ?_
        clear c0 c1 hp hpm hpz
        rintro W ⟨hW, ⟨c0, c1⟩, ⟨d0, d1⟩, ⟨g0, g1⟩⟩
        have gc0 := cell_regrown c0
        have gc1 := cell_regrown c1
        have gd1 := cell_regrown d1
        have gg0 := cell_regrown g0
        refine wp_region_mix (C := fun w' => ∃ p : Regrown, w' = Go.Sort.grow (redrawn W p.d) p.os) [true, true, false, true, true, true, true, false, true, true, true, true, true, true, true, true, true, true, true, true, true, true, true, true, true, true, true, true, true, true, true, true, true, true] (by kernel_rfl) (by kernel_rfl) (by kernel_rfl) (fun _ _ d _ _ h => by cases d <;> exact h) (regrown_of_below (Below.drew (Below.refl _ _))) ?_
        have hS0 : Below (W.heap.size) W W.drew := Below.drew (Below.refl _ _)
        refine wpMix_pure (by kernel_rfl) (fun K hK => ?_); go_big_quiet_op; refine hK _ ?_; clear hK K
        refine wpMix_pure (by kernel_rfl) (fun K hK => ?_); go_big_quiet_op; refine hK _ ?_; clear hK K
        refine wpMix_act (by kernel_rfl) (fun K hK => ?_)
        go_big_op
        refine (l00InB_any _ _ _ _).mono ?_
        rintro e w' ⟨rfl, rfl⟩
        refine hK _ _ (regrown_of_below hS0) ?_
        clear hK K
        cases hq2 : inB xs[m + 1].distance 0 20000
        · skip
          have b1 := inB_false.1 hq2
          refine wpMix_pure (by kernel_rfl) (fun K hK => ?_); go_big_quiet_op; refine hK _ ?_; clear hK K
          refine wpMix_pure (by kernel_rfl) (fun K hK => ?_); go_big_quiet_op; refine hK _ ?_; clear hK K
          refine wpMix_skip (by kernel_rfl) (fun K hK => ?_)
          simp only [Act.put, List.setIfInBounds_toArray, List.set_cons_zero, List.set_cons_succ]
          refine hK _ ?_; clear hK K
          refine wpMix_skip (by kernel_rfl) (fun K hK => ?_)
          simp only [Act.put, List.setIfInBounds_toArray, List.set_cons_zero, List.set_cons_succ]
          refine hK _ ?_; clear hK K
          refine wpMix_skip (by kernel_rfl) (fun K hK => ?_)
          simp only [Act.put, List.setIfInBounds_toArray, List.set_cons_zero, List.set_cons_succ]
          refine hK _ ?_; clear hK K
          refine wpMix_skip (by kernel_rfl) (fun K hK => ?_)
          simp only [Act.put, List.setIfInBounds_toArray, List.set_cons_zero, List.set_cons_succ]
          refine hK _ ?_; clear hK K
          refine wpMix_pure (by kernel_rfl) (fun K hK => ?_); go_big_quiet_op; refine hK _ ?_; clear hK K
          refine wpMix_pure (by kernel_rfl) (fun K hK => ?_); go_big_quiet_op; refine hK _ ?_; clear hK K
          refine wpMix_skip (by kernel_rfl) (fun K hK => ?_)
          simp only [Act.put, List.setIfInBounds_toArray, List.set_cons_zero, List.set_cons_succ]
          refine hK _ ?_; clear hK K
          refine wpMix_skip (by kernel_rfl) (fun K hK => ?_)
          simp only [Act.put, List.setIfInBounds_toArray, List.set_cons_zero, List.set_cons_succ]
          refine hK _ ?_; clear hK K
          refine wpMix_skip (by kernel_rfl) (fun K hK => ?_)
          simp only [Act.put, List.setIfInBounds_toArray, List.set_cons_zero, List.set_cons_succ]
          refine hK _ ?_; clear hK K
          refine wpMix_skip (by kernel_rfl) (fun K hK => ?_)
          simp only [Act.put, List.setIfInBounds_toArray, List.set_cons_zero, List.set_cons_succ]
          refine hK _ ?_; clear hK K
          refine wpMix_skip (by kernel_rfl) (fun K hK => ?_)
          simp only [Act.put, List.setIfInBounds_toArray, List.set_cons_zero, List.set_cons_succ]
          refine hK _ ?_; clear hK K
          refine wpMix_skip (by kernel_rfl) (fun K hK => ?_)
          simp only [Act.put, List.setIfInBounds_toArray, List.set_cons_zero, List.set_cons_succ]
          refine hK _ ?_; clear hK K
          refine wpMix_skip (by kernel_rfl) (fun K hK => ?_)
          simp only [Act.put, List.setIfInBounds_toArray, List.set_cons_zero, List.set_cons_succ]
          refine hK _ ?_; clear hK K
          refine wpMix_pure (by kernel_rfl) (fun K hK => ?_); go_big_quiet_op; refine hK _ ?_; clear hK K
          refine wpMix_pure (by kernel_rfl) (fun K hK => ?_); go_big_quiet_op; refine hK _ ?_; clear hK K
          refine wpMix_skip (by kernel_rfl) (fun K hK => ?_)
          simp only [Act.put, List.setIfInBounds_toArray, List.set_cons_zero, List.set_cons_succ]
          refine hK _ ?_; clear hK K
          refine wpMix_skip (by kernel_rfl) (fun K hK => ?_)
          simp only [Act.put, List.setIfInBounds_toArray, List.set_cons_zero, List.set_cons_succ]
          refine hK _ ?_; clear hK K
          refine wpMix_skip (by kernel_rfl) (fun K hK => ?_)
          simp only [Act.put, List.setIfInBounds_toArray, List.set_cons_zero, List.set_cons_succ]
          refine hK _ ?_; clear hK K
          refine wpMix_skip (by kernel_rfl) (fun K hK => ?_)
          simp only [Act.put, List.setIfInBounds_toArray, List.set_cons_zero, List.set_cons_succ]
          refine hK _ ?_; clear hK K
          refine wpMix_skip (by kernel_rfl) (fun K hK => ?_)
          simp only [Act.put, List.setIfInBounds_toArray, List.set_cons_zero, List.set_cons_succ]
          refine hK _ ?_; clear hK K
          refine wpMix_skip (by kernel_rfl) (fun K hK => ?_)
          simp only [Act.put, List.setIfInBounds_toArray, List.set_cons_zero, List.set_cons_succ]
          refine hK _ ?_; clear hK K
          refine wpMix_skip (by kernel_rfl) (fun K hK => ?_)
          simp only [Act.put, List.setIfInBounds_toArray, List.set_cons_zero, List.set_cons_succ]
          refine hK _ ?_; clear hK K
          refine wpMix_skip (by kernel_rfl) (fun K hK => ?_)
          simp only [Act.put, List.setIfInBounds_toArray, List.set_cons_zero, List.set_cons_succ]
          refine hK _ ?_; clear hK K
          refine wpMix_skip (by kernel_rfl) (fun K hK => ?_)
          simp only [Act.put, List.setIfInBounds_toArray, List.set_cons_zero, List.set_cons_succ]
          refine hK _ ?_; clear hK K
          refine wpMix_skip (by kernel_rfl) (fun K hK => ?_)
          simp only [Act.put, List.setIfInBounds_toArray, List.set_cons_zero, List.set_cons_succ]
          refine hK _ ?_; clear hK K
          refine wpMix_skip (by kernel_rfl) (fun K hK => ?_)
          simp only [Act.put, List.setIfInBounds_toArray, List.set_cons_zero, List.set_cons_succ]
          refine hK _ ?_; clear hK K
          refine wpMix_skip (by kernel_rfl) (fun K hK => ?_)
          simp only [Act.put, List.setIfInBounds_toArray, List.set_cons_zero, List.set_cons_succ]
          refine hK _ ?_; clear hK K
          refine wpMix_skip (by kernel_rfl) (fun K hK => ?_)
          simp only [Act.put, List.setIfInBounds_toArray, List.set_cons_zero, List.set_cons_succ]
          refine hK _ ?_; clear hK K
          refine wpMix_pure (by kernel_rfl) (fun K hK => ?_); go_big_quiet_op; refine hK _ ?_; clear hK K
          refine wpMix_nil ?_
          go_wp2
          have HZ : Hid (ptOk xs (m + 1) = false) := by show _ = _; rw [ptOk_succ hlt]; exact ptN_bad (by omega)
          go_ret
          exact ⟨ret_bool (by rw [pathB_bad hlt HZ.out]), hb.trans (hW.trans (hS0.mono hW.size) |>.mono hb.size)⟩
        · skip
          have b1 := inB_true.1 hq2
          refine wpMix_pure (by kernel_rfl) (fun K hK => ?_); go_big_quiet_op; refine hK _ ?_; clear hK K
          refine wpMix_pure (by kernel_rfl) (fun K hK => ?_); go_big_quiet_op; refine hK _ ?_; clear hK K
          refine wpMix_pure (by kernel_rfl) (fun K hK => ?_); go_big_quiet_op; refine hK _ ?_; clear hK K
          refine wpMix_pure (by kernel_rfl) (fun K hK => ?_); go_big_quiet_op; refine hK _ ?_; clear hK K
          refine wpMix_act (by kernel_rfl) (fun K hK => ?_)
          go_big_op
          refine (l00InB_any _ _ _ _).mono ?_
          rintro e w' ⟨rfl, rfl⟩
          refine hK _ _ (regrown_of_below hS0) ?_
          clear hK K
          cases hq7 : inB xs[m + 1].height 0 9000
          · skip
            have b2 := inB_false.1 hq7
            refine wpMix_pure (by kernel_rfl) (fun K hK => ?_); go_big_quiet_op; refine hK _ ?_; clear hK K
            refine wpMix_pure (by kernel_rfl) (fun K hK => ?_); go_big_quiet_op; refine hK _ ?_; clear hK K
            refine wpMix_pure (by kernel_rfl) (fun K hK => ?_); go_big_quiet_op; refine hK _ ?_; clear hK K
            refine wpMix_skip (by kernel_rfl) (fun K hK => ?_)
            simp only [Act.put, List.setIfInBounds_toArray, List.set_cons_zero, List.set_cons_succ]
            refine hK _ ?_; clear hK K
            refine wpMix_skip (by kernel_rfl) (fun K hK => ?_)
            simp only [Act.put, List.setIfInBounds_toArray, List.set_cons_zero, List.set_cons_succ]
            refine hK _ ?_; clear hK K
            refine wpMix_skip (by kernel_rfl) (fun K hK => ?_)
            simp only [Act.put, List.setIfInBounds_toArray, List.set_cons_zero, List.set_cons_succ]
            refine hK _ ?_; clear hK K
            refine wpMix_skip (by kernel_rfl) (fun K hK => ?_)
            simp only [Act.put, List.setIfInBounds_toArray, List.set_cons_zero, List.set_cons_succ]
            refine hK _ ?_; clear hK K
            refine wpMix_skip (by kernel_rfl) (fun K hK => ?_)
            simp only [Act.put, List.setIfInBounds_toArray, List.set_cons_zero, List.set_cons_succ]
            refine hK _ ?_; clear hK K
            refine wpMix_skip (by kernel_rfl) (fun K hK => ?_)
            simp only [Act.put, List.setIfInBounds_toArray, List.set_cons_zero, List.set_cons_succ]
            refine hK _ ?_; clear hK K
            refine wpMix_skip (by kernel_rfl) (fun K hK => ?_)
            simp only [Act.put, List.setIfInBounds_toArray, List.set_cons_zero, List.set_cons_succ]
            refine hK _ ?_; clear hK K
            refine wpMix_pure (by kernel_rfl) (fun K hK => ?_); go_big_quiet_op; refine hK _ ?_; clear hK K
            refine wpMix_pure (by kernel_rfl) (fun K hK => ?_); go_big_quiet_op; refine hK _ ?_; clear hK K
            refine wpMix_skip (by kernel_rfl) (fun K hK => ?_)
            simp only [Act.put, List.setIfInBounds_toArray, List.set_cons_zero, List.set_cons_succ]
            refine hK _ ?_; clear hK K
            refine wpMix_skip (by kernel_rfl) (fun K hK => ?_)
            simp only [Act.put, List.setIfInBounds_toArray, List.set_cons_zero, List.set_cons_succ]
            refine hK _ ?_; clear hK K
            refine wpMix_skip (by kernel_rfl) (fun K hK => ?_)
            simp only [Act.put, List.setIfInBounds_toArray, List.set_cons_zero, List.set_cons_succ]
            refine hK _ ?_; clear hK K
            refine wpMix_skip (by kernel_rfl) (fun K hK => ?_)
            simp only [Act.put, List.setIfInBounds_toArray, List.set_cons_zero, List.set_cons_succ]
            refine hK _ ?_; clear hK K
            refine wpMix_skip (by kernel_rfl) (fun K hK => ?_)
            simp only [Act.put, List.setIfInBounds_toArray, List.set_cons_zero, List.set_cons_succ]
            refine hK _ ?_; clear hK K
            refine wpMix_skip (by kernel_rfl) (fun K hK => ?_)
            simp only [Act.put, List.setIfInBounds_toArray, List.set_cons_zero, List.set_cons_succ]
            refine hK _ ?_; clear hK K
            refine wpMix_skip (by kernel_rfl) (fun K hK => ?_)
            simp only [Act.put, List.setIfInBounds_toArray, List.set_cons_zero, List.set_cons_succ]
            refine hK _ ?_; clear hK K
            refine wpMix_skip (by kernel_rfl) (fun K hK => ?_)
            simp only [Act.put, List.setIfInBounds_toArray, List.set_cons_zero, List.set_cons_succ]
            refine hK _ ?_; clear hK K
            refine wpMix_skip (by kernel_rfl) (fun K hK => ?_)
            simp only [Act.put, List.setIfInBounds_toArray, List.set_cons_zero, List.set_cons_succ]
            refine hK _ ?_; clear hK K
            refine wpMix_skip (by kernel_rfl) (fun K hK => ?_)
            simp only [Act.put, List.setIfInBounds_toArray, List.set_cons_zero, List.set_cons_succ]
            refine hK _ ?_; clear hK K
            refine wpMix_skip (by kernel_rfl) (fun K hK => ?_)
            simp only [Act.put, List.setIfInBounds_toArray, List.set_cons_zero, List.set_cons_succ]
            refine hK _ ?_; clear hK K
            refine wpMix_skip (by kernel_rfl) (fun K hK => ?_)
            simp only [Act.put, List.setIfInBounds_toArray, List.set_cons_zero, List.set_cons_succ]
            refine hK _ ?_; clear hK K
            refine wpMix_skip (by kernel_rfl) (fun K hK => ?_)
            simp only [Act.put, List.setIfInBounds_toArray, List.set_cons_zero, List.set_cons_succ]
            refine hK _ ?_; clear hK K
            refine wpMix_pure (by kernel_rfl) (fun K hK => ?_); go_big_quiet_op; refine hK _ ?_; clear hK K
            refine wpMix_nil ?_
            go_wp2
            have HZ : Hid (ptOk xs (m + 1) = false) := by show _ = _; rw [ptOk_succ hlt]; exact ptN_bad (by omega)
            go_ret
            exact ⟨ret_bool (by rw [pathB_bad hlt HZ.out]), hb.trans (hW.trans (hS0.mono hW.size) |>.mono hb.size)⟩
          · skip
            have b2 := inB_true.1 hq7
            refine wpMix_pure (by kernel_rfl) (fun K hK => ?_); go_big_quiet_op; refine hK _ ?_; clear hK K
            refine wpMix_pure (by kernel_rfl) (fun K hK => ?_); go_big_quiet_op; refine hK _ ?_; clear hK K
            refine wpMix_pure (by kernel_rfl) (fun K hK => ?_); go_big_quiet_op; refine hK _ ?_; clear hK K
            refine wpMix_pure (by kernel_rfl) (fun K hK => ?_); go_big_quiet_op; refine hK _ ?_; clear hK K
            refine wpMix_pure (by kernel_rfl) (fun K hK => ?_); go_big_quiet_op; refine hK _ ?_; clear hK K
            refine wpMix_pure (by kernel_rfl) (fun K hK => ?_); go_big_quiet_op; refine hK _ ?_; clear hK K
            refine wpMix_pure (by kernel_rfl) (fun K hK => ?_); go_big_quiet_op; refine hK _ ?_; clear hK K
            refine wpMix_pure (by kernel_rfl) (fun K hK => ?_); go_big_quiet_op; refine hK _ ?_; clear hK K
            refine wpMix_pure (by kernel_rfl) (fun K hK => ?_); go_big_quiet_op; refine hK _ ?_; clear hK K
            by_cases hq17 : xs[0].height < xs[m + 1].height
            · skip
              have e17 : decide (xs[0].height < xs[m + 1].height) = true := by simpa using hq17
              refine wpMix_pure (by kernel_rfl) (fun K hK => ?_); go_big_quiet_op; refine hK _ ?_; clear hK K
              refine wpMix_pure (by kernel_rfl) (fun K hK => ?_); go_big_quiet_op; refine hK _ ?_; clear hK K
              refine wpMix_pure (by kernel_rfl) (fun K hK => ?_); go_big_quiet_op; refine hK _ ?_; clear hK K
              refine wpMix_skip (by kernel_rfl) (fun K hK => ?_)
              simp only [Act.put, List.setIfInBounds_toArray, List.set_cons_zero, List.set_cons_succ]
              refine hK _ ?_; clear hK K
              refine wpMix_skip (by kernel_rfl) (fun K hK => ?_)
              simp only [Act.put, List.setIfInBounds_toArray, List.set_cons_zero, List.set_cons_succ]
              refine hK _ ?_; clear hK K
              refine wpMix_skip (by kernel_rfl) (fun K hK => ?_)
              simp only [Act.put, List.setIfInBounds_toArray, List.set_cons_zero, List.set_cons_succ]
              refine hK _ ?_; clear hK K
              refine wpMix_skip (by kernel_rfl) (fun K hK => ?_)
              simp only [Act.put, List.setIfInBounds_toArray, List.set_cons_zero, List.set_cons_succ]
              refine hK _ ?_; clear hK K
              refine wpMix_skip (by kernel_rfl) (fun K hK => ?_)
              simp only [Act.put, List.setIfInBounds_toArray, List.set_cons_zero, List.set_cons_succ]
              refine hK _ ?_; clear hK K
              refine wpMix_skip (by kernel_rfl) (fun K hK => ?_)
              simp only [Act.put, List.setIfInBounds_toArray, List.set_cons_zero, List.set_cons_succ]
              refine hK _ ?_; clear hK K
              refine wpMix_skip (by kernel_rfl) (fun K hK => ?_)
              simp only [Act.put, List.setIfInBounds_toArray, List.set_cons_zero, List.set_cons_succ]
              refine hK _ ?_; clear hK K
              refine wpMix_skip (by kernel_rfl) (fun K hK => ?_)
              simp only [Act.put, List.setIfInBounds_toArray, List.set_cons_zero, List.set_cons_succ]
              refine hK _ ?_; clear hK K
              refine wpMix_skip (by kernel_rfl) (fun K hK => ?_)
              simp only [Act.put, List.setIfInBounds_toArray, List.set_cons_zero, List.set_cons_succ]
              refine hK _ ?_; clear hK K
              refine wpMix_skip (by kernel_rfl) (fun K hK => ?_)
              simp only [Act.put, List.setIfInBounds_toArray, List.set_cons_zero, List.set_cons_succ]
              refine hK _ ?_; clear hK K
              refine wpMix_skip (by kernel_rfl) (fun K hK => ?_)
              simp only [Act.put, List.setIfInBounds_toArray, List.set_cons_zero, List.set_cons_succ]
              refine hK _ ?_; clear hK K
              refine wpMix_skip (by kernel_rfl) (fun K hK => ?_)
              simp only [Act.put, List.setIfInBounds_toArray, List.set_cons_zero, List.set_cons_succ]
              refine hK _ ?_; clear hK K
              refine wpMix_skip (by kernel_rfl) (fun K hK => ?_)
              simp only [Act.put, List.setIfInBounds_toArray, List.set_cons_zero, List.set_cons_succ]
              refine hK _ ?_; clear hK K
              refine wpMix_pure (by kernel_rfl) (fun K hK => ?_); go_big_quiet_op; refine hK _ ?_; clear hK K
              refine wpMix_nil ?_
              go_wp2
              have HZ : Hid (ptOk xs (m + 1) = false) := by show _ = _; rw [ptOk_succ hlt]; exact ptN_bad (by omega)
              go_ret
              exact ⟨ret_bool (by rw [pathB_bad hlt HZ.out]), hb.trans (hW.trans (hS0.mono hW.size) |>.mono hb.size)⟩
            · skip
              have e17 : decide (xs[0].height < xs[m + 1].height) = false := by simpa using hq17
              refine wpMix_pure (by kernel_rfl) (fun K hK => ?_); go_big_quiet_op; refine hK _ ?_; clear hK K
              refine wpMix_pure (by kernel_rfl) (fun K hK => ?_); go_big_quiet_op; refine hK _ ?_; clear hK K
              refine wpMix_pure (by kernel_rfl) (fun K hK => ?_); go_big_quiet_op; refine hK _ ?_; clear hK K
              refine wpMix_pure (by kernel_rfl) (fun K hK => ?_); go_big_quiet_op; refine hK _ ?_; clear hK K
              refine wpMix_pure (by kernel_rfl) (fun K hK => ?_); go_big_quiet_op; refine hK _ ?_; clear hK K
              refine wpMix_pure (by kernel_rfl) (fun K hK => ?_); go_big_quiet_op; refine hK _ ?_; clear hK K
              refine wpMix_pure (by kernel_rfl) (fun K hK => ?_); go_big_quiet_op; refine hK _ ?_; clear hK K
              refine wpMix_pure (by kernel_rfl) (fun K hK => ?_); go_big_quiet_op; refine hK _ ?_; clear hK K
              refine wpMix_pure (by kernel_rfl) (fun K hK => ?_); go_big_quiet_op; refine hK _ ?_; clear hK K
              refine wpMix_pure (by kernel_rfl) (fun K hK => ?_); go_big_quiet_op; refine hK _ ?_; clear hK K
              refine wpMix_pure (by kernel_rfl) (fun K hK => ?_); go_big_quiet_op; refine hK _ ?_; clear hK K
              refine wpMix_pure (by kernel_rfl) (fun K hK => ?_); go_big_quiet_op; refine hK _ ?_; clear hK K
              refine wpMix_pure (by kernel_rfl) (fun K hK => ?_); go_big_quiet_op; refine hK _ ?_; clear hK K
              refine wpMix_pure (by kernel_rfl) (fun K hK => ?_); go_big_quiet_op; refine hK _ ?_; clear hK K
              by_cases hq31 : xs[m + 1].distance ≤ xs[m].distance
              · skip
                have e31 : decide (xs[m + 1].distance ≤ xs[m].distance) = true := by simpa using hq31
                refine wpMix_pure (by kernel_rfl) (fun K hK => ?_); go_big_quiet_op; refine hK _ ?_; clear hK K
                refine wpMix_pure (by kernel_rfl) (fun K hK => ?_); go_big_quiet_op; refine hK _ ?_; clear hK K
                refine wpMix_pure (by kernel_rfl) (fun K hK => ?_); go_big_quiet_op; refine hK _ ?_; clear hK K
                refine wpMix_nil ?_
                go_wp2
                have HZ : Hid (ptOk xs (m + 1) = false) := by show _ = _; rw [ptOk_succ hlt]; exact ptN_bad (by omega)
                go_ret
                exact ⟨ret_bool (by rw [pathB_bad hlt HZ.out]), hb.trans (hW.trans (hS0.mono hW.size) |>.mono hb.size)⟩
              · skip
                have e31 : decide (xs[m + 1].distance ≤ xs[m].distance) = false := by simpa using hq31
                refine wpMix_pure (by kernel_rfl) (fun K hK => ?_); go_big_quiet_op; refine hK _ ?_; clear hK K
                refine wpMix_pure (by kernel_rfl) (fun K hK => ?_); go_big_quiet_op; refine hK _ ?_; clear hK K
                refine wpMix_pure (by kernel_rfl) (fun K hK => ?_); go_big_quiet_op; refine hK _ ?_; clear hK K
                refine wpMix_nil ?_
                go_wp2
                have HZ : Hid (ptOk xs (m + 1) = true) := by show _ = _; rw [ptOk_succ hlt]; exact ptN_good (by omega)
                go_roundw
                case rel => exact ⟨m + 1 + 1, by omega, by go_num, allIdx_step H0.out HZ.out, hb.trans (hW.trans (hS0.mono hW.size) |>.mono hb.size)⟩
                case measure => simp [intOf]; omega
    · have HF := Lib.hid (allIdx_full (by omega) hk H0.out)
      by_cases h2 : 2 ≤ xs.length
      · have h00 : 0 < xs.length := by omega
        obtain ⟨b, off, rfl, _, hok, hp⟩ := PPathPoint.elem (hx.below' hb) h00
        rw [Nat.zero_mul, Nat.add_zero] at hp
        obtain ⟨c0, c1⟩ := hp
        by_cases h24 : xs.length ≤ 24
        · by_cases hd : xs[0].distance = 0
          · have e1 : (xs[0].distance == 0) = true := by rw [beq_iff_eq]; exact hd
            have HX : Hid (pathB xs = true) := by show _ = _; unfold pathB; rw [HF.out]; simp [h2, h24, hd, h00]
            clear hd
            go_wp2
            go_ret
            exact ⟨ret_bool HX.out.symm, hb⟩
          · have e1 : (xs[0].distance == 0) = false := by rw [beq_eq_false_iff_ne]; exact hd
            have HX : Hid (pathB xs = false) := by show _ = _; unfold pathB; rw [HF.out]; simp [h2, h24, hd, h00]
            clear hd
            go_wp2
            go_ret
            exact ⟨ret_bool HX.out.symm, hb⟩
        · have HX : Hid (pathB xs = false) := by show _ = _; unfold pathB; rw [HF.out, decide_eq_false h24]; simp
          go_wp2
          go_ret
          exact ⟨ret_bool HX.out.symm, hb⟩
      · have HX : Hid (pathB xs = false) := by show _ = _; unfold pathB; rw [HF.out, decide_eq_false h2]; rfl
        go_wp2
        go_ret
        exact ⟨ret_bool HX.out.symm, hb⟩
set_option maxRecDepth 100000 in
set_option maxHeartbeats 4000000 in
theorem ValidPath_any (v : Value) (xs : List DPathPoint) (fp : List Nat) (w : World) (hx : Sl fPathPoint.cod w v xs fp) :
    Calls Tryz.prog 98 #[v] w fun e w' => e = .returned (.bool (pathB xs)) ∧ Below w.heap.size w w' := by
  obtain ⟨A, cap, rfl, hlen, hcap⟩ := hx.form
  by_cases h2 : 2 ≤ xs.length
  · by_cases h24 : xs.length ≤ 24
    · have h00 : 0 < xs.length := by omega
      obtain ⟨b0, off0, hA, _, hok0, hp0⟩ := PPathPoint.elem hx h00
      subst hA
      rw [Nat.zero_mul, Nat.add_zero] at hp0
      obtain ⟨z0, z1⟩ := hp0
      by_cases hd : xs[0].distance = 0
      · have e1 : (xs[0].distance != 0) = false := by simp [hd]
        have HD := Lib.hid hd
        clear hd
        go_enter Tryz.func98, Tryz.ntmps98
        go_wp2
        clear e1 z0 z1
        go_loopw [22] (fun i wr => ∃ k : Nat, k ≤ xs.length ∧ i = .int .i64 k ∧ Hid (allIdx (ptOk xs) k = true) ∧ Below w.heap.size w wr) (fun i _ => xs.length - (intOf i).toNat)
        case atStart => exact ⟨0, Nat.zero_le _, rfl, rfl, Below.refl _ _⟩
        case round =>
          obtain ⟨k, hk, rfl, H0, hb⟩ := hrel
          by_cases hlt : k < xs.length
          · rcases Nat.eq_zero_or_pos k with rfl | hpos
            · skip
              obtain ⟨b, off, hA0, _, hok, hp⟩ := PPathPoint.elem (hx.below' hb) hlt
              injection hA0 with hA0
              injection hA0 with hA0 hA0b _
              subst hA0 hA0b
              rw [Nat.zero_mul, Nat.add_zero] at hp
              obtain ⟨c0, c1⟩ := id hp
              go_wp2
              refine at_world (fun W => Below wr.heap.size wr W ∧ PPathPoint W wr.heap.size 0 xs[0] ∧ PPathPoint W b0 off0 xs[0]) ⟨(Below.refl _ _).alloc (Nat.le_refl _) _, PPathPoint.box wr xs[0] _, hp.below' ((Below.refl _ _).alloc (Nat.le_refl _) _)⟩ ?_
              clear c0 c1 hp
              rintro W ⟨hW, ⟨c0, c1⟩, ⟨d0, d1⟩⟩
              have gc0 := cell_regrown c0
              have gc1 := cell_regrown c1
              have gd1 := cell_regrown d1
              refine wp_region_mix (C := fun w' => ∃ p : Regrown, w' = Go.Sort.grow (redrawn W p.d) p.os) [true, true, true, true, true, true, true, true, true, true, true, false, true, true, true, true, true, true, true, true, true, true, true, true, true, true, true, true, true] (by kernel_rfl) (by kernel_rfl) (by kernel_rfl) (fun _ _ d _ _ h => by cases d <;> exact h) (regrown_of_below (Below.drew (Below.refl _ _))) ?_
              have hS0 : Below (W.heap.size) W W.drew := Below.drew (Below.refl _ _)
              refine wpMix_pure (by kernel_rfl) (fun K hK => ?_); go_big_quiet_op; refine hK _ ?_; clear hK K
              refine wpMix_pure (by kernel_rfl) (fun K hK => ?_); go_big_quiet_op; refine hK _ ?_; clear hK K
              by_cases hq2 : (20000 : Int) < xs[0].distance
              · skip
                have e2 : decide ((20000 : Int) < xs[0].distance) = true := by simpa using hq2
                refine wpMix_pure (by kernel_rfl) (fun K hK => ?_); go_big_quiet_op; refine hK _ ?_; clear hK K
                refine wpMix_pure (by kernel_rfl) (fun K hK => ?_); go_big_quiet_op; refine hK _ ?_; clear hK K
                refine wpMix_skip (by kernel_rfl) (fun K hK => ?_)
                simp only [Act.put, List.setIfInBounds_toArray, List.set_cons_zero, List.set_cons_succ]
                refine hK _ ?_; clear hK K
                refine wpMix_skip (by kernel_rfl) (fun K hK => ?_)
                simp only [Act.put, List.setIfInBounds_toArray, List.set_cons_zero, List.set_cons_succ]
                refine hK _ ?_; clear hK K
                refine wpMix_skip (by kernel_rfl) (fun K hK => ?_)
                simp only [Act.put, List.setIfInBounds_toArray, List.set_cons_zero, List.set_cons_succ]
                refine hK _ ?_; clear hK K
                refine wpMix_skip (by kernel_rfl) (fun K hK => ?_)
                simp only [Act.put, List.setIfInBounds_toArray, List.set_cons_zero, List.set_cons_succ]
                refine hK _ ?_; clear hK K
                refine wpMix_skip (by kernel_rfl) (fun K hK => ?_)
                simp only [Act.put, List.setIfInBounds_toArray, List.set_cons_zero, List.set_cons_succ]
                refine hK _ ?_; clear hK K
                refine wpMix_skip (by kernel_rfl) (fun K hK => ?_)
                simp only [Act.put, List.setIfInBounds_toArray, List.set_cons_zero, List.set_cons_succ]
                refine hK _ ?_; clear hK K
                refine wpMix_skip (by kernel_rfl) (fun K hK => ?_)
                simp only [Act.put, List.setIfInBounds_toArray, List.set_cons_zero, List.set_cons_succ]
                refine hK _ ?_; clear hK K
                refine wpMix_skip (by kernel_rfl) (fun K hK => ?_)
                simp only [Act.put, List.setIfInBounds_toArray, List.set_cons_zero, List.set_cons_succ]
                refine hK _ ?_; clear hK K
                refine wpMix_skip (by kernel_rfl) (fun K hK => ?_)
                simp only [Act.put, List.setIfInBounds_toArray, List.set_cons_zero, List.set_cons_succ]
                refine hK _ ?_; clear hK K
                refine wpMix_pure (by kernel_rfl) (fun K hK => ?_); go_big_quiet_op; refine hK _ ?_; clear hK K
                refine wpMix_pure (by kernel_rfl) (fun K hK => ?_); go_big_quiet_op; refine hK _ ?_; clear hK K
                refine wpMix_skip (by kernel_rfl) (fun K hK => ?_)
                simp only [Act.put, List.setIfInBounds_toArray, List.set_cons_zero, List.set_cons_succ]
                refine hK _ ?_; clear hK K
                refine wpMix_skip (by kernel_rfl) (fun K hK => ?_)
                simp only [Act.put, List.setIfInBounds_toArray, List.set_cons_zero, List.set_cons_succ]
                refine hK _ ?_; clear hK K
                refine wpMix_skip (by kernel_rfl) (fun K hK => ?_)
                simp only [Act.put, List.setIfInBounds_toArray, List.set_cons_zero, List.set_cons_succ]
                refine hK _ ?_; clear hK K
                refine wpMix_skip (by kernel_rfl) (fun K hK => ?_)
                simp only [Act.put, List.setIfInBounds_toArray, List.set_cons_zero, List.set_cons_succ]
                refine hK _ ?_; clear hK K
                refine wpMix_skip (by kernel_rfl) (fun K hK => ?_)
                simp only [Act.put, List.setIfInBounds_toArray, List.set_cons_zero, List.set_cons_succ]
                refine hK _ ?_; clear hK K
                refine wpMix_skip (by kernel_rfl) (fun K hK => ?_)
                simp only [Act.put, List.setIfInBounds_toArray, List.set_cons_zero, List.set_cons_succ]
                refine hK _ ?_; clear hK K
                refine wpMix_skip (by kernel_rfl) (fun K hK => ?_)
                simp only [Act.put, List.setIfInBounds_toArray, List.set_cons_zero, List.set_cons_succ]
                refine hK _ ?_; clear hK K
                refine wpMix_skip (by kernel_rfl) (fun K hK => ?_)
                simp only [Act.put, List.setIfInBounds_toArray, List.set_cons_zero, List.set_cons_succ]
                refine hK _ ?_; clear hK K
                refine wpMix_skip (by kernel_rfl) (fun K hK => ?_)
                simp only [Act.put, List.setIfInBounds_toArray, List.set_cons_zero, List.set_cons_succ]
                refine hK _ ?_; clear hK K
                refine wpMix_skip (by kernel_rfl) (fun K hK => ?_)
                simp only [Act.put, List.setIfInBounds_toArray, List.set_cons_zero, List.set_cons_succ]
                refine hK _ ?_; clear hK K
                refine wpMix_skip (by kernel_rfl) (fun K hK => ?_)
                simp only [Act.put, List.setIfInBounds_toArray, List.set_cons_zero, List.set_cons_succ]
                refine hK _ ?_; clear hK K
                refine wpMix_skip (by kernel_rfl) (fun K hK => ?_)
                simp only [Act.put, List.setIfInBounds_toArray, List.set_cons_zero, List.set_cons_succ]
                refine hK _ ?_; clear hK K
                refine wpMix_skip (by kernel_rfl) (fun K hK => ?_)
                simp only [Act.put, List.setIfInBounds_toArray, List.set_cons_zero, List.set_cons_succ]
                refine hK _ ?_; clear hK K
                refine wpMix_pure (by kernel_rfl) (fun K hK => ?_); go_big_quiet_op; refine hK _ ?_; clear hK K
                refine wpMix_nil ?_
                go_wp2
                have HZ : Hid (ptOk xs (0) = false) := by show _ = _; rw [ptOk_zero hlt]; exact ptB_bad (by have := HD.out; omega)
                go_ret
                exact ⟨ret_bool (by rw [pathB_bad hlt HZ.out]), hb.trans (hW.trans (hS0.mono hW.size) |>.mono hb.size)⟩
              · skip
                have e2 : decide ((20000 : Int) < xs[0].distance) = false := by simpa using hq2
                refine wpMix_pure (by kernel_rfl) (fun K hK => ?_); go_big_quiet_op; refine hK _ ?_; clear hK K
                refine wpMix_pure (by kernel_rfl) (fun K hK => ?_); go_big_quiet_op; refine hK _ ?_; clear hK K
                refine wpMix_pure (by kernel_rfl) (fun K hK => ?_); go_big_quiet_op; refine hK _ ?_; clear hK K
                refine wpMix_pure (by kernel_rfl) (fun K hK => ?_); go_big_quiet_op; refine hK _ ?_; clear hK K
                refine wpMix_pure (by kernel_rfl) (fun K hK => ?_); go_big_quiet_op; refine hK _ ?_; clear hK K
                refine wpMix_pure (by kernel_rfl) (fun K hK => ?_); go_big_quiet_op; refine hK _ ?_; clear hK K
                refine wpMix_pure (by kernel_rfl) (fun K hK => ?_); go_big_quiet_op; refine hK _ ?_; clear hK K
                refine wpMix_pure (by kernel_rfl) (fun K hK => ?_); go_big_quiet_op; refine hK _ ?_; clear hK K
                refine wpMix_pure (by kernel_rfl) (fun K hK => ?_); go_big_quiet_op; refine hK _ ?_; clear hK K
                refine wpMix_act (by kernel_rfl) (fun K hK => ?_)
                go_big_op
                refine (withinB_any _ _ _ _).mono ?_
                rintro e w' ⟨rfl, rfl⟩
                refine hK _ _ (regrown_of_below hS0) ?_
                clear hK K
                cases hq11 : inB xs[0].height 0 (min xs[0].height 9000)
                · skip
                  have b2 := inB_false.1 hq11
                  refine wpMix_pure (by kernel_rfl) (fun K hK => ?_); go_big_quiet_op; refine hK _ ?_; clear hK K
                  refine wpMix_pure (by kernel_rfl) (fun K hK => ?_); go_big_quiet_op; refine hK _ ?_; clear hK K
                  refine wpMix_pure (by kernel_rfl) (fun K hK => ?_); go_big_quiet_op; refine hK _ ?_; clear hK K
                  refine wpMix_skip (by kernel_rfl) (fun K hK => ?_)
                  simp only [Act.put, List.setIfInBounds_toArray, List.set_cons_zero, List.set_cons_succ]
                  refine hK _ ?_; clear hK K
                  refine wpMix_skip (by kernel_rfl) (fun K hK => ?_)
                  simp only [Act.put, List.setIfInBounds_toArray, List.set_cons_zero, List.set_cons_succ]
                  refine hK _ ?_; clear hK K
                  refine wpMix_skip (by kernel_rfl) (fun K hK => ?_)
                  simp only [Act.put, List.setIfInBounds_toArray, List.set_cons_zero, List.set_cons_succ]
                  refine hK _ ?_; clear hK K
                  refine wpMix_skip (by kernel_rfl) (fun K hK => ?_)
                  simp only [Act.put, List.setIfInBounds_toArray, List.set_cons_zero, List.set_cons_succ]
                  refine hK _ ?_; clear hK K
                  refine wpMix_skip (by kernel_rfl) (fun K hK => ?_)
                  simp only [Act.put, List.setIfInBounds_toArray, List.set_cons_zero, List.set_cons_succ]
                  refine hK _ ?_; clear hK K
                  refine wpMix_skip (by kernel_rfl) (fun K hK => ?_)
                  simp only [Act.put, List.setIfInBounds_toArray, List.set_cons_zero, List.set_cons_succ]
                  refine hK _ ?_; clear hK K
                  refine wpMix_skip (by kernel_rfl) (fun K hK => ?_)
                  simp only [Act.put, List.setIfInBounds_toArray, List.set_cons_zero, List.set_cons_succ]
                  refine hK _ ?_; clear hK K
                  refine wpMix_skip (by kernel_rfl) (fun K hK => ?_)
                  simp only [Act.put, List.setIfInBounds_toArray, List.set_cons_zero, List.set_cons_succ]
                  refine hK _ ?_; clear hK K
                  refine wpMix_skip (by kernel_rfl) (fun K hK => ?_)
                  simp only [Act.put, List.setIfInBounds_toArray, List.set_cons_zero, List.set_cons_succ]
                  refine hK _ ?_; clear hK K
                  refine wpMix_skip (by kernel_rfl) (fun K hK => ?_)
                  simp only [Act.put, List.setIfInBounds_toArray, List.set_cons_zero, List.set_cons_succ]
                  refine hK _ ?_; clear hK K
                  refine wpMix_skip (by kernel_rfl) (fun K hK => ?_)
                  simp only [Act.put, List.setIfInBounds_toArray, List.set_cons_zero, List.set_cons_succ]
                  refine hK _ ?_; clear hK K
                  refine wpMix_skip (by kernel_rfl) (fun K hK => ?_)
                  simp only [Act.put, List.setIfInBounds_toArray, List.set_cons_zero, List.set_cons_succ]
                  refine hK _ ?_; clear hK K
                  refine wpMix_skip (by kernel_rfl) (fun K hK => ?_)
                  simp only [Act.put, List.setIfInBounds_toArray, List.set_cons_zero, List.set_cons_succ]
                  refine hK _ ?_; clear hK K
                  refine wpMix_pure (by kernel_rfl) (fun K hK => ?_); go_big_quiet_op; refine hK _ ?_; clear hK K
                  refine wpMix_nil ?_
                  go_wp2
                  have HZ : Hid (ptOk xs (0) = false) := by show _ = _; rw [ptOk_zero hlt]; exact ptB_bad (by have := HD.out; omega)
                  go_ret
                  exact ⟨ret_bool (by rw [pathB_bad hlt HZ.out]), hb.trans (hW.trans (hS0.mono hW.size) |>.mono hb.size)⟩
                · skip
                  have b2 := inB_true.1 hq11
                  refine wpMix_pure (by kernel_rfl) (fun K hK => ?_); go_big_quiet_op; refine hK _ ?_; clear hK K
                  refine wpMix_pure (by kernel_rfl) (fun K hK => ?_); go_big_quiet_op; refine hK _ ?_; clear hK K
                  refine wpMix_pure (by kernel_rfl) (fun K hK => ?_); go_big_quiet_op; refine hK _ ?_; clear hK K
                  refine wpMix_pure (by kernel_rfl) (fun K hK => ?_); go_big_quiet_op; refine hK _ ?_; clear hK K
                  refine wpMix_pure (by kernel_rfl) (fun K hK => ?_); go_big_quiet_op; refine hK _ ?_; clear hK K
                  refine wpMix_pure (by kernel_rfl) (fun K hK => ?_); go_big_quiet_op; refine hK _ ?_; clear hK K
                  refine wpMix_skip (by kernel_rfl) (fun K hK => ?_)
                  simp only [Act.put, List.setIfInBounds_toArray, List.set_cons_zero, List.set_cons_succ]
                  refine hK _ ?_; clear hK K
                  refine wpMix_skip (by kernel_rfl) (fun K hK => ?_)
                  simp only [Act.put, List.setIfInBounds_toArray, List.set_cons_zero, List.set_cons_succ]
                  refine hK _ ?_; clear hK K
                  refine wpMix_skip (by kernel_rfl) (fun K hK => ?_)
                  simp only [Act.put, List.setIfInBounds_toArray, List.set_cons_zero, List.set_cons_succ]
                  refine hK _ ?_; clear hK K
                  refine wpMix_skip (by kernel_rfl) (fun K hK => ?_)
                  simp only [Act.put, List.setIfInBounds_toArray, List.set_cons_zero, List.set_cons_succ]
                  refine hK _ ?_; clear hK K
                  refine wpMix_skip (by kernel_rfl) (fun K hK => ?_)
                  simp only [Act.put, List.setIfInBounds_toArray, List.set_cons_zero, List.set_cons_succ]
                  refine hK _ ?_; clear hK K
                  refine wpMix_skip (by kernel_rfl) (fun K hK => ?_)
                  simp only [Act.put, List.setIfInBounds_toArray, List.set_cons_zero, List.set_cons_succ]
                  refine hK _ ?_; clear hK K
                  refine wpMix_skip (by kernel_rfl) (fun K hK => ?_)
                  simp only [Act.put, List.setIfInBounds_toArray, List.set_cons_zero, List.set_cons_succ]
                  refine hK _ ?_; clear hK K
                  refine wpMix_skip (by kernel_rfl) (fun K hK => ?_)
                  simp only [Act.put, List.setIfInBounds_toArray, List.set_cons_zero, List.set_cons_succ]
                  refine hK _ ?_; clear hK K
                  refine wpMix_skip (by kernel_rfl) (fun K hK => ?_)
                  simp only [Act.put, List.setIfInBounds_toArray, List.set_cons_zero, List.set_cons_succ]
                  refine hK _ ?_; clear hK K
                  refine wpMix_pure (by kernel_rfl) (fun K hK => ?_); go_big_quiet_op; refine hK _ ?_; clear hK K
                  refine wpMix_pure (by kernel_rfl) (fun K hK => ?_); go_big_quiet_op; refine hK _ ?_; clear hK K
                  refine wpMix_nil ?_
                  go_wp2
                  have HZ : Hid (ptOk xs (0) = true) := by show _ = _; rw [ptOk_zero hlt]; exact ptB_good (by have := HD.out; omega)
                  go_roundw
                  case rel => exact ⟨0 + 1, by omega, by go_num, allIdx_step H0.out HZ.out, hb.trans (hW.trans (hS0.mono hW.size) |>.mono hb.size)⟩
                  case measure => simp [intOf]; omega
            · obtain ⟨m, rfl⟩ : ∃ m, k = m + 1 := ⟨k - 1, by omega⟩
              have hm : m < xs.length := by omega
              obtain ⟨b, off, hA0, _, hok, hp⟩ := PPathPoint.elem (hx.below' hb) hlt
              injection hA0 with hA0
              injection hA0 with hA0 hA0b _
              subst hA0 hA0b
              obtain ⟨c0, c1⟩ := id hp
              obtain ⟨b1, off1, hA1, _, hokm, hpm⟩ := PPathPoint.elem (hx.below' hb) hm
              injection hA1 with hA1
              injection hA1 with hA1 hA2 _
              subst hA1 hA2
              obtain ⟨b1, off1, hA1, _, hokz, hpz⟩ := PPathPoint.elem (hx.below' hb) h00
              injection hA1 with hA1
              injection hA1 with hA1 hA2 _
              subst hA1 hA2
              rw [Nat.zero_mul, Nat.add_zero] at hpz
              have hnn := ptOk_nonneg H0.out (Nat.lt_succ_self m) hk
              go_wp2
              refine at_world (fun W => Below wr.heap.size wr W ∧ PPathPoint W wr.heap.size 0 xs[m + 1] ∧ PPathPoint W b0 off0 xs[0] ∧ PPathPoint W b0 (off0 + m * 2) xs[m]) ⟨(Below.refl _ _).alloc (Nat.le_refl _) _, PPathPoint.box wr xs[m + 1] _, hpz.below' ((Below.refl _ _).alloc (Nat.le_refl _) _), hpm.below' ((Below.refl _ _).alloc (Nat.le_refl _) _)⟩ ?_
              clear c0 c1 hp hpm hpz
              rintro W ⟨hW, ⟨c0, c1⟩, ⟨d0, d1⟩, ⟨g0, g1⟩⟩
              have gc0 := cell_regrown c0
              have gc1 := cell_regrown c1
              have gd1 := cell_regrown d1
              have gg0 := cell_regrown g0
              refine wp_region_mix (C := fun w' => ∃ p : Regrown, w' = Go.Sort.grow (redrawn W p.d) p.os) [true, true, true, true, true, true, true, true, true, true, true, false, true, true, true, true, true, true, true, true, true, true, true, true, true, true, true, true, true] (by kernel_rfl) (by kernel_rfl) (by kernel_rfl) (fun _ _ d _ _ h => by cases d <;> exact h) (regrown_of_below (Below.drew (Below.refl _ _))) ?_
              have hS0 : Below (W.heap.size) W W.drew := Below.drew (Below.refl _ _)
              refine wpMix_pure (by kernel_rfl) (fun K hK => ?_); go_big_quiet_op; refine hK _ ?_; clear hK K
              refine wpMix_pure (by kernel_rfl) (fun K hK => ?_); go_big_quiet_op; refine hK _ ?_; clear hK K
              by_cases hq2 : (20000 : Int) < xs[m + 1].distance
              · skip
                have e2 : decide ((20000 : Int) < xs[m + 1].distance) = true := by simpa using hq2
                refine wpMix_pure (by kernel_rfl) (fun K hK => ?_); go_big_quiet_op; refine hK _ ?_; clear hK K
                refine wpMix_pure (by kernel_rfl) (fun K hK => ?_); go_big_quiet_op; refine hK _ ?_; clear hK K
                refine wpMix_skip (by kernel_rfl) (fun K hK => ?_)
                simp only [Act.put, List.setIfInBounds_toArray, List.set_cons_zero, List.set_cons_succ]
                refine hK _ ?_; clear hK K
                refine wpMix_skip (by kernel_rfl) (fun K hK => ?_)
                simp only [Act.put, List.setIfInBounds_toArray, List.set_cons_zero, List.set_cons_succ]
                refine hK _ ?_; clear hK K
                refine wpMix_skip (by kernel_rfl) (fun K hK => ?_)
                simp only [Act.put, List.setIfInBounds_toArray, List.set_cons_zero, List.set_cons_succ]
                refine hK _ ?_; clear hK K
                refine wpMix_skip (by kernel_rfl) (fun K hK => ?_)
                simp only [Act.put, List.setIfInBounds_toArray, List.set_cons_zero, List.set_cons_succ]
                refine hK _ ?_; clear hK K
                refine wpMix_skip (by kernel_rfl) (fun K hK => ?_)
                simp only [Act.put, List.setIfInBounds_toArray, List.set_cons_zero, List.set_cons_succ]
                refine hK _ ?_; clear hK K
                refine wpMix_skip (by kernel_rfl) (fun K hK => ?_)
                simp only [Act.put, List.setIfInBounds_toArray, List.set_cons_zero, List.set_cons_succ]
                refine hK _ ?_; clear hK K
                refine wpMix_skip (by kernel_rfl) (fun K hK => ?_)
                simp only [Act.put, List.setIfInBounds_toArray, List.set_cons_zero, List.set_cons_succ]
                refine hK _ ?_; clear hK K
                refine wpMix_skip (by kernel_rfl) (fun K hK => ?_)
                simp only [Act.put, List.setIfInBounds_toArray, List.set_cons_zero, List.set_cons_succ]
                refine hK _ ?_; clear hK K
                refine wpMix_skip (by kernel_rfl) (fun K hK => ?_)
                simp only [Act.put, List.setIfInBounds_toArray, List.set_cons_zero, List.set_cons_succ]
                refine hK _ ?_; clear hK K
                refine wpMix_pure (by kernel_rfl) (fun K hK => ?_); go_big_quiet_op; refine hK _ ?_; clear hK K
                refine wpMix_pure (by kernel_rfl) (fun K hK => ?_); go_big_quiet_op; refine hK _ ?_; clear hK K
                refine wpMix_skip (by kernel_rfl) (fun K hK => ?_)
                simp only [Act.put, List.setIfInBounds_toArray, List.set_cons_zero, List.set_cons_succ]
                refine hK _ ?_; clear hK K
                refine wpMix_skip (by kernel_rfl) (fun K hK => ?_)
                simp only [Act.put, List.setIfInBounds_toArray, List.set_cons_zero, List.set_cons_succ]
                refine hK _ ?_; clear hK K
                refine wpMix_skip (by kernel_rfl) (fun K hK => ?_)
                simp only [Act.put, List.setIfInBounds_toArray, List.set_cons_zero, List.set_cons_succ]
                refine hK _ ?_; clear hK K
                refine wpMix_skip (by kernel_rfl) (fun K hK => ?_)
                simp only [Act.put, List.setIfInBounds_toArray, List.set_cons_zero, List.set_cons_succ]
                refine hK _ ?_; clear hK K
                refine wpMix_skip (by kernel_rfl) (fun K hK => ?_)
                simp only [Act.put, List.setIfInBounds_toArray, List.set_cons_zero, List.set_cons_succ]
                refine hK _ ?_; clear hK K
                refine wpMix_skip (by kernel_rfl) (fun K hK => ?_)
                simp only [Act.put, List.setIfInBounds_toArray, List.set_cons_zero, List.set_cons_succ]
                refine hK _ ?_; clear hK K
                refine wpMix_skip (by kernel_rfl) (fun K hK => ?_)
                simp only [Act.put, List.setIfInBounds_toArray, List.set_cons_zero, List.set_cons_succ]
                refine hK _ ?_; clear hK K
                refine wpMix_skip (by kernel_rfl) (fun K hK => ?_)
                simp only [Act.put, List.setIfInBounds_toArray, List.set_cons_zero, List.set_cons_succ]
                refine hK _ ?_; clear hK K
                refine wpMix_skip (by kernel_rfl) (fun K hK => ?_)
                simp only [Act.put, List.setIfInBounds_toArray, List.set_cons_zero, List.set_cons_succ]
                refine hK _ ?_; clear hK K
                refine wpMix_skip (by kernel_rfl) (fun K hK => ?_)
                simp only [Act.put, List.setIfInBounds_toArray, List.set_cons_zero, List.set_cons_succ]
                refine hK _ ?_; clear hK K
                refine wpMix_skip (by kernel_rfl) (fun K hK => ?_)
                simp only [Act.put, List.setIfInBounds_toArray, List.set_cons_zero, List.set_cons_succ]
                refine hK _ ?_; clear hK K
                refine wpMix_skip (by kernel_rfl) (fun K hK => ?_)
                simp only [Act.put, List.setIfInBounds_toArray, List.set_cons_zero, List.set_cons_succ]
                refine hK _ ?_; clear hK K
                refine wpMix_skip (by kernel_rfl) (fun K hK => ?_)
                simp only [Act.put, List.setIfInBounds_toArray, List.set_cons_zero, List.set_cons_succ]
                refine hK _ ?_; clear hK K
                refine wpMix_pure (by kernel_rfl) (fun K hK => ?_); go_big_quiet_op; refine hK _ ?_; clear hK K
                refine wpMix_nil ?_
                go_wp2
                have HZ : Hid (ptOk xs (m + 1) = false) := by show _ = _; rw [ptOk_succ hlt]; exact ptN_bad (by have := HD.out; omega)
                go_ret
                exact ⟨ret_bool (by rw [pathB_bad hlt HZ.out]), hb.trans (hW.trans (hS0.mono hW.size) |>.mono hb.size)⟩
              · skip
                have e2 : decide ((20000 : Int) < xs[m + 1].distance) = false := by simpa using hq2
                refine wpMix_pure (by kernel_rfl) (fun K hK => ?_); go_big_quiet_op; refine hK _ ?_; clear hK K
                refine wpMix_pure (by kernel_rfl) (fun K hK => ?_); go_big_quiet_op; refine hK _ ?_; clear hK K
                refine wpMix_pure (by kernel_rfl) (fun K hK => ?_); go_big_quiet_op; refine hK _ ?_; clear hK K
                refine wpMix_pure (by kernel_rfl) (fun K hK => ?_); go_big_quiet_op; refine hK _ ?_; clear hK K
                refine wpMix_pure (by kernel_rfl) (fun K hK => ?_); go_big_quiet_op; refine hK _ ?_; clear hK K
                refine wpMix_pure (by kernel_rfl) (fun K hK => ?_); go_big_quiet_op; refine hK _ ?_; clear hK K
                refine wpMix_pure (by kernel_rfl) (fun K hK => ?_); go_big_quiet_op; refine hK _ ?_; clear hK K
                refine wpMix_pure (by kernel_rfl) (fun K hK => ?_); go_big_quiet_op; refine hK _ ?_; clear hK K
                refine wpMix_pure (by kernel_rfl) (fun K hK => ?_); go_big_quiet_op; refine hK _ ?_; clear hK K
                refine wpMix_act (by kernel_rfl) (fun K hK => ?_)
                go_big_op
                refine (withinB_any _ _ _ _).mono ?_
                rintro e w' ⟨rfl, rfl⟩
                refine hK _ _ (regrown_of_below hS0) ?_
                clear hK K
                cases hq11 : inB xs[m + 1].height 0 (min xs[0].height 9000)
                · skip
                  have b2 := inB_false.1 hq11
                  refine wpMix_pure (by kernel_rfl) (fun K hK => ?_); go_big_quiet_op; refine hK _ ?_; clear hK K
                  refine wpMix_pure (by kernel_rfl) (fun K hK => ?_); go_big_quiet_op; refine hK _ ?_; clear hK K
                  refine wpMix_pure (by kernel_rfl) (fun K hK => ?_); go_big_quiet_op; refine hK _ ?_; clear hK K
                  refine wpMix_skip (by kernel_rfl) (fun K hK => ?_)
                  simp only [Act.put, List.setIfInBounds_toArray, List.set_cons_zero, List.set_cons_succ]
                  refine hK _ ?_; clear hK K
                  refine wpMix_skip (by kernel_rfl) (fun K hK => ?_)
                  simp only [Act.put, List.setIfInBounds_toArray, List.set_cons_zero, List.set_cons_succ]
                  refine hK _ ?_; clear hK K
                  refine wpMix_skip (by kernel_rfl) (fun K hK => ?_)
                  simp only [Act.put, List.setIfInBounds_toArray, List.set_cons_zero, List.set_cons_succ]
                  refine hK _ ?_; clear hK K
                  refine wpMix_skip (by kernel_rfl) (fun K hK => ?_)
                  simp only [Act.put, List.setIfInBounds_toArray, List.set_cons_zero, List.set_cons_succ]
                  refine hK _ ?_; clear hK K
                  refine wpMix_skip (by kernel_rfl) (fun K hK => ?_)
                  simp only [Act.put, List.setIfInBounds_toArray, List.set_cons_zero, List.set_cons_succ]
                  refine hK _ ?_; clear hK K
                  refine wpMix_skip (by kernel_rfl) (fun K hK => ?_)
                  simp only [Act.put, List.setIfInBounds_toArray, List.set_cons_zero, List.set_cons_succ]
                  refine hK _ ?_; clear hK K
                  refine wpMix_skip (by kernel_rfl) (fun K hK => ?_)
                  simp only [Act.put, List.setIfInBounds_toArray, List.set_cons_zero, List.set_cons_succ]
                  refine hK _ ?_; clear hK K
                  refine wpMix_skip (by kernel_rfl) (fun K hK => ?_)
                  simp only [Act.put, List.setIfInBounds_toArray, List.set_cons_zero, List.set_cons_succ]
                  refine hK _ ?_; clear hK K
                  refine wpMix_skip (by kernel_rfl) (fun K hK => ?_)
                  simp only [Act.put, List.setIfInBounds_toArray, List.set_cons_zero, List.set_cons_succ]
                  refine hK _ ?_; clear hK K
                  refine wpMix_skip (by kernel_rfl) (fun K hK => ?_)
                  simp only [Act.put, List.setIfInBounds_toArray, List.set_cons_zero, List.set_cons_succ]
                  refine hK _ ?_; clear hK K
                  refine wpMix_skip (by kernel_rfl) (fun K hK => ?_)
                  simp only [Act.put, List.setIfInBounds_toArray, List.set_cons_zero, List.set_cons_succ]
                  refine hK _ ?_; clear hK K
                  refine wpMix_skip (by kernel_rfl) (fun K hK => ?_)
                  simp only [Act.put, List.setIfInBounds_toArray, List.set_cons_zero, List.set_cons_succ]
                  refine hK _ ?_; clear hK K
                  refine wpMix_skip (by kernel_rfl) (fun K hK => ?_)
                  simp only [Act.put, List.setIfInBounds_toArray, List.set_cons_zero, List.set_cons_succ]
                  refine hK _ ?_; clear hK K
                  refine wpMix_pure (by kernel_rfl) (fun K hK => ?_); go_big_quiet_op; refine hK _ ?_; clear hK K
                  refine wpMix_nil ?_
                  go_wp2
                  have HZ : Hid (ptOk xs (m + 1) = false) := by show _ = _; rw [ptOk_succ hlt]; exact ptN_bad (by have := HD.out; omega)
                  go_ret
                  exact ⟨ret_bool (by rw [pathB_bad hlt HZ.out]), hb.trans (hW.trans (hS0.mono hW.size) |>.mono hb.size)⟩
                · skip
                  have b2 := inB_true.1 hq11
                  refine wpMix_pure (by kernel_rfl) (fun K hK => ?_); go_big_quiet_op; refine hK _ ?_; clear hK K
                  refine wpMix_pure (by kernel_rfl) (fun K hK => ?_); go_big_quiet_op; refine hK _ ?_; clear hK K
                  refine wpMix_pure (by kernel_rfl) (fun K hK => ?_); go_big_quiet_op; refine hK _ ?_; clear hK K
                  refine wpMix_pure (by kernel_rfl) (fun K hK => ?_); go_big_quiet_op; refine hK _ ?_; clear hK K
                  refine wpMix_pure (by kernel_rfl) (fun K hK => ?_); go_big_quiet_op; refine hK _ ?_; clear hK K
                  refine wpMix_pure (by kernel_rfl) (fun K hK => ?_); go_big_quiet_op; refine hK _ ?_; clear hK K
                  refine wpMix_pure (by kernel_rfl) (fun K hK => ?_); go_big_quiet_op; refine hK _ ?_; clear hK K
                  refine wpMix_pure (by kernel_rfl) (fun K hK => ?_); go_big_quiet_op; refine hK _ ?_; clear hK K
                  refine wpMix_pure (by kernel_rfl) (fun K hK => ?_); go_big_quiet_op; refine hK _ ?_; clear hK K
                  refine wpMix_pure (by kernel_rfl) (fun K hK => ?_); go_big_quiet_op; refine hK _ ?_; clear hK K
                  refine wpMix_pure (by kernel_rfl) (fun K hK => ?_); go_big_quiet_op; refine hK _ ?_; clear hK K
                  refine wpMix_pure (by kernel_rfl) (fun K hK => ?_); go_big_quiet_op; refine hK _ ?_; clear hK K
                  refine wpMix_pure (by kernel_rfl) (fun K hK => ?_); go_big_quiet_op; refine hK _ ?_; clear hK K
                  refine wpMix_pure (by kernel_rfl) (fun K hK => ?_); go_big_quiet_op; refine hK _ ?_; clear hK K
                  by_cases hq26 : xs[m + 1].distance ≤ xs[m].distance
                  · skip
                    have e31 : decide (xs[m + 1].distance ≤ xs[m].distance) = true := by simpa using hq26
                    refine wpMix_pure (by kernel_rfl) (fun K hK => ?_); go_big_quiet_op; refine hK _ ?_; clear hK K
                    refine wpMix_pure (by kernel_rfl) (fun K hK => ?_); go_big_quiet_op; refine hK _ ?_; clear hK K
                    refine wpMix_pure (by kernel_rfl) (fun K hK => ?_); go_big_quiet_op; refine hK _ ?_; clear hK K
                    refine wpMix_nil ?_
                    go_wp2
                    have HZ : Hid (ptOk xs (m + 1) = false) := by show _ = _; rw [ptOk_succ hlt]; exact ptN_bad (by have := HD.out; omega)
                    go_ret
                    exact ⟨ret_bool (by rw [pathB_bad hlt HZ.out]), hb.trans (hW.trans (hS0.mono hW.size) |>.mono hb.size)⟩
                  · skip
                    have e31 : decide (xs[m + 1].distance ≤ xs[m].distance) = false := by simpa using hq26
                    refine wpMix_pure (by kernel_rfl) (fun K hK => ?_); go_big_quiet_op; refine hK _ ?_; clear hK K
                    refine wpMix_pure (by kernel_rfl) (fun K hK => ?_); go_big_quiet_op; refine hK _ ?_; clear hK K
                    refine wpMix_pure (by kernel_rfl) (fun K hK => ?_); go_big_quiet_op; refine hK _ ?_; clear hK K
                    refine wpMix_nil ?_
                    go_wp2
                    have HZ : Hid (ptOk xs (m + 1) = true) := by show _ = _; rw [ptOk_succ hlt]; exact ptN_good (by have := HD.out; omega)
                    go_roundw
                    case rel => exact ⟨m + 1 + 1, by omega, by go_num, allIdx_step H0.out HZ.out, hb.trans (hW.trans (hS0.mono hW.size) |>.mono hb.size)⟩
                    case measure => simp [intOf]; omega
          · have HF := Lib.hid (allIdx_full (by omega) hk H0.out)
            have HX : Hid (pathB xs = true) := by show _ = _; unfold pathB; rw [HF.out]; simp [h2, h24, HD.out, h00]
            go_wp2
            go_ret
            exact ⟨ret_bool HX.out.symm, hb⟩
      · have e1 : (xs[0].distance != 0) = true := by simp [hd]
        have HX : Hid (pathB xs = false) := by show _ = _; unfold pathB; simp [h2, h24, hd, h00]
        clear hd
        go_enter Tryz.func98, Tryz.ntmps98
        go_wp2
        go_ret
        exact ⟨ret_bool HX.out.symm, Below.refl _ _⟩
    · have HX : Hid (pathB xs = false) := by show _ = _; unfold pathB; rw [decide_eq_false h24]; simp
      go_enter Tryz.func98, Tryz.ntmps98
      go_wp2
      go_ret
      exact ⟨ret_bool HX.out.symm, Below.refl _ _⟩
  · have HX : Hid (pathB xs = false) := by show _ = _; unfold pathB; rw [decide_eq_false h2]; simp
    go_enter Tryz.func98, Tryz.ntmps98
    go_wp2
    go_ret
    exact ⟨ret_bool HX.out.symm, Below.refl _ _⟩
end Go.Proofs.YtldigalncjhkeaaGreatDoor

namespace Go.Proofs.YtldigalncjhkeaaGreatDoor
open Go.RowKit
set_option linter.unusedVariables false

/-! ### strings in a list -/
def memS (s : ByteArray) (xs : List ByteArray) : Bool := xs.any fun x => decide (x = s)
def NotS (xs : List ByteArray) (s : ByteArray) (k : Nat) : Prop := ∀ j (hj : j < k) (h : j < xs.length), xs[j] ≠ s
theorem NotS.zero {xs : List ByteArray} {s : ByteArray} : NotS xs s 0 := fun j hj => absurd hj (Nat.not_lt_zero _)
theorem NotS.step {xs : List ByteArray} {s : ByteArray} {k : Nat} (h : k < xs.length) (he : xs[k] ≠ s) (h0 : NotS xs s k) : NotS xs s (k + 1) := by
  intro j hj hl
  by_cases e : j = k
  · subst e; exact he
  · exact h0 j (by omega) hl
theorem NotS.none {xs : List ByteArray} {s : ByteArray} {k : Nat} (h : xs.length ≤ k) (h0 : NotS xs s k) : memS s xs = false := by
  unfold memS
  rw [List.any_eq_false]
  intro x hm
  obtain ⟨j, hj, e⟩ := List.getElem_of_mem hm
  have := h0 j (by omega) hj
  rw [e] at this
  simpa using this
theorem inS {xs : List ByteArray} {s : ByteArray} {k : Nat} (h : k < xs.length) (he : xs[k] = s) : memS s xs = true := by
  unfold memS
  rw [List.any_eq_true]
  exact ⟨xs[k], List.getElem_mem h, by simpa using he⟩
theorem memS_true {xs : List ByteArray} {s : ByteArray} : memS s xs = true ↔ s ∈ xs := by
  unfold memS; rw [List.any_eq_true]
  constructor
  · rintro ⟨x, hx, he⟩
    have he := of_decide_eq_true he
    subst he; exact hx
  · intro h; exact ⟨s, h, decide_eq_true rfl⟩
def memI (n : Int) (xs : List Int) : Bool := xs.any fun x => decide (x = n)
def NotI (xs : List Int) (n : Int) (k : Nat) : Prop := ∀ j (hj : j < k) (h : j < xs.length), xs[j] ≠ n
theorem NotI.zero {xs : List Int} {n : Int} : NotI xs n 0 := fun j hj => absurd hj (Nat.not_lt_zero _)
theorem NotI.step {xs : List Int} {n : Int} {k : Nat} (h : k < xs.length) (he : xs[k] ≠ n) (h0 : NotI xs n k) : NotI xs n (k + 1) := by
  intro j hj hl
  by_cases e : j = k
  · subst e; exact he
  · exact h0 j (by omega) hl
theorem NotI.none {xs : List Int} {n : Int} {k : Nat} (h : xs.length ≤ k) (h0 : NotI xs n k) : memI n xs = false := by
  unfold memI
  rw [List.any_eq_false]
  intro x hm
  obtain ⟨j, hj, e⟩ := List.getElem_of_mem hm
  have := h0 j (by omega) hj
  rw [e] at this
  simpa using this
theorem inI {xs : List Int} {n : Int} {k : Nat} (h : k < xs.length) (he : xs[k] = n) : memI n xs = true := by
  unfold memI
  rw [List.any_eq_true]
  exact ⟨xs[k], List.getElem_mem h, by simpa using he⟩
theorem memI_true {xs : List Int} {n : Int} : memI n xs = true ↔ n ∈ xs := by
  unfold memI; rw [List.any_eq_true]
  constructor
  · rintro ⟨x, hx, he⟩
    have he := of_decide_eq_true he
    subst he; exact hx
  · intro h; exact ⟨n, h, decide_eq_true rfl⟩
set_option maxRecDepth 100000 in
set_option maxHeartbeats 2000000 in
theorem indexS_any (v : Value) (xs : List ByteArray) (fp : List Nat) (s : ByteArray) (w : World) (hx : Sl fStr.cod w v xs fp) :
    Calls Tryz.prog 173 #[v, .string s] w fun e w' => ∃ r : Int, e = .returned (.int .i64 r) ∧ decide (0 ≤ r) = memS s xs ∧ w = w' := by
  obtain ⟨A, cap, rfl, hlen, hcap⟩ := hx.form
  go_enter Tryz.func173, Tryz.ntmps173
  go_wp2
  go_loop [8] (fun i => ∃ k : Nat, k ≤ xs.length ∧ i = .int .i64 k ∧ Hid (NotS xs s k)) (fun i => xs.length - (intOf i).toNat)
  case atStart => exact ⟨0, Nat.zero_le _, rfl, NotS.zero⟩
  case round =>
    obtain ⟨k, hk, rfl, H0⟩ := hrel
    by_cases hlt : k < xs.length
    · obtain ⟨b, off, rfl, _, hok, hc, _⟩ := hx.cell1 rfl hlt rfl
      by_cases he : xs[k] = s
      · have HF := Lib.hid (inS hlt he)
        have e6 : (s.toList == xs[k].toList) = true := eqS_true.2 he.symm
        clear he
        go_wp2
        go_ret
        exact ⟨_, rfl, by rw [HF.out, decide_eq_true_eq]; omega, rfl⟩
      · have HS := Lib.hid (NotS.step hlt he H0.out)
        have e6 : (s.toList == xs[k].toList) = false := bytes_beq_false (fun e => he e.symm)
        clear he
        go_wp2
        go_round
        case rel => exact ⟨k + 1, by omega, by go_num, HS⟩
        case measure => simp [intOf]; omega
    · have HF := Lib.hid (NotS.none (by omega) H0.out)
      go_wp2
      go_ret
      exact ⟨_, rfl, by rw [HF.out]; rfl, rfl⟩
set_option maxRecDepth 100000 in
set_option maxHeartbeats 2000000 in
theorem containsS_any (v : Value) (xs : List ByteArray) (fp : List Nat) (s : ByteArray) (w : World) (hx : Sl fStr.cod w v xs fp) :
    Calls Tryz.prog 161 #[v, .string s] w fun e w' => e = .returned (.bool (memS s xs)) ∧ w = w' := by
  go_enter Tryz.func161, Tryz.ntmps161
  go_wp2_with fail
  refine (indexS_any v xs fp s w hx).mono ?_
  rintro e w1 ⟨r, rfl, hr, rfl⟩
  have HR := Lib.hid hr
  clear hr
  go_wp2
  go_ret
  exact ⟨ret_bool HR.out, rfl⟩
end Go.Proofs.YtldigalncjhkeaaGreatDoor

namespace Go.Proofs.YtldigalncjhkeaaGreatDoor
open Go.RowKit
set_option linter.unusedVariables false

/-- The first place of a region with a name, or -1. -/
def FindR (xs : List DRegion) (s : ByteArray) (r : Int) : Prop :=
  (r = -1 ∧ ∀ j (h : j < xs.length), xs[j].id ≠ s) ∨ (∃ k : Nat, r = k ∧ ∃ h : k < xs.length, xs[k].id = s ∧ ∀ j (hj : j < k), (xs[j]'(by omega)).id ≠ s)
def NotB (xs : List DRegion) (s : ByteArray) (k : Nat) : Prop := ∀ j (hj : j < k) (h : j < xs.length), xs[j].id ≠ s
theorem NotB.zero {xs : List DRegion} {s : ByteArray} : NotB xs s 0 := fun j hj => absurd hj (Nat.not_lt_zero _)
theorem NotB.step {xs : List DRegion} {s : ByteArray} {k : Nat} (h : k < xs.length) (he : xs[k].id ≠ s) (h0 : NotB xs s k) : NotB xs s (k + 1) := by
  intro j hj hl
  by_cases e : j = k
  · subst e; exact he
  · exact h0 j (by omega) hl
theorem findR_at {xs : List DRegion} {s : ByteArray} {k : Nat} (h : k < xs.length) (he : xs[k].id = s) (h0 : NotB xs s k) : FindR xs s (k : Int) :=
  .inr ⟨k, rfl, h, he, fun j hj => h0 j hj (by omega)⟩
theorem findR_none {xs : List DRegion} {s : ByteArray} {k : Nat} (h : xs.length ≤ k) (h0 : NotB xs s k) : FindR xs s (-1) :=
  .inl ⟨rfl, fun j hj => h0 j (by omega) hj⟩
def FindW (xs : List DRegion) (s : ByteArray) (w : World) (e : Ending) (w' : World) : Prop := ∃ r : Int, e = .returned (.int .i64 r) ∧ FindR xs s r ∧ Below w.heap.size w w'
set_option maxRecDepth 100000 in
set_option maxHeartbeats 2000000 in
theorem l18Find_any (v : Value) (xs : List DRegion) (fp : List Nat) (s : ByteArray) (w : World) (hx : Sl cRegion w v xs fp) :
    Calls Tryz.prog 125 #[v, .string s] w fun e w' => FindW xs s w e w' := by
  obtain ⟨A, cap, rfl, hlen, hcap⟩ := hx.form
  go_enter Tryz.func125, Tryz.ntmps125
  go_wp2
  go_loop [5] (fun i => ∃ k : Nat, k ≤ xs.length ∧ i = .int .i64 k ∧ Hid (NotB xs s k)) (fun i => xs.length - (intOf i).toNat)
  case atStart => exact ⟨0, Nat.zero_le _, rfl, NotB.zero⟩
  case round =>
    obtain ⟨k, hk, rfl, H0⟩ := hrel
    by_cases hlt : k < xs.length
    · obtain ⟨b, off, vk, fk, rfl, c0, _⟩ := hx.reg hlt
      by_cases he : xs[k].id = s
      · have HF := Lib.hid (findR_at hlt he H0.out)
        have e6 : (xs[k].id.toList == s.toList) = true := eqS_true.2 he
        clear he
        go_wp2
        go_ret
        exact ⟨_, rfl, HF.out, Below.refl _ _⟩
      · have HS := Lib.hid (NotB.step hlt he H0.out)
        have e6 : (xs[k].id.toList == s.toList) = false := bytes_beq_false he
        clear he
        go_wp2
        go_round
        case rel => exact ⟨k + 1, by omega, by go_num, HS⟩
        case measure => simp [intOf]; omega
    · have HF := Lib.hid (findR_none (by omega) H0.out)
      go_wp2
      go_ret
      exact ⟨_, rfl, HF.out, Below.refl _ _⟩
set_option maxRecDepth 100000 in
set_option maxHeartbeats 2000000 in
theorem regionAt1_any (x : DRegion) (v : Value) (s : ByteArray) (a : Addr) (w : World) (h : w.cell? a = some (.string s)) (hv : ∃ A n c, v = .slice A n c) :
    Calls Tryz.prog 172 #[.agg #[.string x.id, .int .i64 x.level, v], .pointer (some a)] w fun e w' => e = .returned (.bool (x.id.toList == s.toList)) ∧ Below w.heap.size w w' := by
  obtain ⟨A, n, c, rfl⟩ := hv
  have h' := ((Below.refl w.heap.size w).alloc (Nat.le_refl _) (.cells #[.string x.id, .int .i64 x.level, .slice A n c] 161)).cell (p := a) (block_lt_of_cell h) |>.trans h
  go_enter Tryz.func172, Tryz.ntmps172
  go_wp2
  go_ret
  exact ⟨rfl, (Below.refl _ _).alloc (Nat.le_refl _) _⟩
set_option maxRecDepth 100000 in
set_option maxHeartbeats 2000000 in
theorem indexR_any (v : Value) (xs : List DRegion) (fp : List Nat) (s : ByteArray) (a : Addr) (w : World) (hx : Sl cRegion w v xs fp) (h : w.cell? a = some (.string s)) :
    Calls Tryz.prog 171 #[v, .func (.func 172) #[] #[.pointer (some a)]] w fun e w' => FindW xs s w e w' := by
  obtain ⟨A, cap, rfl, hlen, hcap⟩ := hx.form
  go_enter Tryz.func171, Tryz.ntmps171
  go_wp2
  go_loopw [8] (fun i wr => ∃ k : Nat, k ≤ xs.length ∧ i = .int .i64 k ∧ Hid (NotB xs s k) ∧ Below w.heap.size w wr) (fun i _ => xs.length - (intOf i).toNat)
  case atStart => exact ⟨0, Nat.zero_le _, rfl, NotB.zero, Below.refl _ _⟩
  case round =>
    obtain ⟨k, hk, rfl, H0, hb⟩ := hrel
    by_cases hlt : k < xs.length
    · obtain ⟨b, off, vk, fk, rfl, c0, c1, c2, hs0, _⟩ := (hx.below' hb).reg hlt
      obtain ⟨A1, cap1, rfl, _, _⟩ := hs0.form
      go_wp2_with fail
      refine (regionAt1_any xs[k] _ s a _ ((hb.cell (block_lt_of_cell h)).trans h) ⟨_, _, _, rfl⟩).mono ?_
      rintro e w1 ⟨rfl, hb1⟩
      have hb2 := hb.trans (hb1.mono hb.size)
      by_cases he : xs[k].id = s
      · have HF := Lib.hid (findR_at hlt he H0.out)
        have e6 : (xs[k].id.toList == s.toList) = true := eqS_true.2 he
        clear he
        go_wp2
        go_ret
        exact ⟨_, rfl, HF.out, hb2⟩
      · have HS := Lib.hid (NotB.step hlt he H0.out)
        have e6 : (xs[k].id.toList == s.toList) = false := bytes_beq_false he
        clear he
        go_wp2
        go_roundw
        case rel => exact ⟨k + 1, by omega, by go_num, HS, hb2⟩
        case measure => simp [intOf]; omega
    · have HF := Lib.hid (findR_none (by omega) H0.out)
      go_wp2
      go_ret
      exact ⟨_, rfl, HF.out, hb⟩
set_option maxRecDepth 100000 in
set_option maxHeartbeats 2000000 in
theorem regionAt_any (v : Value) (xs : List DRegion) (fp : List Nat) (s : ByteArray) (w : World) (hx : Sl cRegion w v xs fp) :
    Calls Tryz.prog 160 #[v, .string s] w fun e w' => FindW xs s w e w' := by
  have hmf : ∀ (fn : Fn) (first cap : Array Value) (W : World), (Instr.makeFunc fn first cap).run Tryz.prog W = .ok (.func fn first cap) W := fun _ _ _ _ => rfl
  have hB : Below w.heap.size w (w.alloc (.cells #[.string s] 9)) := (Below.refl _ _).alloc (Nat.le_refl _) _
  have hx2 := hx.below' hB
  go_enter Tryz.func160, Tryz.ntmps160
  go_wp2_with fail
  refine (indexR_any v xs fp s _ _ hx2 (by simp)).mono ?_
  rintro e w1 ⟨r, rfl, hr, hb⟩
  go_wp2
  go_ret
  exact ⟨r, rfl, hr, hB.trans (hb.mono hB.size)⟩
set_option maxRecDepth 100000 in
set_option maxHeartbeats 2000000 in
theorem l18Near_any (pb po : Nat) (v : Value) (xs : List ByteArray) (fp : List Nat) (s : ByteArray) (w : World) (c2 : w.cell? ⟨pb, po + 2, none⟩ = some v) (hx : Sl fStr.cod w v xs fp) :
    Calls Tryz.prog 126 #[.pointer (some ⟨pb, po, none⟩), .string s] w fun e w' => e = .returned (.bool (memS s xs)) ∧ w = w' := by
  obtain ⟨A, cap, rfl, hlen, hcap⟩ := hx.form
  go_enter Tryz.func126, Tryz.ntmps126
  go_wp2
  go_loop [5] (fun i => ∃ k : Nat, k ≤ xs.length ∧ i = .int .i64 k ∧ Hid (NotS xs s k)) (fun i => xs.length - (intOf i).toNat)
  case atStart => exact ⟨0, Nat.zero_le _, rfl, NotS.zero⟩
  case round =>
    obtain ⟨k, hk, rfl, H0⟩ := hrel
    by_cases hlt : k < xs.length
    · obtain ⟨b, off, rfl, _, hok, hc, _⟩ := hx.cell1 rfl hlt rfl
      by_cases he : xs[k] = s
      · have HF := Lib.hid (inS hlt he)
        have e6 : (xs[k].toList == s.toList) = true := eqS_true.2 he
        clear he
        go_wp2
        go_ret
        exact ⟨ret_bool HF.out.symm, rfl⟩
      · have HS := Lib.hid (NotS.step hlt he H0.out)
        have e6 : (xs[k].toList == s.toList) = false := bytes_beq_false he
        clear he
        go_wp2
        go_round
        case rel => exact ⟨k + 1, by omega, by go_num, HS⟩
        case measure => simp [intOf]; omega
    · have HF := Lib.hid (NotS.none (by omega) H0.out)
      go_wp2
      go_ret
      exact ⟨ret_bool HF.out.symm, rfl⟩
def isNearB (xs : List DRegion) (s t : ByteArray) : Bool := match xs.find? (fun x => decide (x.id = s)) with | some x => memS t x.near | none => false
theorem isNearB_none {xs : List DRegion} {s t : ByteArray} (h : ∀ j (h : j < xs.length), xs[j].id ≠ s) : isNearB xs s t = false := by
  unfold isNearB
  have : xs.find? (fun x => decide (x.id = s)) = none := by
    rw [List.find?_eq_none]
    intro x hx
    obtain ⟨j, hj, e⟩ := List.getElem_of_mem hx
    have := h j hj
    rw [e] at this
    simpa using this
  rw [this]
theorem isNearB_at {xs : List DRegion} {s t : ByteArray} {k : Nat} (h : k < xs.length) (he : xs[k].id = s) (h0 : ∀ j (hj : j < k), (xs[j]'(by omega)).id ≠ s) : isNearB xs s t = memS t xs[k].near := by
  unfold isNearB
  have : xs.find? (fun x => decide (x.id = s)) = some xs[k] := by
    rw [List.find?_eq_some_iff_getElem]
    exact ⟨by simpa using he, k, h, rfl, fun j hj => by have := h0 j hj; simpa using this⟩
  rw [this]
set_option maxRecDepth 100000 in
set_option maxHeartbeats 2000000 in
theorem isNear_any (v : Value) (xs : List DRegion) (fp : List Nat) (s t : ByteArray) (w : World) (hx : Sl cRegion w v xs fp) :
    Calls Tryz.prog 141 #[v, .string s, .string t] w fun e w' => e = .returned (.bool (isNearB xs s t)) ∧ Below w.heap.size w w' := by
  obtain ⟨A, cap, rfl, hlen, hcap⟩ := hx.form
  go_enter Tryz.func141, Tryz.ntmps141
  go_wp2_with fail
  refine (regionAt_any _ xs fp s w hx).mono ?_
  rintro e w1 ⟨r, rfl, hr, hb⟩
  rcases hr with ⟨rfl, hn⟩ | ⟨k, rfl, hlt, he, h0⟩
  · have HX := Lib.hid (isNearB_none (t := t) hn)
    clear hn
    go_wp2
    go_ret
    exact ⟨ret_bool HX.out.symm, hb⟩
  · have HX := Lib.hid (isNearB_at (t := t) hlt he h0)
    clear he h0
    obtain ⟨b, off, vk, fk, rfl, c0, c1, c2, hs0, _⟩ := (hx.below' hb).reg hlt
    go_wp2_with fail
    refine (containsS_any _ _ _ t _ hs0).mono ?_
    rintro e w2 ⟨rfl, rfl⟩
    go_wp2
    go_ret
    exact ⟨ret_bool HX.out.symm, hb⟩
end Go.Proofs.YtldigalncjhkeaaGreatDoor
