
/- Valid days: contracts. Written by wip/gen/ud.py. -/
import Derived.Test.YtpebibegdeioeaaUc
import Derived.Deep.CutRange
namespace Go.Proofs.Ytpebibegdeioeaa
open Go.RowKit
set_option linter.unusedVariables false

theorem ltS_of_le (a b : ByteArray) : ltS a b = !(Op.bytesLess b.toList a.toList || b.toList == a.toList) := by
  rw [leS_eq, Bool.not_not]
def assetsV (g : DGrid) (xs : List DAsset) : Bool := gridB g && (decide (xs.length ≤ 12) && assetsB (g.he.length : Int) xs)
set_option maxRecDepth 100000 in
set_option maxHeartbeats 8000000 in
theorem ValidAssets_any (g : DGrid) (vg v : Value) (xs : List DAsset) (fpg fp : List Nat) (w : World) (hs : Sl fInt.cod w vg g.he fpg) (hx : Sl cAsset w v xs fp) :
    Calls Try.prog 24 #[gAg g vg, v] w fun e w' => e = .returned (.bool (assetsV g xs)) ∧ Below w.heap.size w w' := by
  obtain ⟨A, cap, rfl, hlen, hcap⟩ := hs.form
  obtain ⟨A', cap', rfl, hlen', hcap'⟩ := hx.form
  have hB : Below w.heap.size w (w.alloc (.cells #[.int .i64 g.rows, .int .i64 g.columns, .int .i64 g.size, .slice A g.he.length cap] 33)) := (Below.refl _ _).alloc (Nat.le_refl _) _
  have pg := gbox_new w g (.slice A g.he.length cap) 33
  replace hs := hs.below' hB
  replace hx := hx.below' hB
  unfold gAg
  go_enter Try.func24, Try.ntmps24
  go_wp2_with fail
  generalize w.alloc (.cells #[.int .i64 g.rows, .int .i64 g.columns, .int .i64 g.size, .slice A g.he.length cap] 33) = w0 at *
  obtain ⟨c0, c1, c2, c3⟩ := id pg
  simp only [Nat.zero_add] at c0 c1 c2 c3
  refine (ValidGrid_any g _ _ _ hs).mono ?_
  rintro e w1 ⟨rfl, hb1⟩
  have hB1 := hB.trans (hb1.mono hB.size)
  cases h1 : gridB g
  · have HV : Hid (assetsV g xs = false) := by show _ = _; unfold assetsV; rw [h1]; rfl
    go_wp2
    go_ret
    exact ⟨ret_bool HV.out.symm, hB1⟩
  replace pg := pg.below' hb1
  replace hx := hx.below' hb1
  clear hs hb1 hB c0 c1 c2 c3
  have hG := gridP_of h1
  have Hmul : Hid (1 ≤ (g.he.length : Int) ∧ (g.he.length : Int) ≤ 64) := by show _ ∧ _; have := hG.len; omega
  have HG := Lib.hid h1
  clear hG h1
  by_cases h12 : xs.length ≤ 12
  rotate_left
  · have HV : Hid (assetsV g xs = false) := by show _ = _; unfold assetsV; rw [decide_eq_false h12]; simp
    go_wp2
    go_ret
    exact ⟨ret_bool HV.out.symm, hB1⟩
  have HN0 : Hid (decide (xs.length ≤ 12) = true) := decide_eq_true h12
  go_wp2
  go_loopw [17] (fun i wr => ∃ k : Nat, k ≤ xs.length ∧ i = .int .i64 k ∧ Hid (allIdx (assetOk (g.he.length : Int) xs) k = true) ∧ Below w.heap.size w wr ∧ Below w1.heap.size w1 wr) (fun i _ => xs.length - (intOf i).toNat)
  case atStart => exact ⟨0, Nat.zero_le _, rfl, rfl, hB1, Below.refl _ _⟩
  case round =>
    obtain ⟨k, hk, rfl, H0, hb, hbp0⟩ := hrel
    replace hx := hx.below' hbp0
    replace hx : ∀ W, Below wr.heap.size wr W → Sl cAsset W (.slice A' xs.length cap') xs fp := fun W hW => hx.below' hW
    have hx := hx wr (Below.refl _ _)
    by_cases hlt : k < xs.length
    · rcases Nat.eq_zero_or_pos k with rfl | hpos
      · skip
        obtain ⟨b, off, vk, fk, rfl, hc0, hc1, hc2, hs0, _, _, hok, hoi⟩ := hx.ast hlt
        obtain ⟨A1, q1, rfl, h1l, h1c⟩ := hs0.form
        have hbw := (Below.refl wr.heap.size wr).alloc (Nat.le_refl _) (.cells #[.string xs[0].id, .slice A1 xs[0].cells.length q1, .int .i64 xs[0].worth] 86)
        simp only [Nat.zero_mul, Nat.add_zero] at hc0 hc1 hc2
        go_wp2
        refine at_world (fun W => Below w.heap.size w W ∧ PAsset W wr.heap.size 0 (.slice A1 xs[0].cells.length q1) xs[0] ∧ Below wr.heap.size wr W ∧ Below w1.heap.size w1 W) ⟨hb.alloc hb.size _, by constructor <;> simp, hbw, hbp0.trans (hbw.mono hbp0.size)⟩ ?_
        rintro W1 ⟨hb1, hpx, hbw1, hbp⟩
        have q0 := hpx.c0
        have q1' := hpx.c1
        have q2 := hpx.c2
        have e3 := (pg.below' hbp).c3
        simp only [Nat.zero_add] at q0 q1' q2 e3
        replace hs0 := hs0.below' hbw1
        clear hc0 hc1 hc2 hbw
        have gq0 := cell_regrown q0
        have gq1' := cell_regrown q1'
        have gq2 := cell_regrown q2
        have ge3 := cell_regrown e3
        refine wp_region_mix (C := fun w' => ∃ p : Regrown, w' = Go.Sort.grow (redrawn W1 p.d) p.os) [true, true, true, true, false, true, true, true, true, true, true, true, true, true, true, true, true, true, true, true, true] (by kernel_rfl) (by kernel_rfl) (by kernel_rfl) (fun _ _ d _ _ h => by cases d <;> exact h) (regrown_of_below (Below.drew (Below.refl _ _))) ?_
        have hS0 : Below (W1.heap.size) W1 W1.drew := Below.drew (Below.refl _ _)
        refine wpMix_pure (by kernel_rfl) (fun K hK => ?_)
        go_big_quiet_op
        refine hK _ ?_; clear hK K
        refine wpMix_pure (by kernel_rfl) (fun K hK => ?_)
        go_big_quiet_op
        refine hK _ ?_; clear hK K
        refine wpMix_pure (by kernel_rfl) (fun K hK => ?_)
        go_big_quiet_op
        refine hK _ ?_; clear hK K
        refine wpMix_pure (by kernel_rfl) (fun K hK => ?_)
        go_big_quiet_op
        refine hK _ ?_; clear hK K
        refine wpMix_act (by kernel_rfl) (fun K hK => ?_)
        go_big_op
        refine (fits_any xs[0] _ _ fk _ (hs0.below' hS0) hok Hmul.out).mono ?_
        rintro e wr1 ⟨rfl, hbr1⟩
        have hbr1S : Below (W1.heap.size) W1 wr1 := hS0.trans (hbr1.mono hS0.size)
        refine hK _ _ (regrown_of_below hbr1S) ?_
        clear hK K
        cases hq4 : assetB (g.he.length : Int) xs[0]
        · skip
          refine wpMix_pure (by kernel_rfl) (fun K hK => ?_)
          go_big_quiet_op
          refine hK _ ?_; clear hK K
          refine wpMix_pure (by kernel_rfl) (fun K hK => ?_)
          go_big_quiet_op
          refine hK _ ?_; clear hK K
          refine wpMix_skip (by kernel_rfl) (fun K hK => ?_)
          simp only [Act.put, List.setIfInBounds_toArray, List.set_cons_zero, List.set_cons_succ]
          refine hK _ ?_; clear hK K
          refine wpMix_skip (by kernel_rfl) (fun K hK => ?_)
          simp only [Act.put, List.setIfInBounds_toArray, List.set_cons_zero, List.set_cons_succ]
          refine hK _ ?_; clear hK K
          refine wpMix_skip (by kernel_rfl) (fun K hK => ?_)
          simp only [Act.put, List.setIfInBounds_toArray, List.set_cons_zero, List.set_cons_succ]
          refine hK _ ?_; clear hK K
          refine wpMix_skip (by kernel_rfl) (fun K hK => ?_)
          simp only [Act.put, List.setIfInBounds_toArray, List.set_cons_zero, List.set_cons_succ]
          refine hK _ ?_; clear hK K
          refine wpMix_skip (by kernel_rfl) (fun K hK => ?_)
          simp only [Act.put, List.setIfInBounds_toArray, List.set_cons_zero, List.set_cons_succ]
          refine hK _ ?_; clear hK K
          refine wpMix_skip (by kernel_rfl) (fun K hK => ?_)
          simp only [Act.put, List.setIfInBounds_toArray, List.set_cons_zero, List.set_cons_succ]
          refine hK _ ?_; clear hK K
          refine wpMix_skip (by kernel_rfl) (fun K hK => ?_)
          simp only [Act.put, List.setIfInBounds_toArray, List.set_cons_zero, List.set_cons_succ]
          refine hK _ ?_; clear hK K
          refine wpMix_skip (by kernel_rfl) (fun K hK => ?_)
          simp only [Act.put, List.setIfInBounds_toArray, List.set_cons_zero, List.set_cons_succ]
          refine hK _ ?_; clear hK K
          refine wpMix_skip (by kernel_rfl) (fun K hK => ?_)
          simp only [Act.put, List.setIfInBounds_toArray, List.set_cons_zero, List.set_cons_succ]
          refine hK _ ?_; clear hK K
          refine wpMix_skip (by kernel_rfl) (fun K hK => ?_)
          simp only [Act.put, List.setIfInBounds_toArray, List.set_cons_zero, List.set_cons_succ]
          refine hK _ ?_; clear hK K
          refine wpMix_skip (by kernel_rfl) (fun K hK => ?_)
          simp only [Act.put, List.setIfInBounds_toArray, List.set_cons_zero, List.set_cons_succ]
          refine hK _ ?_; clear hK K
          refine wpMix_skip (by kernel_rfl) (fun K hK => ?_)
          simp only [Act.put, List.setIfInBounds_toArray, List.set_cons_zero, List.set_cons_succ]
          refine hK _ ?_; clear hK K
          refine wpMix_skip (by kernel_rfl) (fun K hK => ?_)
          simp only [Act.put, List.setIfInBounds_toArray, List.set_cons_zero, List.set_cons_succ]
          refine hK _ ?_; clear hK K
          refine wpMix_pure (by kernel_rfl) (fun K hK => ?_)
          go_big_quiet_op
          refine hK _ ?_; clear hK K
          refine wpMix_nil ?_
          have HX : Hid (assetsB (g.he.length : Int) xs = false) := assetsB_bad hlt (by rw [assetOk_zero hlt]; simp [*])
          have HBX := hb1.trans (hbr1S.mono hb1.size)
          go_wp2
          go_ret
          exact ⟨ret_bool (by unfold assetsV; rw [HG.out, HN0.out, HX.out]; rfl), HBX⟩
        · skip
          refine wpMix_pure (by kernel_rfl) (fun K hK => ?_)
          go_big_quiet_op
          refine hK _ ?_; clear hK K
          refine wpMix_pure (by kernel_rfl) (fun K hK => ?_)
          go_big_quiet_op
          refine hK _ ?_; clear hK K
          refine wpMix_pure (by kernel_rfl) (fun K hK => ?_)
          go_big_quiet_op
          refine hK _ ?_; clear hK K
          refine wpMix_pure (by kernel_rfl) (fun K hK => ?_)
          go_big_quiet_op
          refine hK _ ?_; clear hK K
          refine wpMix_pure (by kernel_rfl) (fun K hK => ?_)
          go_big_quiet_op
          refine hK _ ?_; clear hK K
          refine wpMix_skip (by kernel_rfl) (fun K hK => ?_)
          simp only [Act.put, List.setIfInBounds_toArray, List.set_cons_zero, List.set_cons_succ]
          refine hK _ ?_; clear hK K
          refine wpMix_skip (by kernel_rfl) (fun K hK => ?_)
          simp only [Act.put, List.setIfInBounds_toArray, List.set_cons_zero, List.set_cons_succ]
          refine hK _ ?_; clear hK K
          refine wpMix_skip (by kernel_rfl) (fun K hK => ?_)
          simp only [Act.put, List.setIfInBounds_toArray, List.set_cons_zero, List.set_cons_succ]
          refine hK _ ?_; clear hK K
          refine wpMix_skip (by kernel_rfl) (fun K hK => ?_)
          simp only [Act.put, List.setIfInBounds_toArray, List.set_cons_zero, List.set_cons_succ]
          refine hK _ ?_; clear hK K
          refine wpMix_skip (by kernel_rfl) (fun K hK => ?_)
          simp only [Act.put, List.setIfInBounds_toArray, List.set_cons_zero, List.set_cons_succ]
          refine hK _ ?_; clear hK K
          refine wpMix_skip (by kernel_rfl) (fun K hK => ?_)
          simp only [Act.put, List.setIfInBounds_toArray, List.set_cons_zero, List.set_cons_succ]
          refine hK _ ?_; clear hK K
          refine wpMix_skip (by kernel_rfl) (fun K hK => ?_)
          simp only [Act.put, List.setIfInBounds_toArray, List.set_cons_zero, List.set_cons_succ]
          refine hK _ ?_; clear hK K
          refine wpMix_skip (by kernel_rfl) (fun K hK => ?_)
          simp only [Act.put, List.setIfInBounds_toArray, List.set_cons_zero, List.set_cons_succ]
          refine hK _ ?_; clear hK K
          refine wpMix_skip (by kernel_rfl) (fun K hK => ?_)
          simp only [Act.put, List.setIfInBounds_toArray, List.set_cons_zero, List.set_cons_succ]
          refine hK _ ?_; clear hK K
          refine wpMix_pure (by kernel_rfl) (fun K hK => ?_)
          go_big_quiet_op
          refine hK _ ?_; clear hK K
          refine wpMix_pure (by kernel_rfl) (fun K hK => ?_)
          go_big_quiet_op
          refine hK _ ?_; clear hK K
          refine wpMix_nil ?_
          have HN : Hid (allIdx (assetOk (g.he.length : Int) xs) (0 + 1) = true) := allIdx_step H0.out (by rw [assetOk_zero hlt]; simp [*])
          have HBX := hb1.trans (hbr1S.mono hb1.size)
          have HPX := hbp.trans (hbr1S.mono (Nat.le_trans hbp.size (Nat.le_refl _)))
          go_wp2
          go_roundw
          case rel => exact ⟨0 + 1, by omega, by go_num, HN, HBX, HPX⟩
          case measure => simp [intOf]; omega

      · obtain ⟨m, rfl⟩ : ∃ m, k = m + 1 := ⟨k - 1, by omega⟩
        have hm : m < xs.length := by omega
        obtain ⟨b, off, vk, fk, rfl, hc0, hc1, hc2, hs0, _, _, hok, hoi⟩ := hx.ast hlt
        obtain ⟨A1, q1, rfl, h1l, h1c⟩ := hs0.form
        have hbw := (Below.refl wr.heap.size wr).alloc (Nat.le_refl _) (.cells #[.string xs[m + 1].id, .slice A1 xs[m + 1].cells.length q1, .int .i64 xs[m + 1].worth] 86)
        obtain ⟨b1, off1, v1, f1, hA1, hd0, _⟩ := hx.ast hm
        injection hA1 with hA1
        injection hA1 with hA1 hA2 _
        subst hA1 hA2
        go_wp2
        refine at_world (fun W => Below w.heap.size w W ∧ PAsset W wr.heap.size 0 (.slice A1 xs[m + 1].cells.length q1) xs[m + 1] ∧ Below wr.heap.size wr W ∧ Below w1.heap.size w1 W) ⟨hb.alloc hb.size _, by constructor <;> simp, hbw, hbp0.trans (hbw.mono hbp0.size)⟩ ?_
        rintro W1 ⟨hb1, hpx, hbw1, hbp⟩
        have q0 := hpx.c0
        have q1' := hpx.c1
        have q2 := hpx.c2
        have e3 := (pg.below' hbp).c3
        have hd1 := (hbw1.cell (p := ⟨b, off + m * 3, none⟩) (block_lt_of_cell hd0)).trans hd0
        simp only [Nat.zero_add] at q0 q1' q2 e3
        replace hs0 := hs0.below' hbw1
        clear hc0 hc1 hc2 hbw
        have gq0 := cell_regrown q0
        have gq1' := cell_regrown q1'
        have gq2 := cell_regrown q2
        have ge3 := cell_regrown e3
        have ghd1 := cell_regrown hd1
        refine wp_region_mix (C := fun w' => ∃ p : Regrown, w' = Go.Sort.grow (redrawn W1 p.d) p.os) [true, true, true, true, false, true, true, true, true, true, true, true, true, true, true, true, true, true, true, true, true] (by kernel_rfl) (by kernel_rfl) (by kernel_rfl) (fun _ _ d _ _ h => by cases d <;> exact h) (regrown_of_below (Below.drew (Below.refl _ _))) ?_
        have hS0 : Below (W1.heap.size) W1 W1.drew := Below.drew (Below.refl _ _)
        refine wpMix_pure (by kernel_rfl) (fun K hK => ?_)
        go_big_quiet_op
        refine hK _ ?_; clear hK K
        refine wpMix_pure (by kernel_rfl) (fun K hK => ?_)
        go_big_quiet_op
        refine hK _ ?_; clear hK K
        refine wpMix_pure (by kernel_rfl) (fun K hK => ?_)
        go_big_quiet_op
        refine hK _ ?_; clear hK K
        refine wpMix_pure (by kernel_rfl) (fun K hK => ?_)
        go_big_quiet_op
        refine hK _ ?_; clear hK K
        refine wpMix_act (by kernel_rfl) (fun K hK => ?_)
        go_big_op
        refine (fits_any xs[m + 1] _ _ fk _ (hs0.below' hS0) hok Hmul.out).mono ?_
        rintro e wr1 ⟨rfl, hbr1⟩
        have hbr1S : Below (W1.heap.size) W1 wr1 := hS0.trans (hbr1.mono hS0.size)
        refine hK _ _ (regrown_of_below hbr1S) ?_
        clear hK K
        cases hq4 : assetB (g.he.length : Int) xs[m + 1]
        · skip
          refine wpMix_pure (by kernel_rfl) (fun K hK => ?_)
          go_big_quiet_op
          refine hK _ ?_; clear hK K
          refine wpMix_pure (by kernel_rfl) (fun K hK => ?_)
          go_big_quiet_op
          refine hK _ ?_; clear hK K
          refine wpMix_skip (by kernel_rfl) (fun K hK => ?_)
          simp only [Act.put, List.setIfInBounds_toArray, List.set_cons_zero, List.set_cons_succ]
          refine hK _ ?_; clear hK K
          refine wpMix_skip (by kernel_rfl) (fun K hK => ?_)
          simp only [Act.put, List.setIfInBounds_toArray, List.set_cons_zero, List.set_cons_succ]
          refine hK _ ?_; clear hK K
          refine wpMix_skip (by kernel_rfl) (fun K hK => ?_)
          simp only [Act.put, List.setIfInBounds_toArray, List.set_cons_zero, List.set_cons_succ]
          refine hK _ ?_; clear hK K
          refine wpMix_skip (by kernel_rfl) (fun K hK => ?_)
          simp only [Act.put, List.setIfInBounds_toArray, List.set_cons_zero, List.set_cons_succ]
          refine hK _ ?_; clear hK K
          refine wpMix_skip (by kernel_rfl) (fun K hK => ?_)
          simp only [Act.put, List.setIfInBounds_toArray, List.set_cons_zero, List.set_cons_succ]
          refine hK _ ?_; clear hK K
          refine wpMix_skip (by kernel_rfl) (fun K hK => ?_)
          simp only [Act.put, List.setIfInBounds_toArray, List.set_cons_zero, List.set_cons_succ]
          refine hK _ ?_; clear hK K
          refine wpMix_skip (by kernel_rfl) (fun K hK => ?_)
          simp only [Act.put, List.setIfInBounds_toArray, List.set_cons_zero, List.set_cons_succ]
          refine hK _ ?_; clear hK K
          refine wpMix_skip (by kernel_rfl) (fun K hK => ?_)
          simp only [Act.put, List.setIfInBounds_toArray, List.set_cons_zero, List.set_cons_succ]
          refine hK _ ?_; clear hK K
          refine wpMix_skip (by kernel_rfl) (fun K hK => ?_)
          simp only [Act.put, List.setIfInBounds_toArray, List.set_cons_zero, List.set_cons_succ]
          refine hK _ ?_; clear hK K
          refine wpMix_skip (by kernel_rfl) (fun K hK => ?_)
          simp only [Act.put, List.setIfInBounds_toArray, List.set_cons_zero, List.set_cons_succ]
          refine hK _ ?_; clear hK K
          refine wpMix_skip (by kernel_rfl) (fun K hK => ?_)
          simp only [Act.put, List.setIfInBounds_toArray, List.set_cons_zero, List.set_cons_succ]
          refine hK _ ?_; clear hK K
          refine wpMix_skip (by kernel_rfl) (fun K hK => ?_)
          simp only [Act.put, List.setIfInBounds_toArray, List.set_cons_zero, List.set_cons_succ]
          refine hK _ ?_; clear hK K
          refine wpMix_skip (by kernel_rfl) (fun K hK => ?_)
          simp only [Act.put, List.setIfInBounds_toArray, List.set_cons_zero, List.set_cons_succ]
          refine hK _ ?_; clear hK K
          refine wpMix_pure (by kernel_rfl) (fun K hK => ?_)
          go_big_quiet_op
          refine hK _ ?_; clear hK K
          refine wpMix_nil ?_
          have HX : Hid (assetsB (g.he.length : Int) xs = false) := assetsB_bad hlt (by rw [assetOk_succ hlt, ltS_of_le]; simp [*])
          have HBX := hb1.trans (hbr1S.mono hb1.size)
          go_wp2
          go_ret
          exact ⟨ret_bool (by unfold assetsV; rw [HG.out, HN0.out, HX.out]; rfl), HBX⟩
        · skip
          refine wpMix_pure (by kernel_rfl) (fun K hK => ?_)
          go_big_quiet_op
          refine hK _ ?_; clear hK K
          refine wpMix_pure (by kernel_rfl) (fun K hK => ?_)
          go_big_quiet_op
          refine hK _ ?_; clear hK K
          refine wpMix_pure (by kernel_rfl) (fun K hK => ?_)
          go_big_quiet_op
          refine hK _ ?_; clear hK K
          have hgt : (0 : Int) < ((m + 1 : Nat) : Int) := by omega
          refine wpMix_pure (by kernel_rfl) (fun K hK => ?_)
          go_big_quiet_op
          refine hK _ ?_; clear hK K
          refine wpMix_pure (by kernel_rfl) (fun K hK => ?_)
          go_big_quiet_op
          refine hK _ ?_; clear hK K
          refine wpMix_pure (by kernel_rfl) (fun K hK => ?_)
          go_big_quiet_op
          refine hK _ ?_; clear hK K
          refine wpMix_pure (by kernel_rfl) (fun K hK => ?_)
          go_big_quiet_op
          refine hK _ ?_; clear hK K
          refine wpMix_pure (by kernel_rfl) (fun K hK => ?_)
          go_big_quiet_op
          refine hK _ ?_; clear hK K
          refine wpMix_pure (by kernel_rfl) (fun K hK => ?_)
          go_big_quiet_op
          refine hK _ ?_; clear hK K
          refine wpMix_pure (by kernel_rfl) (fun K hK => ?_)
          go_big_quiet_op
          refine hK _ ?_; clear hK K
          refine wpMix_pure (by kernel_rfl) (fun K hK => ?_)
          go_big_quiet_op
          refine hK _ ?_; clear hK K
          refine wpMix_pure (by kernel_rfl) (fun K hK => ?_)
          go_big_quiet_op
          refine hK _ ?_; clear hK K
          refine wpMix_pure (by kernel_rfl) (fun K hK => ?_)
          go_big_quiet_op
          refine hK _ ?_; clear hK K
          by_cases hq18 : (Op.bytesLess xs[m + 1].id.toList xs[m].id.toList || xs[m + 1].id.toList == xs[m].id.toList) = true
          · skip
            refine wpMix_pure (by kernel_rfl) (fun K hK => ?_)
            go_big_quiet_op
            refine hK _ ?_; clear hK K
            refine wpMix_pure (by kernel_rfl) (fun K hK => ?_)
            go_big_quiet_op
            refine hK _ ?_; clear hK K
            refine wpMix_pure (by kernel_rfl) (fun K hK => ?_)
            go_big_quiet_op
            refine hK _ ?_; clear hK K
            refine wpMix_nil ?_
            have HX : Hid (assetsB (g.he.length : Int) xs = false) := assetsB_bad hlt (by rw [assetOk_succ hlt, ltS_of_le]; simp [*])
            have HBX := hb1.trans (hbr1S.mono hb1.size)
            go_wp2
            go_ret
            exact ⟨ret_bool (by unfold assetsV; rw [HG.out, HN0.out, HX.out]; rfl), HBX⟩
          · skip
            refine wpMix_pure (by kernel_rfl) (fun K hK => ?_)
            go_big_quiet_op
            refine hK _ ?_; clear hK K
            refine wpMix_pure (by kernel_rfl) (fun K hK => ?_)
            go_big_quiet_op
            refine hK _ ?_; clear hK K
            refine wpMix_pure (by kernel_rfl) (fun K hK => ?_)
            go_big_quiet_op
            refine hK _ ?_; clear hK K
            refine wpMix_nil ?_
            have HN : Hid (allIdx (assetOk (g.he.length : Int) xs) (m + 1 + 1) = true) := allIdx_step H0.out (by rw [assetOk_succ hlt, ltS_of_le]; simp [*])
            have HBX := hb1.trans (hbr1S.mono hb1.size)
            have HPX := hbp.trans (hbr1S.mono (Nat.le_trans hbp.size (Nat.le_refl _)))
            go_wp2
            go_roundw
            case rel => exact ⟨m + 1 + 1, by omega, by go_num, HN, HBX, HPX⟩
            case measure => simp [intOf]; omega

    · have HX : Hid (assetsB (g.he.length : Int) xs = true) := by show _ = _; unfold assetsB; rw [show xs.length = k by omega, H0.out, ← show xs.length = k by omega, HN0.out]; rfl
      go_wp2
      go_ret
      exact ⟨ret_bool (by unfold assetsV; rw [HG.out, HN0.out, HX.out]; rfl), hb⟩
def chgC (a b : Int) : Int := if levelB a && levelB b then 0 else 2
set_option maxRecDepth 100000 in
set_option maxHeartbeats 4000000 in
theorem ChangeOf_any (a b : Int) (w : World) : Calls Try.prog 53 #[.int .i64 a, .int .i64 b] w fun e w' => ∃ x, e = .returned (.tuple #[.int .i64 x, .int .i64 (chgC a b)]) ∧ Below w.heap.size w w' := by
  go_enter Try.func53, Try.ntmps53
  go_wp2_with fail
  refine (levelOk_any _ _).mono ?_
  rintro e w' ⟨rfl, rfl⟩
  cases h1 : levelB a
  · have HV : Hid (chgC a b = 2) := by show _ = _; unfold chgC; rw [h1]; rfl
    go_wp2
    go_ret2
    exact ⟨_, by rw [HV.out]; rfl, Below.refl _ _⟩
  go_wp2_with fail
  refine (levelOk_any _ _).mono ?_
  rintro e w' ⟨rfl, rfl⟩
  cases h2 : levelB b
  · have HV : Hid (chgC a b = 2) := by show _ = _; unfold chgC; rw [h1, h2]; rfl
    go_wp2
    go_ret2
    exact ⟨_, by rw [HV.out]; rfl, Below.refl _ _⟩
  have HV : Hid (chgC a b = 0) := by show _ = _; unfold chgC; rw [h1, h2]; rfl
  go_wp2_with fail
  refine (compareI_any _ _ _).mono ?_
  rintro e w' ⟨rfl, rfl⟩
  go_wp2
  go_ret2
  exact ⟨_, by rw [HV.out]; rfl, Below.refl _ _⟩
theorem slice_of_own {w : World} {base n : Nat} {e : TypeId} {sz : Nat} {v : Value} {xs : List Value} (h : w.ownsRow base e sz v (n + 1) xs) : ∃ A c, v = .slice A (n + 1) c := by
  rcases h.2 with ⟨_, e2⟩ | ⟨g9, cap9, cur9, e, _⟩
  · exact absurd e2 (by omega)
  · exact ⟨_, _, e⟩
theorem infoSentC : (Try.prog.info? 99).map (fun i => (i.zero, i.size, i.bytes)) = some (some (.agg #[.int .i64 0, .int .i64 0, .int .i64 0]), 3, 24) := by kernel_rfl
set_option maxRecDepth 100000 in
set_option maxHeartbeats 8000000 in
theorem ComposeCode_any (before now above fresh weak : Int) (w : World) : Calls Try.prog 26 #[.int .i64 before, .int .i64 now, .int .i64 above, .int .i64 fresh, .int .i64 weak] w fun e w' => ∃ v, e = .returned (.tuple #[v, .int .i64 (composeC before now above fresh weak)]) ∧ Below w.heap.size w w' := by
  obtain ⟨i0, hi, hz0, hz1, hz2⟩ := info_parts infoSentC
  have HC : Hid (composeC before now above fresh weak = if levelB before && levelB now && inB above 0 5000 && inB fresh 0 500 && inB weak 0 500 then 0 else 2) := rfl
  generalize composeC before now above fresh weak = C at *
  go_enter Try.func26, Try.ntmps26
  go_wp2_with fail
  refine (ChangeOf_any _ _ _).mono ?_
  rintro e w1 ⟨x, rfl, hb1⟩
  cases h1 : levelB before && levelB now
  · have HV : Hid (C = 2) := by show _ = _; rw [HC.out, h1]; rfl
    rw [show chgC before now = 2 by unfold chgC; rw [h1]; rfl]
    go_wp2
    go_ret2
    exact ⟨_, by rw [HV.out]; rfl, hb1⟩
  rw [show chgC before now = 0 by unfold chgC; rw [h1]; rfl]
  go_wp2_with fail
  refine (withinB_any _ _ _ _).mono ?_
  rintro e w' ⟨rfl, rfl⟩
  cases h2 : inB above 0 5000
  · have HV : Hid (C = 2) := by show _ = _; rw [HC.out, h1, h2]; rfl
    go_wp2
    go_ret2
    exact ⟨_, by rw [HV.out]; rfl, hb1⟩
  go_wp2_with fail
  refine (withinB_any _ _ _ _).mono ?_
  rintro e w' ⟨rfl, rfl⟩
  cases h3 : inB fresh 0 500
  · have HV : Hid (C = 2) := by show _ = _; rw [HC.out, h1, h2, h3]; rfl
    go_wp2
    go_ret2
    exact ⟨_, by rw [HV.out]; rfl, hb1⟩
  go_wp2_with fail
  refine (withinB_any _ _ _ _).mono ?_
  rintro e w' ⟨rfl, rfl⟩
  cases h4 : inB weak 0 500
  · have HV : Hid (C = 2) := by show _ = _; rw [HC.out, h1, h2, h3, h4]; rfl
    go_wp2
    go_ret2
    exact ⟨_, by rw [HV.out]; rfl, hb1⟩
  have HV : Hid (C = 0) := by show _ = _; rw [HC.out, h1, h2, h3, h4]; rfl
  clear h1 h2 h3 h4 HC
  go_upto_region 5 with fail
  refine at_world (fun W => Below w.heap.size w W ∧ W.ownsRow w.heap.size 99 3 (.slice (some ⟨w1.heap.size, 0, none⟩) 3 3) 3 [.int .i64 1, .int .i64 now, .int .i64 0, .int .i64 2, .int .i64 x, .int .i64 0, .int .i64 3, .int .i64 above, .int .i64 0]) ⟨hb1.alloc hb1.size _, World.ownsRow_lit (base := w.heap.size) (e := 99) (size := 3) w1 #[.int .i64 1, .int .i64 now, .int .i64 0, .int .i64 2, .int .i64 x, .int .i64 0, .int .i64 3, .int .i64 above, .int .i64 0] 3 hb1.size (by decide) rfl⟩ ?_
  rintro W1 ⟨hB1, hown1⟩
  clear hb1
  by_cases hf : fresh = 0
  · have e1 : (fresh != 0) = false := by simp [hf]
    clear hf
    by_cases hk : weak = 0
    · have e2 : (weak != 0) = false := by simp [hk]
      clear hk
      go_wp2
      go_ret2
      exact ⟨_, by rw [HV.out]; rfl, hB1⟩
    · have e2 : (weak != 0) = true := by simp [hk]
      clear hk
      go_wp2_with (at_builtin; refine wpList_append_one rfl _ _ 62 rfl w.heap.size 99 i0 (.agg #[.int .i64 0, .int .i64 0, .int .i64 0]) 3 24 Try.underlying62 hi hz0 hz1 hz2 rfl (by decide) (.slice (some ⟨w1.heap.size, 0, none⟩) 3 3) 3 _ rfl hown1 [.int .i64 6, .int .i64 weak, .int .i64 0] rfl (by intro u hu; simp only [List.mem_cons, List.not_mem_nil, or_false] at hu; rcases hu with rfl | rfl | rfl <;> rfl) rfl (by omega) (by decide) hB1.size ?_)
      intro v9 W9 hown9 hbu9 _ _
      have hB9 := hB1.trans hbu9
      obtain ⟨A9, c9, rfl⟩ := slice_of_own hown9
      clear hown1 hbu9 hown9
      go_wp2
      go_ret2
      exact ⟨_, by rw [HV.out]; rfl, hB9⟩
  · have e1 : (fresh != 0) = true := by simp [hf]
    clear hf
    go_wp2_with (at_builtin; refine wpList_append_one rfl _ _ 62 rfl w.heap.size 99 i0 (.agg #[.int .i64 0, .int .i64 0, .int .i64 0]) 3 24 Try.underlying62 hi hz0 hz1 hz2 rfl (by decide) (.slice (some ⟨w1.heap.size, 0, none⟩) 3 3) 3 _ rfl hown1 [.int .i64 5, .int .i64 fresh, .int .i64 0] rfl (by intro u hu; simp only [List.mem_cons, List.not_mem_nil, or_false] at hu; rcases hu with rfl | rfl | rfl <;> rfl) rfl (by omega) (by decide) hB1.size ?_)
    intro v1 W2 hown2 hbu _ _
    have hB2 := hB1.trans hbu
    have hf2 := slice_of_own hown2
    obtain ⟨A2, c2, rfl⟩ := hf2
    clear hown1 hbu e1
    go_upto_region 7 with fail
    by_cases hk : weak = 0
    · have e2 : (weak != 0) = false := by simp [hk]
      clear hk
      go_wp2
      go_ret2
      exact ⟨_, by rw [HV.out]; rfl, hB2⟩
    · have e2 : (weak != 0) = true := by simp [hk]
      clear hk
      go_wp2_with (at_builtin; refine wpList_append_one rfl _ _ 62 rfl w.heap.size 99 i0 (.agg #[.int .i64 0, .int .i64 0, .int .i64 0]) 3 24 Try.underlying62 hi hz0 hz1 hz2 rfl (by decide) (.slice A2 4 c2) 4 _ rfl hown2 [.int .i64 6, .int .i64 weak, .int .i64 0] rfl (by intro u hu; simp only [List.mem_cons, List.not_mem_nil, or_false] at hu; rcases hu with rfl | rfl | rfl <;> rfl) rfl (by omega) (by decide) hB2.size ?_)
      intro v9 W9 hown9 hbu9 _ _
      have hB9 := hB2.trans hbu9
      obtain ⟨A9, c9, rfl⟩ := slice_of_own hown9
      clear hown2 hbu9 hown9
      go_wp2
      go_ret2
      exact ⟨_, by rw [HV.out]; rfl, hB9⟩
end Go.Proofs.Ytpebibegdeioeaa
