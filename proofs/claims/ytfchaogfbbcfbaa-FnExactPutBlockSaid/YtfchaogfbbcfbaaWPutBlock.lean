/- The walk of FnExactPutBlock, written by wip/genwalk.py out of the law's text. -/
import Derived.Test.YtfchaogfbbcfbaaBj
namespace Go.Proofs.Ytfchaogfbbcfbaa
open Go.RowKit
set_option linter.unusedVariables false

set_option maxRecDepth 100000 in
set_option maxHeartbeats 2000000 in
theorem walkPutBlock (v0 : Value) (xs0 : List DBlock) (fp0 : List Nat) (xs1 : DBlock) (w : World) (hx0 : Sl fBlock.cod w v0 xs0 fp0) (ok1 : fBlock.ok xs1) :
    Calls Try.prog 8 #[v0, .agg #[.string xs1.kind, .string xs1.name, .string xs1.text]] w fun e w' => YesR w e w' := by
  have hi_hx0 := hx0.lt
  replace hx0 := hx0.below' ((Below.refl w.heap.size w).alloc (Nat.le_refl _) (.cells #[.string xs1.kind, .string xs1.name, .string xs1.text] 23))
  go_enter Try.func8, Try.ntmps8
  go_wp2_with fail
  refine (szBlockS_any _ _ _ _ _ hx0 (by omega) (by omega)).mono ?_
  rintro e w1 ⟨r1, rfl, hr1_, hbn⟩
  have hb0s := hbn.size
  have hc1_0 : w1.cell? ⟨w.heap.size, 0, none⟩ = some (.string xs1.kind) := by rw [hbn.cell (by simp)]; simp
  have hc1_1 : w1.cell? ⟨w.heap.size, 1, none⟩ = some (.string xs1.name) := by rw [hbn.cell (by simp)]; simp
  have hc1_2 : w1.cell? ⟨w.heap.size, 2, none⟩ = some (.string xs1.text) := by rw [hbn.cell (by simp)]; simp
  replace hx0 := hx0.below' hbn
  have hb : Below w.heap.size w w1 := ((Below.refl _ _).alloc (Nat.le_refl _) _).trans (hbn.mono (by simp))
  have hsw1 := hb.size
  simp at hb0s
  clear hbn
  by_cases hneg : r1 < 0
  · go_wp2
    go_ret
    exact ⟨rfl, hb⟩
  have hr1 : 0 ≤ r1 ∧ r1 + (totBlockS xs0 : Nat) = 1048576 := by
    rcases hr1_ with h | h
    · omega
    · exact h
  clear hr1_ hneg
  have htot0 : totBlockS xs0 ≤ 1048576 := by omega
  have hr1b : r1 ≤ 1048576 := by omega
  have hr1a : 0 ≤ r1 := hr1.1
  have hlen0 : xs0.length ≤ 1048576 := by have := htot0; unfold totBlockS at this; omega
  clear hr1
  go_wp2_with fail
  refine (szBlock_any xs1 _ _ ok1 (by omega) (by omega)).mono ?_
  rintro e w2 ⟨r2, rfl, hr2_, hbn⟩
  have hsw2 := hbn.size
  replace hx0 := hx0.below' hbn
  replace hc1_0 := (hbn.cell (p := ⟨w.heap.size, 0, none⟩) (by (try simp at hb0s); (try simp); omega)).trans hc1_0
  replace hc1_1 := (hbn.cell (p := ⟨w.heap.size, 1, none⟩) (by (try simp at hb0s); (try simp); omega)).trans hc1_1
  replace hc1_2 := (hbn.cell (p := ⟨w.heap.size, 2, none⟩) (by (try simp at hb0s); (try simp); omega)).trans hc1_2
  replace hb := hb.trans (hbn.mono hb.size)
  clear hbn
  by_cases hneg : r2 < 0
  · go_wp2
    go_ret
    exact ⟨rfl, hb⟩
  have hr2 : 0 ≤ r2 ∧ r2 + (totBlock xs1 : Nat) = r1 := by
    rcases hr2_ with h | h
    · omega
    · exact h
  clear hr2_ hneg
  have htot1 : totBlock xs1 ≤ 1048576 := by omega
  have hr2b : r2 ≤ 1048576 := by omega
  have hr2a : 0 ≤ r2 := hr2.1
  clear hr2
  go_wp2_with fail
  have ghc1_0 := cell_regrown hc1_0
  have ghc1_1 := cell_regrown hc1_1
  have ghc1_2 := cell_regrown hc1_2
  refine wp_region_mixed [0, 2, 1, 3, 4, 5, 6, 7, 8, 9] (C := fun w' => ∃ p : Regrown, w' = Go.Sort.grow (redrawn w2 p.d) p.os) [true, true, false, false, false, true, true, true, true, true] (by kernel_rfl) (by kernel_rfl) (by kernel_rfl) (fun _ _ d _ _ h => by cases d <;> exact h) (regrown_of_below (Below.drew (Below.refl _ _))) ?_
  simp only [List.map_cons, List.map_nil, List.getD_cons_zero, List.getD_cons_succ]
  have hS0 : Below w2.heap.size w2 w2.drew := Below.drew (Below.refl _ _)
  refine wpMix_pure (by kernel_rfl) (fun K hK => ?_)
  go_big_quiet_op
  refine hK _ ?_; clear hK K
  refine wpMix_pure (by kernel_rfl) (fun K hK => ?_)
  go_big_quiet_op
  refine hK _ ?_; clear hK K
  refine wpMix_act (by kernel_rfl) (fun K hK => ?_)
  go_big_op
  refine (toBlockS_any _ _ _ _ (hx0.below' hS0) hlen0).mono ?_
  rintro e wr1 ⟨y0, rfl, ⟨fy0, hy0, lo0, nd0⟩, hbr1⟩
  have hbr1S : Below w2.heap.size w2 wr1 := hS0.trans (hbr1.mono hS0.size)
  refine hK _ _ (regrown_of_below hbr1S) ?_
  clear hK K
  refine wpMix_act (by kernel_rfl) (fun K hK => ?_)
  go_big_op
  refine (toBlock_any xs1 _).mono ?_
  rintro e wr2 ⟨rfl, hbr2⟩
  have hbr2S : Below w2.heap.size w2 wr2 := hbr1S.trans (hbr2.mono hbr1S.size)
  refine hK _ _ (regrown_of_below hbr2S) ?_
  clear hK K
  refine wpMix_act (by kernel_rfl) (fun K hK => ?_)
  go_big_op
  refine (specPutBlock_any _ _ _ xs1 _ (hy0.below' hbr2) ok1).mono ?_
  rintro e wr3 ⟨y1, rfl, ⟨⟨fy1, hy1, lo1, nd1⟩, hbr3⟩⟩
  have hbr3S : Below w2.heap.size w2 wr3 := hbr2S.trans (hbr3.mono hbr2S.size)
  refine hK _ _ (regrown_of_below hbr3S) ?_
  clear hK K
  refine wpMix_pure (by kernel_rfl) (fun K hK => ?_)
  go_big_quiet_op
  refine hK _ ?_; clear hK K
  refine wpMix_pure (by kernel_rfl) (fun K hK => ?_)
  go_big_quiet_op
  refine hK _ ?_; clear hK K
  refine wpMix_pure (by kernel_rfl) (fun K hK => ?_)
  go_big_quiet_op
  refine hK _ ?_; clear hK K
  refine wpMix_pure (by kernel_rfl) (fun K hK => ?_)
  go_big_quiet_op
  refine hK _ ?_; clear hK K
  refine wpMix_pure (by kernel_rfl) (fun K hK => ?_)
  go_big_quiet_op
  refine hK _ ?_; clear hK K
  refine wpMix_nil ?_
  clear ghc1_0
  clear ghc1_1
  clear ghc1_2
  have hi0_ := hy0.lt
  replace hy0 := ((hy0.below' hbr2).below' hbr3)
  have hi1_ := hy1.lt
  have hszwr3_0 := hbr1.size
  have hszwr3_1 := hbr2.size
  have hszwr3_2 := hbr3.size
  have hdzw2 : w2.drew.heap.size = w2.heap.size := rfl
  clear hbr1 hbr2 hbr3
  have hswr3 := hbr3S.size
  replace hx0 := hx0.below' hbr3S
  replace hc1_0 := (hbr3S.cell (p := ⟨w.heap.size, 0, none⟩) (by (try simp at hb0s); (try simp); omega)).trans hc1_0
  replace hc1_1 := (hbr3S.cell (p := ⟨w.heap.size, 1, none⟩) (by (try simp at hb0s); (try simp); omega)).trans hc1_1
  replace hc1_2 := (hbr3S.cell (p := ⟨w.heap.size, 2, none⟩) (by (try simp at hb0s); (try simp); omega)).trans hc1_2
  replace hb := hb.trans (hbr3S.mono hb.size)
  clear hbr3S
  clear hbr1S hbr2S
  try clear hS0
  go_wp2_with fail
  refine (toBlockS_any _ _ _ _ hx0 hlen0).mono ?_
  rintro e w3 ⟨y2, rfl, ⟨fy2, hy2, lo2, nd2⟩, hbn⟩
  have hi2_ := hy2.lt
  have hsw3 := hbn.size
  replace hx0 := hx0.below' hbn
  replace hy0 := hy0.below' hbn
  replace hy1 := hy1.below' hbn
  replace hc1_0 := (hbn.cell (p := ⟨w.heap.size, 0, none⟩) (by (try simp at hb0s); (try simp); omega)).trans hc1_0
  replace hc1_1 := (hbn.cell (p := ⟨w.heap.size, 1, none⟩) (by (try simp at hb0s); (try simp); omega)).trans hc1_1
  replace hc1_2 := (hbn.cell (p := ⟨w.heap.size, 2, none⟩) (by (try simp at hb0s); (try simp); omega)).trans hc1_2
  replace hb := hb.trans (hbn.mono hb.size)
  clear hbn
  go_wp2_with fail
  refine (toBlock_any xs1 _).mono ?_
  rintro e w4 ⟨rfl, hbn⟩
  have hsw4 := hbn.size
  replace hx0 := hx0.below' hbn
  replace hy0 := hy0.below' hbn
  replace hy1 := hy1.below' hbn
  replace hy2 := hy2.below' hbn
  replace hc1_0 := (hbn.cell (p := ⟨w.heap.size, 0, none⟩) (by (try simp at hb0s); (try simp); omega)).trans hc1_0
  replace hc1_1 := (hbn.cell (p := ⟨w.heap.size, 1, none⟩) (by (try simp at hb0s); (try simp); omega)).trans hc1_1
  replace hc1_2 := (hbn.cell (p := ⟨w.heap.size, 2, none⟩) (by (try simp at hb0s); (try simp); omega)).trans hc1_2
  replace hb := hb.trans (hbn.mono hb.size)
  clear hbn
  go_wp2_with fail
  refine (implPutBlock_any _ _ _ xs1 _ hy2 ok1).mono ?_
  rintro e w5 ⟨y3, rfl, ⟨⟨fy3, hy3, lo3, nd3⟩, hbn0⟩⟩
  have hi3_ := hy3.lt
  have hsw5 := hbn0.size
  replace hx0 := hx0.below' hbn0
  replace hy0 := hy0.below' hbn0
  replace hy1 := hy1.below' hbn0
  replace hy2 := hy2.below' hbn0
  replace hc1_0 := (hbn0.cell (p := ⟨w.heap.size, 0, none⟩) (by (try simp at hb0s); (try simp); omega)).trans hc1_0
  replace hc1_1 := (hbn0.cell (p := ⟨w.heap.size, 1, none⟩) (by (try simp at hb0s); (try simp); omega)).trans hc1_1
  replace hc1_2 := (hbn0.cell (p := ⟨w.heap.size, 2, none⟩) (by (try simp at hb0s); (try simp); omega)).trans hc1_2
  replace hb := hb.trans (hbn0.mono hb.size)
  clear hbn0
  go_wp2_with fail
  refine (eqBlockS_any _ _ _ _ _ _ hy3 hy1).mono ?_
  rintro e w6 ⟨rfl, hbn⟩
  have hsw6 := hbn.size
  replace hx0 := hx0.below' hbn
  replace hy0 := hy0.below' hbn
  replace hy1 := hy1.below' hbn
  replace hy2 := hy2.below' hbn
  replace hy3 := hy3.below' hbn
  replace hc1_0 := (hbn.cell (p := ⟨w.heap.size, 0, none⟩) (by (try simp at hb0s); (try simp); omega)).trans hc1_0
  replace hc1_1 := (hbn.cell (p := ⟨w.heap.size, 1, none⟩) (by (try simp at hb0s); (try simp); omega)).trans hc1_1
  replace hc1_2 := (hbn.cell (p := ⟨w.heap.size, 2, none⟩) (by (try simp at hb0s); (try simp); omega)).trans hc1_2
  replace hb := hb.trans (hbn.mono hb.size)
  clear hbn
  go_wp2_with fail
  refine (toBlockS_any _ _ _ _ hx0 hlen0).mono ?_
  rintro e w7 ⟨y4, rfl, ⟨fy4, hy4, lo4, nd4⟩, hbn⟩
  have hi4_ := hy4.lt
  have hsw7 := hbn.size
  replace hx0 := hx0.below' hbn
  replace hy0 := hy0.below' hbn
  replace hy1 := hy1.below' hbn
  replace hy2 := hy2.below' hbn
  replace hy3 := hy3.below' hbn
  replace hc1_0 := (hbn.cell (p := ⟨w.heap.size, 0, none⟩) (by (try simp at hb0s); (try simp); omega)).trans hc1_0
  replace hc1_1 := (hbn.cell (p := ⟨w.heap.size, 1, none⟩) (by (try simp at hb0s); (try simp); omega)).trans hc1_1
  replace hc1_2 := (hbn.cell (p := ⟨w.heap.size, 2, none⟩) (by (try simp at hb0s); (try simp); omega)).trans hc1_2
  replace hb := hb.trans (hbn.mono hb.size)
  clear hbn
  go_wp2_with fail
  refine (eqBlockS_any _ _ _ _ _ _ hy2 hy4).mono ?_
  rintro e w8 ⟨rfl, hbn⟩
  have hsw8 := hbn.size
  replace hx0 := hx0.below' hbn
  replace hy0 := hy0.below' hbn
  replace hy1 := hy1.below' hbn
  replace hy2 := hy2.below' hbn
  replace hy3 := hy3.below' hbn
  replace hy4 := hy4.below' hbn
  replace hc1_0 := (hbn.cell (p := ⟨w.heap.size, 0, none⟩) (by (try simp at hb0s); (try simp); omega)).trans hc1_0
  replace hc1_1 := (hbn.cell (p := ⟨w.heap.size, 1, none⟩) (by (try simp at hb0s); (try simp); omega)).trans hc1_1
  replace hc1_2 := (hbn.cell (p := ⟨w.heap.size, 2, none⟩) (by (try simp at hb0s); (try simp); omega)).trans hc1_2
  replace hb := hb.trans (hbn.mono hb.size)
  clear hbn
  go_wp2_with fail
  have hgl : (xs0).length ≤ 100000000000 := by omega
  refine (markBlockS_any _ _ _ _ _ hy2 (by omega) (by omega)).mono ?_
  clear hgl
  rintro e w9 ⟨rfl, hmk, hon⟩
  replace hx0 := hx0.only hon (fun b h1 h2 => by have q1 := hi_hx0 b h1; have q2 := lo2 b h2; omega)
  replace hy0 := hy0.only hon (fun b h1 h2 => by have q1 := lo0 b h1; have q2 := lo2 b h2; have q3 := hi0_ b h1; have q4 := hi2_ b h2; omega)
  replace hy1 := hy1.only hon (fun b h1 h2 => by have q1 := lo1 b h1; have q2 := lo2 b h2; have q3 := hi1_ b h1; have q4 := hi2_ b h2; omega)
  replace hy3 := hy3.only hon (fun b h1 h2 => by have q1 := lo3 b h1; have q2 := lo2 b h2; have q3 := hi3_ b h1; have q4 := hi2_ b h2; omega)
  replace hy4 := hy4.only hon (fun b h1 h2 => by have q1 := lo4 b h1; have q2 := lo2 b h2; have q3 := hi4_ b h1; have q4 := hi2_ b h2; omega)
  replace hc1_0 := (World.cell?_of_block (a := ⟨w.heap.size, 0, none⟩) (hon.block (w.heap.size) (by omega) (fun h2 => by have q2 := lo2 _ h2; omega))).trans hc1_0
  replace hc1_1 := (World.cell?_of_block (a := ⟨w.heap.size, 1, none⟩) (hon.block (w.heap.size) (by omega) (fun h2 => by have q2 := lo2 _ h2; omega))).trans hc1_1
  replace hc1_2 := (World.cell?_of_block (a := ⟨w.heap.size, 2, none⟩) (hon.block (w.heap.size) (by omega) (fun h2 => by have q2 := lo2 _ h2; omega))).trans hc1_2
  replace hy2 := hmk
  clear hmk
  have hsw9 := hon.size
  replace hb := hb.trans (hon.below (B := w.heap.size) (by omega) (fun b h => by have q1 := lo2 b h; omega))
  clear hon
  go_wp2_with fail
  refine (eqBlockS_any _ _ _ _ _ _ hy3 hy1).mono ?_
  rintro e w10 ⟨rfl, hbn⟩
  have hsw10 := hbn.size
  replace hx0 := hx0.below' hbn
  replace hy0 := hy0.below' hbn
  replace hy1 := hy1.below' hbn
  replace hy2 := hy2.below' hbn
  replace hy3 := hy3.below' hbn
  replace hy4 := hy4.below' hbn
  replace hc1_0 := (hbn.cell (p := ⟨w.heap.size, 0, none⟩) (by (try simp at hb0s); (try simp); omega)).trans hc1_0
  replace hc1_1 := (hbn.cell (p := ⟨w.heap.size, 1, none⟩) (by (try simp at hb0s); (try simp); omega)).trans hc1_1
  replace hc1_2 := (hbn.cell (p := ⟨w.heap.size, 2, none⟩) (by (try simp at hb0s); (try simp); omega)).trans hc1_2
  replace hb := hb.trans (hbn.mono hb.size)
  clear hbn
  go_wp2_with fail
  have hgl : (pbF xs0 xs1).length ≤ 100000000000 := pbF_len
  refine (markBlockS_any _ _ _ _ _ hy3 (by omega) (by omega)).mono ?_
  clear hgl
  rintro e w11 ⟨rfl, hmk, hon⟩
  replace hx0 := hx0.only hon (fun b h1 h2 => by have q1 := hi_hx0 b h1; have q2 := lo3 b h2; omega)
  replace hy0 := hy0.only hon (fun b h1 h2 => by have q1 := lo0 b h1; have q2 := lo3 b h2; have q3 := hi0_ b h1; have q4 := hi3_ b h2; omega)
  replace hy1 := hy1.only hon (fun b h1 h2 => by have q1 := lo1 b h1; have q2 := lo3 b h2; have q3 := hi1_ b h1; have q4 := hi3_ b h2; omega)
  replace hy2 := hy2.only hon (fun b h1 h2 => by have q1 := lo2 b h1; have q2 := lo3 b h2; have q3 := hi2_ b h1; have q4 := hi3_ b h2; omega)
  replace hy4 := hy4.only hon (fun b h1 h2 => by have q1 := lo4 b h1; have q2 := lo3 b h2; have q3 := hi4_ b h1; have q4 := hi3_ b h2; omega)
  replace hc1_0 := (World.cell?_of_block (a := ⟨w.heap.size, 0, none⟩) (hon.block (w.heap.size) (by omega) (fun h2 => by have q2 := lo3 _ h2; omega))).trans hc1_0
  replace hc1_1 := (World.cell?_of_block (a := ⟨w.heap.size, 1, none⟩) (hon.block (w.heap.size) (by omega) (fun h2 => by have q2 := lo3 _ h2; omega))).trans hc1_1
  replace hc1_2 := (World.cell?_of_block (a := ⟨w.heap.size, 2, none⟩) (hon.block (w.heap.size) (by omega) (fun h2 => by have q2 := lo3 _ h2; omega))).trans hc1_2
  replace hy3 := hmk
  clear hmk
  have hsw11 := hon.size
  replace hb := hb.trans (hon.below (B := w.heap.size) (by omega) (fun b h => by have q1 := lo3 b h; omega))
  clear hon
  go_wp2_with fail
  have hgl : (pbF xs0 xs1).length ≤ 100000000000 := pbF_len
  refine (heldBlockS_any _ _ _ _ _ hy3 (by omega) (by omega)).mono ?_
  clear hgl
  rintro e w12 ⟨rfl, hbn⟩
  have hsw12 := hbn.size
  replace hx0 := hx0.below' hbn
  replace hy0 := hy0.below' hbn
  replace hy1 := hy1.below' hbn
  replace hy2 := hy2.below' hbn
  replace hy3 := hy3.below' hbn
  replace hy4 := hy4.below' hbn
  replace hc1_0 := (hbn.cell (p := ⟨w.heap.size, 0, none⟩) (by (try simp at hb0s); (try simp); omega)).trans hc1_0
  replace hc1_1 := (hbn.cell (p := ⟨w.heap.size, 1, none⟩) (by (try simp at hb0s); (try simp); omega)).trans hc1_1
  replace hc1_2 := (hbn.cell (p := ⟨w.heap.size, 2, none⟩) (by (try simp at hb0s); (try simp); omega)).trans hc1_2
  replace hb := hb.trans (hbn.mono hb.size)
  clear hbn
  go_wp2_with fail
  have ghc1_0 := cell_regrown hc1_0
  have ghc1_1 := cell_regrown hc1_1
  have ghc1_2 := cell_regrown hc1_2
  refine wp_region_mixed [0, 2, 1, 3, 4, 5, 6, 7, 8, 9] (C := fun w' => ∃ p : Regrown, w' = Go.Sort.grow (redrawn w12 p.d) p.os) [true, true, false, false, false, true, true, true, true, true] (by kernel_rfl) (by kernel_rfl) (by kernel_rfl) (fun _ _ d _ _ h => by cases d <;> exact h) (regrown_of_below (Below.drew (Below.refl _ _))) ?_
  simp only [List.map_cons, List.map_nil, List.getD_cons_zero, List.getD_cons_succ]
  have hS0 : Below w12.heap.size w12 w12.drew := Below.drew (Below.refl _ _)
  refine wpMix_pure (by kernel_rfl) (fun K hK => ?_)
  go_big_quiet_op
  refine hK _ ?_; clear hK K
  refine wpMix_pure (by kernel_rfl) (fun K hK => ?_)
  go_big_quiet_op
  refine hK _ ?_; clear hK K
  refine wpMix_act (by kernel_rfl) (fun K hK => ?_)
  go_big_op
  refine (toBlockS_any _ _ _ _ (hx0.below' hS0) hlen0).mono ?_
  rintro e wr1 ⟨y5, rfl, ⟨fy5, hy5, lo5, nd5⟩, hbr1⟩
  have hbr1S : Below w12.heap.size w12 wr1 := hS0.trans (hbr1.mono hS0.size)
  refine hK _ _ (regrown_of_below hbr1S) ?_
  clear hK K
  refine wpMix_act (by kernel_rfl) (fun K hK => ?_)
  go_big_op
  refine (toBlock_any xs1 _).mono ?_
  rintro e wr2 ⟨rfl, hbr2⟩
  have hbr2S : Below w12.heap.size w12 wr2 := hbr1S.trans (hbr2.mono hbr1S.size)
  refine hK _ _ (regrown_of_below hbr2S) ?_
  clear hK K
  refine wpMix_act (by kernel_rfl) (fun K hK => ?_)
  go_big_op
  refine (implPutBlock_any _ _ _ xs1 _ (hy5.below' hbr2) ok1).mono ?_
  rintro e wr3 ⟨y6, rfl, ⟨⟨fy6, hy6, lo6, nd6⟩, hbr3⟩⟩
  have hbr3S : Below w12.heap.size w12 wr3 := hbr2S.trans (hbr3.mono hbr2S.size)
  refine hK _ _ (regrown_of_below hbr3S) ?_
  clear hK K
  refine wpMix_pure (by kernel_rfl) (fun K hK => ?_)
  go_big_quiet_op
  refine hK _ ?_; clear hK K
  refine wpMix_pure (by kernel_rfl) (fun K hK => ?_)
  go_big_quiet_op
  refine hK _ ?_; clear hK K
  refine wpMix_pure (by kernel_rfl) (fun K hK => ?_)
  go_big_quiet_op
  refine hK _ ?_; clear hK K
  refine wpMix_pure (by kernel_rfl) (fun K hK => ?_)
  go_big_quiet_op
  refine hK _ ?_; clear hK K
  refine wpMix_pure (by kernel_rfl) (fun K hK => ?_)
  go_big_quiet_op
  refine hK _ ?_; clear hK K
  refine wpMix_nil ?_
  clear ghc1_0
  clear ghc1_1
  clear ghc1_2
  have hi5_ := hy5.lt
  replace hy5 := ((hy5.below' hbr2).below' hbr3)
  have hi6_ := hy6.lt
  have hszwr3_0 := hbr1.size
  have hszwr3_1 := hbr2.size
  have hszwr3_2 := hbr3.size
  have hdzw12 : w12.drew.heap.size = w12.heap.size := rfl
  clear hbr1 hbr2 hbr3
  have hswr3 := hbr3S.size
  replace hx0 := hx0.below' hbr3S
  replace hy0 := hy0.below' hbr3S
  replace hy1 := hy1.below' hbr3S
  replace hy2 := hy2.below' hbr3S
  replace hy3 := hy3.below' hbr3S
  replace hy4 := hy4.below' hbr3S
  replace hc1_0 := (hbr3S.cell (p := ⟨w.heap.size, 0, none⟩) (by (try simp at hb0s); (try simp); omega)).trans hc1_0
  replace hc1_1 := (hbr3S.cell (p := ⟨w.heap.size, 1, none⟩) (by (try simp at hb0s); (try simp); omega)).trans hc1_1
  replace hc1_2 := (hbr3S.cell (p := ⟨w.heap.size, 2, none⟩) (by (try simp at hb0s); (try simp); omega)).trans hc1_2
  replace hb := hb.trans (hbr3S.mono hb.size)
  clear hbr3S
  clear hbr1S hbr2S
  try clear hS0
  go_wp2_with fail
  refine (eqBlockS_any _ _ _ _ _ _ hy6 hy1).mono ?_
  rintro e w13 ⟨rfl, hbn⟩
  have hsw13 := hbn.size
  replace hx0 := hx0.below' hbn
  replace hy0 := hy0.below' hbn
  replace hy1 := hy1.below' hbn
  replace hy2 := hy2.below' hbn
  replace hy3 := hy3.below' hbn
  replace hy4 := hy4.below' hbn
  replace hy5 := hy5.below' hbn
  replace hy6 := hy6.below' hbn
  replace hc1_0 := (hbn.cell (p := ⟨w.heap.size, 0, none⟩) (by (try simp at hb0s); (try simp); omega)).trans hc1_0
  replace hc1_1 := (hbn.cell (p := ⟨w.heap.size, 1, none⟩) (by (try simp at hb0s); (try simp); omega)).trans hc1_1
  replace hc1_2 := (hbn.cell (p := ⟨w.heap.size, 2, none⟩) (by (try simp at hb0s); (try simp); omega)).trans hc1_2
  replace hb := hb.trans (hbn.mono hb.size)
  clear hbn
  go_wp2_with fail
  have hgl : (pbF xs0 xs1).length ≤ 100000000000 := pbF_len
  refine (heldBlockS_any _ _ _ _ _ hy3 (by omega) (by omega)).mono ?_
  clear hgl
  rintro e w14 ⟨rfl, hbn⟩
  have hsw14 := hbn.size
  replace hx0 := hx0.below' hbn
  replace hy0 := hy0.below' hbn
  replace hy1 := hy1.below' hbn
  replace hy2 := hy2.below' hbn
  replace hy3 := hy3.below' hbn
  replace hy4 := hy4.below' hbn
  replace hy5 := hy5.below' hbn
  replace hy6 := hy6.below' hbn
  replace hc1_0 := (hbn.cell (p := ⟨w.heap.size, 0, none⟩) (by (try simp at hb0s); (try simp); omega)).trans hc1_0
  replace hc1_1 := (hbn.cell (p := ⟨w.heap.size, 1, none⟩) (by (try simp at hb0s); (try simp); omega)).trans hc1_1
  replace hc1_2 := (hbn.cell (p := ⟨w.heap.size, 2, none⟩) (by (try simp at hb0s); (try simp); omega)).trans hc1_2
  replace hb := hb.trans (hbn.mono hb.size)
  clear hbn
  go_wp2_with fail
  go_ret
  exact ⟨rfl, hb⟩
end Go.Proofs.Ytfchaogfbbcfbaa
