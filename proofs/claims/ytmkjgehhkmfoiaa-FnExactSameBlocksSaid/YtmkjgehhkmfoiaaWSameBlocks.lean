/- The walk of FnExactSameBlocks, written by wip/genwalk.py out of the law's text. -/
import Derived.Test.YtmkjgehhkmfoiaaSb
namespace Go.Proofs.Ytmkjgehhkmfoiaa
open Go.RowKit
set_option linter.unusedVariables false

set_option maxHeartbeats 2000000 in
theorem walkSameBlocks (v0 : Value) (xs0 : List DBlock) (fp0 : List Nat) (v1 : Value) (xs1 : List DBlock) (fp1 : List Nat) (w : World) (hx0 : Sl fBlock.cod w v0 xs0 fp0) (hx1 : Sl fBlock.cod w v1 xs1 fp1) :
    Calls Try.prog 6 #[v0, v1] w fun e w' => YesR w e w' := by
  have hb : Below w.heap.size w w := Below.refl _ _
  have hi_hx0 := hx0.lt
  have hi_hx1 := hx1.lt
  go_enter Try.func6, Try.ntmps6
  go_wp2_with fail
  refine (szBlockS_any _ _ _ _ _ hx0 (by omega) (by omega)).mono ?_
  rintro e w1 ⟨r1, rfl, hr1_, hbn⟩
  have hsw1 := hbn.size
  replace hx0 := hx0.below' hbn
  replace hx1 := hx1.below' hbn
  replace hb := hb.trans (hbn.mono hb.size)
  clear hbn
  by_cases hneg : r1 < 0
  · go_wp2
    go_ret
    exact ⟨rfl, hb⟩
  have hr1 : 0 ≤ r1 ∧ r1 + (totBlockS xs0 : Nat) = 1048576 := by
    rcases hr1_ with h | h
    · omega
    · exact h
  clear hr1_ hneg
  have htot0 : totBlockS xs0 ≤ 1048576 := by omega
  have hr1b : r1 ≤ 1048576 := by omega
  have hr1a : 0 ≤ r1 := hr1.1
  have hlen0 : xs0.length ≤ 1048576 := by have := htot0; unfold totBlockS at this; omega
  clear hr1
  go_wp2_with fail
  refine (szBlockS_any _ _ _ _ _ hx1 (by omega) (by omega)).mono ?_
  rintro e w2 ⟨r2, rfl, hr2_, hbn⟩
  have hsw2 := hbn.size
  replace hx0 := hx0.below' hbn
  replace hx1 := hx1.below' hbn
  replace hb := hb.trans (hbn.mono hb.size)
  clear hbn
  by_cases hneg : r2 < 0
  · go_wp2
    go_ret
    exact ⟨rfl, hb⟩
  have hr2 : 0 ≤ r2 ∧ r2 + (totBlockS xs1 : Nat) = r1 := by
    rcases hr2_ with h | h
    · omega
    · exact h
  clear hr2_ hneg
  have htot1 : totBlockS xs1 ≤ 1048576 := by omega
  have hr2b : r2 ≤ 1048576 := by omega
  have hr2a : 0 ≤ r2 := hr2.1
  have hlen1 : xs1.length ≤ 1048576 := by have := htot1; unfold totBlockS at this; omega
  clear hr2
  go_wp2_with fail
  refine (toBlockS_any _ _ _ _ hx0 hlen0).mono ?_
  rintro e w3 ⟨y0, rfl, ⟨fy0, hy0, lo0, nd0⟩, hbn⟩
  have hi0_ := hy0.lt
  have hsw3 := hbn.size
  replace hx0 := hx0.below' hbn
  replace hx1 := hx1.below' hbn
  replace hb := hb.trans (hbn.mono hb.size)
  clear hbn
  go_wp2_with fail
  refine (toBlockS_any _ _ _ _ hx1 hlen1).mono ?_
  rintro e w4 ⟨y1, rfl, ⟨fy1, hy1, lo1, nd1⟩, hbn⟩
  have hi1_ := hy1.lt
  have hsw4 := hbn.size
  replace hx0 := hx0.below' hbn
  replace hx1 := hx1.below' hbn
  replace hy0 := hy0.below' hbn
  replace hb := hb.trans (hbn.mono hb.size)
  clear hbn
  go_wp2_with fail
  refine (specSameBlocks_any _ _ _ _ _ _ _ hy0 hy1).mono ?_
  rintro e w5 ⟨rfl, hbn⟩
  have hsw5 := hbn.size
  replace hx0 := hx0.below' hbn
  replace hx1 := hx1.below' hbn
  replace hy0 := hy0.below' hbn
  replace hy1 := hy1.below' hbn
  replace hb := hb.trans (hbn.mono hb.size)
  clear hbn
  go_wp2_with fail
  refine (toBlockS_any _ _ _ _ hx0 hlen0).mono ?_
  rintro e w6 ⟨y2, rfl, ⟨fy2, hy2, lo2, nd2⟩, hbn⟩
  have hi2_ := hy2.lt
  have hsw6 := hbn.size
  replace hx0 := hx0.below' hbn
  replace hx1 := hx1.below' hbn
  replace hy0 := hy0.below' hbn
  replace hy1 := hy1.below' hbn
  replace hb := hb.trans (hbn.mono hb.size)
  clear hbn
  go_wp2_with fail
  refine (toBlockS_any _ _ _ _ hx1 hlen1).mono ?_
  rintro e w7 ⟨y3, rfl, ⟨fy3, hy3, lo3, nd3⟩, hbn⟩
  have hi3_ := hy3.lt
  have hsw7 := hbn.size
  replace hx0 := hx0.below' hbn
  replace hx1 := hx1.below' hbn
  replace hy0 := hy0.below' hbn
  replace hy1 := hy1.below' hbn
  replace hy2 := hy2.below' hbn
  replace hb := hb.trans (hbn.mono hb.size)
  clear hbn
  go_wp2_with fail
  refine (implSameBlocks_any _ _ _ _ _ _ _ hy2 hy3).mono ?_
  rintro e w8 ⟨rfl, hbn⟩
  have hsw8 := hbn.size
  replace hx0 := hx0.below' hbn
  replace hx1 := hx1.below' hbn
  replace hy0 := hy0.below' hbn
  replace hy1 := hy1.below' hbn
  replace hy2 := hy2.below' hbn
  replace hy3 := hy3.below' hbn
  replace hb := hb.trans (hbn.mono hb.size)
  clear hbn
  go_wp2_with fail
  refine (toBlockS_any _ _ _ _ hx0 hlen0).mono ?_
  rintro e w9 ⟨y4, rfl, ⟨fy4, hy4, lo4, nd4⟩, hbn⟩
  have hi4_ := hy4.lt
  have hsw9 := hbn.size
  replace hx0 := hx0.below' hbn
  replace hx1 := hx1.below' hbn
  replace hy0 := hy0.below' hbn
  replace hy1 := hy1.below' hbn
  replace hy2 := hy2.below' hbn
  replace hy3 := hy3.below' hbn
  replace hb := hb.trans (hbn.mono hb.size)
  clear hbn
  go_wp2_with fail
  refine (eqBlockS_any _ _ _ _ _ _ hy2 hy4).mono ?_
  rintro e w10 ⟨rfl, hbn⟩
  have hsw10 := hbn.size
  replace hx0 := hx0.below' hbn
  replace hx1 := hx1.below' hbn
  replace hy0 := hy0.below' hbn
  replace hy1 := hy1.below' hbn
  replace hy2 := hy2.below' hbn
  replace hy3 := hy3.below' hbn
  replace hy4 := hy4.below' hbn
  replace hb := hb.trans (hbn.mono hb.size)
  clear hbn
  go_wp2_with fail
  refine (toBlockS_any _ _ _ _ hx1 hlen1).mono ?_
  rintro e w11 ⟨y5, rfl, ⟨fy5, hy5, lo5, nd5⟩, hbn⟩
  have hi5_ := hy5.lt
  have hsw11 := hbn.size
  replace hx0 := hx0.below' hbn
  replace hx1 := hx1.below' hbn
  replace hy0 := hy0.below' hbn
  replace hy1 := hy1.below' hbn
  replace hy2 := hy2.below' hbn
  replace hy3 := hy3.below' hbn
  replace hy4 := hy4.below' hbn
  replace hb := hb.trans (hbn.mono hb.size)
  clear hbn
  go_wp2_with fail
  refine (eqBlockS_any _ _ _ _ _ _ hy3 hy5).mono ?_
  rintro e w12 ⟨rfl, hbn⟩
  have hsw12 := hbn.size
  replace hx0 := hx0.below' hbn
  replace hx1 := hx1.below' hbn
  replace hy0 := hy0.below' hbn
  replace hy1 := hy1.below' hbn
  replace hy2 := hy2.below' hbn
  replace hy3 := hy3.below' hbn
  replace hy4 := hy4.below' hbn
  replace hy5 := hy5.below' hbn
  replace hb := hb.trans (hbn.mono hb.size)
  clear hbn
  go_wp2_with fail
  go_ret
  exact ⟨rfl, hb⟩
end Go.Proofs.Ytmkjgehhkmfoiaa
