/- The walk of FnExactSaveBlocks, written by wip/genwalk.py out of the law's text. -/
import Derived.Test.YtdckjljbmpdphaaDoorSa
namespace Go.Proofs.YtdckjljbmpdphaaDoor
open Go.RowKit
set_option linter.unusedVariables false

set_option maxRecDepth 100000 in
set_option maxHeartbeats 2000000 in
theorem walkSaveBlocks (v0 : Value) (xs0 : List DBlock) (fp0 : List Nat) (w : World) (hx0 : Sl fBlock.cod w v0 xs0 fp0) (htab : Tab10 w) :
    Calls Tryd.prog 3 #[v0] w fun e w' => YesR w e w' := by
  have hb : Below w.heap.size w w := Below.refl _ _
  have hi_hx0 := hx0.lt
  go_enter Tryd.func3, Tryd.ntmps3
  go_wp2_with fail
  refine (szBlockS_any _ _ _ _ _ hx0 (by omega) (by omega)).mono ?_
  rintro e w1 ⟨r1, rfl, hr1_, hbn⟩
  have hsw1 := hbn.size
  replace hx0 := hx0.below' hbn
  replace hb := hb.trans (hbn.mono hb.size)
  clear hbn
  by_cases hneg : r1 < 0
  · go_wp2
    go_ret
    exact ⟨rfl, hb⟩
  have hr1 : 0 ≤ r1 ∧ r1 + (totBlockS xs0 : Nat) = 1048576 := by
    rcases hr1_ with h | h
    · omega
    · exact h
  clear hr1_ hneg
  have htot0 : totBlockS xs0 ≤ 1048576 := by omega
  have hr1b : r1 ≤ 1048576 := by omega
  have hr1a : 0 ≤ r1 := hr1.1
  have hlen0 : xs0.length ≤ 1048576 := by have := htot0; unfold totBlockS at this; omega
  clear hr1
  go_wp2_with fail
  refine (toBlockS_any _ _ _ _ hx0 hlen0).mono ?_
  rintro e w2 ⟨y0, rfl, ⟨fy0, hy0, lo0, nd0⟩, hbn⟩
  have hi0_ := hy0.lt
  have hsw2 := hbn.size
  replace hx0 := hx0.below' hbn
  replace hb := hb.trans (hbn.mono hb.size)
  clear hbn
  go_wp2_with fail
  refine (specSaveBlocks_any _ _ _ _ hy0).mono ?_
  rintro e w3 ⟨rfl, hbn⟩
  have hsw3 := hbn.size
  replace hx0 := hx0.below' hbn
  replace hy0 := hy0.below' hbn
  replace hb := hb.trans (hbn.mono hb.size)
  clear hbn
  go_wp2_with fail
  refine (toBlockS_any _ _ _ _ hx0 hlen0).mono ?_
  rintro e w4 ⟨y1, rfl, ⟨fy1, hy1, lo1, nd1⟩, hbn⟩
  have hi1_ := hy1.lt
  have hsw4 := hbn.size
  replace hx0 := hx0.below' hbn
  replace hy0 := hy0.below' hbn
  replace hb := hb.trans (hbn.mono hb.size)
  clear hbn
  go_wp2_with fail
  refine (implSaveBlocks_any _ _ _ _ hy1 (htab.below hb)).mono ?_
  rintro e w5 ⟨rfl, hbn⟩
  have hsw5 := hbn.size
  replace hx0 := hx0.below' hbn
  replace hy0 := hy0.below' hbn
  replace hy1 := hy1.below' hbn
  replace hb := hb.trans (hbn.mono hb.size)
  clear hbn
  go_wp2_with fail
  refine (toBlockS_any _ _ _ _ hx0 hlen0).mono ?_
  rintro e w6 ⟨y2, rfl, ⟨fy2, hy2, lo2, nd2⟩, hbn⟩
  have hi2_ := hy2.lt
  have hsw6 := hbn.size
  replace hx0 := hx0.below' hbn
  replace hy0 := hy0.below' hbn
  replace hy1 := hy1.below' hbn
  replace hb := hb.trans (hbn.mono hb.size)
  clear hbn
  go_wp2_with fail
  refine (eqBlockS_any _ _ _ _ _ _ hy1 hy2).mono ?_
  rintro e w7 ⟨rfl, hbn⟩
  have hsw7 := hbn.size
  replace hx0 := hx0.below' hbn
  replace hy0 := hy0.below' hbn
  replace hy1 := hy1.below' hbn
  replace hy2 := hy2.below' hbn
  replace hb := hb.trans (hbn.mono hb.size)
  clear hbn
  go_wp2_with fail
  go_ret
  exact ⟨rfl, hb⟩
end Go.Proofs.YtdckjljbmpdphaaDoor
