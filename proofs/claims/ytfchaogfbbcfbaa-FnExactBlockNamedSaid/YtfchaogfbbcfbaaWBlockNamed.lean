/- The walk of FnExactBlockNamed, written by wip/genwalk.py out of the law's text. -/
import Derived.Test.YtfchaogfbbcfbaaBn
namespace Go.Proofs.Ytfchaogfbbcfbaa
open Go.RowKit
set_option linter.unusedVariables false

set_option maxRecDepth 100000 in
set_option maxHeartbeats 2000000 in
theorem walkBlockNamed (v0 : Value) (xs0 : List DBlock) (fp0 : List Nat) (a1 : ByteArray) (a2 : ByteArray) (w : World) (hx0 : Sl fBlock.cod w v0 xs0 fp0) (hsz1 : a1.size ≤ maxLen) (hsz2 : a2.size ≤ maxLen) :
    Calls Try.prog 5 #[v0, .string a1, .string a2] w fun e w' => YesR w e w' := by
  replace hsz1 : a1.size ≤ 9223372036854775807 := by unfold maxLen at hsz1; exact hsz1
  replace hsz2 : a2.size ≤ 9223372036854775807 := by unfold maxLen at hsz2; exact hsz2
  have hb : Below w.heap.size w w := Below.refl _ _
  have hi_hx0 := hx0.lt
  go_enter Try.func5, Try.ntmps5
  by_cases hbig1 : (1048576 : Int) < (a1.size : Int)
  · go_wp2
    go_ret
    exact ⟨rfl, hb⟩
  have hlt1 : a1.size ≤ 1048576 := by omega
  by_cases hbig2 : (1048576 : Int) < (a2.size : Int)
  · go_wp2
    go_ret
    exact ⟨rfl, hb⟩
  have hlt2 : a2.size ≤ 1048576 := by omega
  go_wp2_with fail
  refine (szBlockS_any _ _ _ _ _ hx0 (by omega) (by omega)).mono ?_
  rintro e w1 ⟨r1, rfl, hr1_, hbn⟩
  have hsw1 := hbn.size
  replace hx0 := hx0.below' hbn
  replace hb := hb.trans (hbn.mono hb.size)
  clear hbn
  by_cases hneg : r1 < 0
  · go_wp2
    go_ret
    exact ⟨rfl, hb⟩
  have hr1 : 0 ≤ r1 ∧ r1 + (totBlockS xs0 : Nat) = 1048576 := by
    rcases hr1_ with h | h
    · omega
    · exact h
  clear hr1_ hneg
  have htot0 : totBlockS xs0 ≤ 1048576 := by omega
  have hr1b : r1 ≤ 1048576 := by omega
  have hr1a : 0 ≤ r1 := hr1.1
  have hlen0 : xs0.length ≤ 1048576 := by have := htot0; unfold totBlockS at this; omega
  clear hr1
  go_wp2_with fail
  refine (toBlockS_any _ _ _ _ hx0 hlen0).mono ?_
  rintro e w2 ⟨y0, rfl, ⟨fy0, hy0, lo0, nd0⟩, hbn⟩
  have hi0_ := hy0.lt
  have hsw2 := hbn.size
  replace hx0 := hx0.below' hbn
  replace hb := hb.trans (hbn.mono hb.size)
  clear hbn
  go_wp2_with fail
  refine (specBlockNamed_any _ _ _ _ _ _ hy0).mono ?_
  rintro e w3 ⟨rfl, hbn⟩
  have hsw3 := hbn.size
  replace hx0 := hx0.below' hbn
  replace hy0 := hy0.below' hbn
  replace hb := hb.trans (hbn.mono hb.size)
  clear hbn
  go_wp2_with fail
  refine (toBlockS_any _ _ _ _ hx0 hlen0).mono ?_
  rintro e w4 ⟨y1, rfl, ⟨fy1, hy1, lo1, nd1⟩, hbn⟩
  have hi1_ := hy1.lt
  have hsw4 := hbn.size
  replace hx0 := hx0.below' hbn
  replace hy0 := hy0.below' hbn
  replace hb := hb.trans (hbn.mono hb.size)
  clear hbn
  go_wp2_with fail
  refine (implBlockNamed_any _ _ _ _ _ _ hy1).mono ?_
  rintro e w5 ⟨rfl, hbn⟩
  have hsw5 := hbn.size
  replace hx0 := hx0.below' hbn
  replace hy0 := hy0.below' hbn
  replace hy1 := hy1.below' hbn
  replace hb := hb.trans (hbn.mono hb.size)
  clear hbn
  go_wp2_with fail
  refine (toBlockS_any _ _ _ _ hx0 hlen0).mono ?_
  rintro e w6 ⟨y2, rfl, ⟨fy2, hy2, lo2, nd2⟩, hbn⟩
  have hi2_ := hy2.lt
  have hsw6 := hbn.size
  replace hx0 := hx0.below' hbn
  replace hy0 := hy0.below' hbn
  replace hy1 := hy1.below' hbn
  replace hb := hb.trans (hbn.mono hb.size)
  clear hbn
  go_wp2_with fail
  refine (eqBlockS_any _ _ _ _ _ _ hy1 hy2).mono ?_
  rintro e w7 ⟨rfl, hbn⟩
  have hsw7 := hbn.size
  replace hx0 := hx0.below' hbn
  replace hy0 := hy0.below' hbn
  replace hy1 := hy1.below' hbn
  replace hy2 := hy2.below' hbn
  replace hb := hb.trans (hbn.mono hb.size)
  clear hbn
  go_wp2_with fail
  go_ret
  exact ⟨rfl, hb⟩
end Go.Proofs.Ytfchaogfbbcfbaa
