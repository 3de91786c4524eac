
/- The walk of FnExactBestPairs, written by wip/genwalk.py out of the law's text. -/
import Derived.Test.YtjfaafoldllppaaBy
import Derived.Test.YtjfaafoldllppaaTGroup
import Derived.Test.YtjfaafoldllppaaTInt64SS
namespace Go.Proofs.Ytjfaafoldllppaa
open Go.RowKit
set_option linter.unusedVariables false

set_option maxRecDepth 100000 in
set_option maxHeartbeats 2000000 in
theorem walkBestPairs (v0 : Value) (xs0 : List DGroup) (fp0 : List Nat) (a1 : Int) (a2 : Int) (w : World) (hx0 : Sl fGroup.cod w v0 xs0 fp0) (hi1 : -9223372036854775808 ≤ a1 ∧ a1 ≤ 9223372036854775807) (hi2 : -9223372036854775808 ≤ a2 ∧ a2 ≤ 9223372036854775807) :
    Calls Try.prog 3 #[v0, .int .i64 a1, .int .i64 a2] w fun e w' => YesR w e w' := by
  have hb : Below w.heap.size w w := Below.refl _ _
  have hi_hx0 := hx0.lt
  go_enter Try.func3, Try.ntmps3
  go_wp2_with fail
  refine (szGroupS_any _ _ _ _ _ hx0 (by omega) (by omega)).mono ?_
  rintro e w1 ⟨r1, rfl, hr1_, hbn⟩
  have hsw1 := hbn.size
  replace hx0 := hx0.below' hbn
  replace hb := hb.trans (hbn.mono hb.size)
  clear hbn
  by_cases hneg : r1 < 0
  · go_wp2
    go_ret
    exact ⟨rfl, hb⟩
  have hr1 : 0 ≤ r1 ∧ r1 + (totGroupS xs0 : Nat) = 1048576 := by
    rcases hr1_ with h | h
    · omega
    · exact h
  clear hr1_ hneg
  have htot0 : totGroupS xs0 ≤ 1048576 := by omega
  have hr1b : r1 ≤ 1048576 := by omega
  have hr1a : 0 ≤ r1 := hr1.1
  have hlen0 : xs0.length ≤ 1048576 := by have := htot0; unfold totGroupS at this; omega
  clear hr1
  go_wp2_with fail
  refine (toGroupS_any _ _ _ _ hx0 hlen0).mono ?_
  rintro e w2 ⟨y0, rfl, ⟨fy0, hy0, lo0, nd0⟩, hbn⟩
  have hi0_ := hy0.lt
  have hsw2 := hbn.size
  replace hx0 := hx0.below' hbn
  replace hb := hb.trans (hbn.mono hb.size)
  clear hbn
  go_wp2_with fail
  refine (specBestPairs_any _ _ _ a1 a2 _ hy0).mono ?_
  rintro e w3 ⟨y1, rfl, ⟨⟨fy1, hy1, lo1, nd1⟩, hbn0⟩⟩
  have hi1_ := hy1.lt
  have hsw3 := hbn0.size
  replace hx0 := hx0.below' hbn0
  replace hy0 := hy0.below' hbn0
  replace hb := hb.trans (hbn0.mono hb.size)
  clear hbn0
  go_wp2_with fail
  refine (toGroupS_any _ _ _ _ hx0 hlen0).mono ?_
  rintro e w4 ⟨y2, rfl, ⟨fy2, hy2, lo2, nd2⟩, hbn⟩
  have hi2_ := hy2.lt
  have hsw4 := hbn.size
  replace hx0 := hx0.below' hbn
  replace hy0 := hy0.below' hbn
  replace hy1 := hy1.below' hbn
  replace hb := hb.trans (hbn.mono hb.size)
  clear hbn
  go_wp2_with fail
  refine (implBestPairs_any _ _ _ a1 a2 _ hy2).mono ?_
  rintro e w5 ⟨y3, rfl, ⟨⟨fy3, hy3, lo3, nd3⟩, hbn0⟩⟩
  have hi3_ := hy3.lt
  have hsw5 := hbn0.size
  replace hx0 := hx0.below' hbn0
  replace hy0 := hy0.below' hbn0
  replace hy1 := hy1.below' hbn0
  replace hy2 := hy2.below' hbn0
  replace hb := hb.trans (hbn0.mono hb.size)
  clear hbn0
  go_wp2_with fail
  refine (eqInt64SS_any _ _ _ _ _ _ hy3 hy1).mono ?_
  rintro e w6 ⟨rfl, hbn⟩
  have hsw6 := hbn.size
  replace hx0 := hx0.below' hbn
  replace hy0 := hy0.below' hbn
  replace hy1 := hy1.below' hbn
  replace hy2 := hy2.below' hbn
  replace hy3 := hy3.below' hbn
  replace hb := hb.trans (hbn.mono hb.size)
  clear hbn
  go_wp2_with fail
  refine (toGroupS_any _ _ _ _ hx0 hlen0).mono ?_
  rintro e w7 ⟨y4, rfl, ⟨fy4, hy4, lo4, nd4⟩, hbn⟩
  have hi4_ := hy4.lt
  have hsw7 := hbn.size
  replace hx0 := hx0.below' hbn
  replace hy0 := hy0.below' hbn
  replace hy1 := hy1.below' hbn
  replace hy2 := hy2.below' hbn
  replace hy3 := hy3.below' hbn
  replace hb := hb.trans (hbn.mono hb.size)
  clear hbn
  go_wp2_with fail
  refine (eqGroupS_any _ _ _ _ _ _ hy2 hy4).mono ?_
  rintro e w8 ⟨rfl, hbn⟩
  have hsw8 := hbn.size
  replace hx0 := hx0.below' hbn
  replace hy0 := hy0.below' hbn
  replace hy1 := hy1.below' hbn
  replace hy2 := hy2.below' hbn
  replace hy3 := hy3.below' hbn
  replace hy4 := hy4.below' hbn
  replace hb := hb.trans (hbn.mono hb.size)
  clear hbn
  go_wp2_with fail
  have hgl : (xs0).length ≤ 100000000000 := by omega
  refine (markGroupS_any _ _ _ _ _ hy2 (by omega) (by omega)).mono ?_
  clear hgl
  rintro e w9 ⟨rfl, hmk, hon⟩
  replace hx0 := hx0.only hon (fun b h1 h2 => by have q1 := hi_hx0 b h1; have q2 := lo2 b h2; omega)
  replace hy0 := hy0.only hon (fun b h1 h2 => by have q1 := lo0 b h1; have q2 := lo2 b h2; have q3 := hi0_ b h1; have q4 := hi2_ b h2; omega)
  replace hy1 := hy1.only hon (fun b h1 h2 => by have q1 := lo1 b h1; have q2 := lo2 b h2; have q3 := hi1_ b h1; have q4 := hi2_ b h2; omega)
  replace hy3 := hy3.only hon (fun b h1 h2 => by have q1 := lo3 b h1; have q2 := lo2 b h2; have q3 := hi3_ b h1; have q4 := hi2_ b h2; omega)
  replace hy4 := hy4.only hon (fun b h1 h2 => by have q1 := lo4 b h1; have q2 := lo2 b h2; have q3 := hi4_ b h1; have q4 := hi2_ b h2; omega)
  replace hy2 := hmk
  clear hmk
  have hsw9 := hon.size
  replace hb := hb.trans (hon.below (B := w.heap.size) (by omega) (fun b h => by have q1 := lo2 b h; omega))
  clear hon
  go_wp2_with fail
  refine (eqInt64SS_any _ _ _ _ _ _ hy3 hy1).mono ?_
  rintro e w10 ⟨rfl, hbn⟩
  have hsw10 := hbn.size
  replace hx0 := hx0.below' hbn
  replace hy0 := hy0.below' hbn
  replace hy1 := hy1.below' hbn
  replace hy2 := hy2.below' hbn
  replace hy3 := hy3.below' hbn
  replace hy4 := hy4.below' hbn
  replace hb := hb.trans (hbn.mono hb.size)
  clear hbn
  go_wp2_with fail
  have hgl : (lensS (bpF xs0 a1 a2)).sum ≤ 100000000000 := bpF_sum _ _ _
  refine (markInt64SS_any _ _ _ _ _ hy3 nd3 (by omega) (by omega)).mono ?_
  clear hgl
  rintro e w11 ⟨rfl, hmk, hon⟩
  replace hx0 := hx0.only hon (fun b h1 h2 => by have q1 := hi_hx0 b h1; have q2 := lo3 b h2; omega)
  replace hy0 := hy0.only hon (fun b h1 h2 => by have q1 := lo0 b h1; have q2 := lo3 b h2; have q3 := hi0_ b h1; have q4 := hi3_ b h2; omega)
  replace hy1 := hy1.only hon (fun b h1 h2 => by have q1 := lo1 b h1; have q2 := lo3 b h2; have q3 := hi1_ b h1; have q4 := hi3_ b h2; omega)
  replace hy2 := hy2.only hon (fun b h1 h2 => by have q1 := lo2 b h1; have q2 := lo3 b h2; have q3 := hi2_ b h1; have q4 := hi3_ b h2; omega)
  replace hy4 := hy4.only hon (fun b h1 h2 => by have q1 := lo4 b h1; have q2 := lo3 b h2; have q3 := hi4_ b h1; have q4 := hi3_ b h2; omega)
  replace hy3 := hmk
  clear hmk
  have hsw11 := hon.size
  replace hb := hb.trans (hon.below (B := w.heap.size) (by omega) (fun b h => by have q1 := lo3 b h; omega))
  clear hon
  go_wp2_with fail
  have hgl : (lensS (bpF xs0 a1 a2)).sum ≤ 100000000000 := bpF_sum _ _ _
  refine (heldInt64SS_any _ _ _ _ _ hy3 (by omega) (by omega)).mono ?_
  clear hgl
  rintro e w12 ⟨rfl, hbn⟩
  have hsw12 := hbn.size
  replace hx0 := hx0.below' hbn
  replace hy0 := hy0.below' hbn
  replace hy1 := hy1.below' hbn
  replace hy2 := hy2.below' hbn
  replace hy3 := hy3.below' hbn
  replace hy4 := hy4.below' hbn
  replace hb := hb.trans (hbn.mono hb.size)
  clear hbn
  go_wp2_with fail
  refine (toGroupS_any _ _ _ _ hx0 hlen0).mono ?_
  rintro e w13 ⟨y5, rfl, ⟨fy5, hy5, lo5, nd5⟩, hbn⟩
  have hi5_ := hy5.lt
  have hsw13 := hbn.size
  replace hx0 := hx0.below' hbn
  replace hy0 := hy0.below' hbn
  replace hy1 := hy1.below' hbn
  replace hy2 := hy2.below' hbn
  replace hy3 := hy3.below' hbn
  replace hy4 := hy4.below' hbn
  replace hb := hb.trans (hbn.mono hb.size)
  clear hbn
  go_wp2_with fail
  refine (implBestPairs_any _ _ _ a1 a2 _ hy5).mono ?_
  rintro e w14 ⟨y6, rfl, ⟨⟨fy6, hy6, lo6, nd6⟩, hbn0⟩⟩
  have hi6_ := hy6.lt
  have hsw14 := hbn0.size
  replace hx0 := hx0.below' hbn0
  replace hy0 := hy0.below' hbn0
  replace hy1 := hy1.below' hbn0
  replace hy2 := hy2.below' hbn0
  replace hy3 := hy3.below' hbn0
  replace hy4 := hy4.below' hbn0
  replace hy5 := hy5.below' hbn0
  replace hb := hb.trans (hbn0.mono hb.size)
  clear hbn0
  go_wp2_with fail
  refine (eqInt64SS_any _ _ _ _ _ _ hy6 hy1).mono ?_
  rintro e w15 ⟨rfl, hbn⟩
  have hsw15 := hbn.size
  replace hx0 := hx0.below' hbn
  replace hy0 := hy0.below' hbn
  replace hy1 := hy1.below' hbn
  replace hy2 := hy2.below' hbn
  replace hy3 := hy3.below' hbn
  replace hy4 := hy4.below' hbn
  replace hy5 := hy5.below' hbn
  replace hy6 := hy6.below' hbn
  replace hb := hb.trans (hbn.mono hb.size)
  clear hbn
  go_wp2_with fail
  have hgl : (lensS (bpF xs0 a1 a2)).sum ≤ 100000000000 := bpF_sum _ _ _
  refine (heldInt64SS_any _ _ _ _ _ hy3 (by omega) (by omega)).mono ?_
  clear hgl
  rintro e w16 ⟨rfl, hbn⟩
  have hsw16 := hbn.size
  replace hx0 := hx0.below' hbn
  replace hy0 := hy0.below' hbn
  replace hy1 := hy1.below' hbn
  replace hy2 := hy2.below' hbn
  replace hy3 := hy3.below' hbn
  replace hy4 := hy4.below' hbn
  replace hy5 := hy5.below' hbn
  replace hy6 := hy6.below' hbn
  replace hb := hb.trans (hbn.mono hb.size)
  clear hbn
  go_wp2_with fail
  go_ret
  exact ⟨rfl, hb⟩
end Go.Proofs.Ytjfaafoldllppaa
