/- The walk of FnExactMergeBlocks, written by wip/genwalk.py out of the law's text. -/
import Derived.Test.YtfchaogfbbcfbaaBm
namespace Go.Proofs.Ytfchaogfbbcfbaa
open Go.RowKit
set_option linter.unusedVariables false

set_option maxRecDepth 100000 in
set_option maxHeartbeats 2000000 in
theorem walkMergeBlocks (v0 : Value) (xs0 : List DBlock) (fp0 : List Nat) (v1 : Value) (xs1 : List DBlock) (fp1 : List Nat) (w : World) (hx0 : Sl fBlock.cod w v0 xs0 fp0) (hx1 : Sl fBlock.cod w v1 xs1 fp1) :
    Calls Try.prog 9 #[v0, v1] w fun e w' => YesR w e w' := by
  have hb : Below w.heap.size w w := Below.refl _ _
  have hi_hx0 := hx0.lt
  have hi_hx1 := hx1.lt
  go_enter Try.func9, Try.ntmps9
  go_wp2_with fail
  refine (szBlockS_any _ _ _ _ _ hx0 (by omega) (by omega)).mono ?_
  rintro e w1 ⟨r1, rfl, hr1_, hbn⟩
  have hsw1 := hbn.size
  replace hx0 := hx0.below' hbn
  replace hx1 := hx1.below' hbn
  replace hb := hb.trans (hbn.mono hb.size)
  clear hbn
  by_cases hneg : r1 < 0
  · go_wp2
    go_ret
    exact ⟨rfl, hb⟩
  have hr1 : 0 ≤ r1 ∧ r1 + (totBlockS xs0 : Nat) = 1048576 := by
    rcases hr1_ with h | h
    · omega
    · exact h
  clear hr1_ hneg
  have htot0 : totBlockS xs0 ≤ 1048576 := by omega
  have hr1b : r1 ≤ 1048576 := by omega
  have hr1a : 0 ≤ r1 := hr1.1
  have hlen0 : xs0.length ≤ 1048576 := by have := htot0; unfold totBlockS at this; omega
  clear hr1
  go_wp2_with fail
  refine (szBlockS_any _ _ _ _ _ hx1 (by omega) (by omega)).mono ?_
  rintro e w2 ⟨r2, rfl, hr2_, hbn⟩
  have hsw2 := hbn.size
  replace hx0 := hx0.below' hbn
  replace hx1 := hx1.below' hbn
  replace hb := hb.trans (hbn.mono hb.size)
  clear hbn
  by_cases hneg : r2 < 0
  · go_wp2
    go_ret
    exact ⟨rfl, hb⟩
  have hr2 : 0 ≤ r2 ∧ r2 + (totBlockS xs1 : Nat) = r1 := by
    rcases hr2_ with h | h
    · omega
    · exact h
  clear hr2_ hneg
  have htot1 : totBlockS xs1 ≤ 1048576 := by omega
  have hr2b : r2 ≤ 1048576 := by omega
  have hr2a : 0 ≤ r2 := hr2.1
  have hlen1 : xs1.length ≤ 1048576 := by have := htot1; unfold totBlockS at this; omega
  clear hr2
  go_wp2_with fail
  refine (toBlockS_any _ _ _ _ hx0 hlen0).mono ?_
  rintro e w3 ⟨y0, rfl, ⟨fy0, hy0, lo0, nd0⟩, hbn⟩
  have hi0_ := hy0.lt
  have hsw3 := hbn.size
  replace hx0 := hx0.below' hbn
  replace hx1 := hx1.below' hbn
  replace hb := hb.trans (hbn.mono hb.size)
  clear hbn
  go_wp2_with fail
  refine (toBlockS_any _ _ _ _ hx1 hlen1).mono ?_
  rintro e w4 ⟨y1, rfl, ⟨fy1, hy1, lo1, nd1⟩, hbn⟩
  have hi1_ := hy1.lt
  have hsw4 := hbn.size
  replace hx0 := hx0.below' hbn
  replace hx1 := hx1.below' hbn
  replace hy0 := hy0.below' hbn
  replace hb := hb.trans (hbn.mono hb.size)
  clear hbn
  go_wp2_with fail
  refine (specMergeBlocks_any _ _ _ _ _ _ _ hy0 hy1).mono ?_
  rintro e w5 ⟨y2, rfl, ⟨⟨fy2, hy2, lo2, nd2⟩, hbn0⟩⟩
  have hi2_ := hy2.lt
  have hsw5 := hbn0.size
  replace hx0 := hx0.below' hbn0
  replace hx1 := hx1.below' hbn0
  replace hy0 := hy0.below' hbn0
  replace hy1 := hy1.below' hbn0
  replace hb := hb.trans (hbn0.mono hb.size)
  clear hbn0
  go_wp2_with fail
  refine (toBlockS_any _ _ _ _ hx0 hlen0).mono ?_
  rintro e w6 ⟨y3, rfl, ⟨fy3, hy3, lo3, nd3⟩, hbn⟩
  have hi3_ := hy3.lt
  have hsw6 := hbn.size
  replace hx0 := hx0.below' hbn
  replace hx1 := hx1.below' hbn
  replace hy0 := hy0.below' hbn
  replace hy1 := hy1.below' hbn
  replace hy2 := hy2.below' hbn
  replace hb := hb.trans (hbn.mono hb.size)
  clear hbn
  go_wp2_with fail
  refine (toBlockS_any _ _ _ _ hx1 hlen1).mono ?_
  rintro e w7 ⟨y4, rfl, ⟨fy4, hy4, lo4, nd4⟩, hbn⟩
  have hi4_ := hy4.lt
  have hsw7 := hbn.size
  replace hx0 := hx0.below' hbn
  replace hx1 := hx1.below' hbn
  replace hy0 := hy0.below' hbn
  replace hy1 := hy1.below' hbn
  replace hy2 := hy2.below' hbn
  replace hy3 := hy3.below' hbn
  replace hb := hb.trans (hbn.mono hb.size)
  clear hbn
  go_wp2_with fail
  refine (implMergeBlocks_any _ _ _ _ _ _ _ hy3 hy4).mono ?_
  rintro e w8 ⟨y5, rfl, ⟨⟨fy5, hy5, lo5, nd5⟩, hbn0⟩⟩
  have hi5_ := hy5.lt
  have hsw8 := hbn0.size
  replace hx0 := hx0.below' hbn0
  replace hx1 := hx1.below' hbn0
  replace hy0 := hy0.below' hbn0
  replace hy1 := hy1.below' hbn0
  replace hy2 := hy2.below' hbn0
  replace hy3 := hy3.below' hbn0
  replace hy4 := hy4.below' hbn0
  replace hb := hb.trans (hbn0.mono hb.size)
  clear hbn0
  go_wp2_with fail
  refine (eqBlockS_any _ _ _ _ _ _ hy5 hy2).mono ?_
  rintro e w9 ⟨rfl, hbn⟩
  have hsw9 := hbn.size
  replace hx0 := hx0.below' hbn
  replace hx1 := hx1.below' hbn
  replace hy0 := hy0.below' hbn
  replace hy1 := hy1.below' hbn
  replace hy2 := hy2.below' hbn
  replace hy3 := hy3.below' hbn
  replace hy4 := hy4.below' hbn
  replace hy5 := hy5.below' hbn
  replace hb := hb.trans (hbn.mono hb.size)
  clear hbn
  go_wp2_with fail
  refine (toBlockS_any _ _ _ _ hx0 hlen0).mono ?_
  rintro e w10 ⟨y6, rfl, ⟨fy6, hy6, lo6, nd6⟩, hbn⟩
  have hi6_ := hy6.lt
  have hsw10 := hbn.size
  replace hx0 := hx0.below' hbn
  replace hx1 := hx1.below' hbn
  replace hy0 := hy0.below' hbn
  replace hy1 := hy1.below' hbn
  replace hy2 := hy2.below' hbn
  replace hy3 := hy3.below' hbn
  replace hy4 := hy4.below' hbn
  replace hy5 := hy5.below' hbn
  replace hb := hb.trans (hbn.mono hb.size)
  clear hbn
  go_wp2_with fail
  refine (eqBlockS_any _ _ _ _ _ _ hy3 hy6).mono ?_
  rintro e w11 ⟨rfl, hbn⟩
  have hsw11 := hbn.size
  replace hx0 := hx0.below' hbn
  replace hx1 := hx1.below' hbn
  replace hy0 := hy0.below' hbn
  replace hy1 := hy1.below' hbn
  replace hy2 := hy2.below' hbn
  replace hy3 := hy3.below' hbn
  replace hy4 := hy4.below' hbn
  replace hy5 := hy5.below' hbn
  replace hy6 := hy6.below' hbn
  replace hb := hb.trans (hbn.mono hb.size)
  clear hbn
  go_wp2_with fail
  refine (toBlockS_any _ _ _ _ hx1 hlen1).mono ?_
  rintro e w12 ⟨y7, rfl, ⟨fy7, hy7, lo7, nd7⟩, hbn⟩
  have hi7_ := hy7.lt
  have hsw12 := hbn.size
  replace hx0 := hx0.below' hbn
  replace hx1 := hx1.below' hbn
  replace hy0 := hy0.below' hbn
  replace hy1 := hy1.below' hbn
  replace hy2 := hy2.below' hbn
  replace hy3 := hy3.below' hbn
  replace hy4 := hy4.below' hbn
  replace hy5 := hy5.below' hbn
  replace hy6 := hy6.below' hbn
  replace hb := hb.trans (hbn.mono hb.size)
  clear hbn
  go_wp2_with fail
  refine (eqBlockS_any _ _ _ _ _ _ hy4 hy7).mono ?_
  rintro e w13 ⟨rfl, hbn⟩
  have hsw13 := hbn.size
  replace hx0 := hx0.below' hbn
  replace hx1 := hx1.below' hbn
  replace hy0 := hy0.below' hbn
  replace hy1 := hy1.below' hbn
  replace hy2 := hy2.below' hbn
  replace hy3 := hy3.below' hbn
  replace hy4 := hy4.below' hbn
  replace hy5 := hy5.below' hbn
  replace hy6 := hy6.below' hbn
  replace hy7 := hy7.below' hbn
  replace hb := hb.trans (hbn.mono hb.size)
  clear hbn
  go_wp2_with fail
  have hgl : (xs0).length ≤ 100000000000 := by omega
  refine (markBlockS_any _ _ _ _ _ hy3 (by omega) (by omega)).mono ?_
  clear hgl
  rintro e w14 ⟨rfl, hmk, hon⟩
  replace hx0 := hx0.only hon (fun b h1 h2 => by have q1 := hi_hx0 b h1; have q2 := lo3 b h2; omega)
  replace hx1 := hx1.only hon (fun b h1 h2 => by have q1 := hi_hx1 b h1; have q2 := lo3 b h2; omega)
  replace hy0 := hy0.only hon (fun b h1 h2 => by have q1 := lo0 b h1; have q2 := lo3 b h2; have q3 := hi0_ b h1; have q4 := hi3_ b h2; omega)
  replace hy1 := hy1.only hon (fun b h1 h2 => by have q1 := lo1 b h1; have q2 := lo3 b h2; have q3 := hi1_ b h1; have q4 := hi3_ b h2; omega)
  replace hy2 := hy2.only hon (fun b h1 h2 => by have q1 := lo2 b h1; have q2 := lo3 b h2; have q3 := hi2_ b h1; have q4 := hi3_ b h2; omega)
  replace hy4 := hy4.only hon (fun b h1 h2 => by have q1 := lo4 b h1; have q2 := lo3 b h2; have q3 := hi4_ b h1; have q4 := hi3_ b h2; omega)
  replace hy5 := hy5.only hon (fun b h1 h2 => by have q1 := lo5 b h1; have q2 := lo3 b h2; have q3 := hi5_ b h1; have q4 := hi3_ b h2; omega)
  replace hy6 := hy6.only hon (fun b h1 h2 => by have q1 := lo6 b h1; have q2 := lo3 b h2; have q3 := hi6_ b h1; have q4 := hi3_ b h2; omega)
  replace hy7 := hy7.only hon (fun b h1 h2 => by have q1 := lo7 b h1; have q2 := lo3 b h2; have q3 := hi7_ b h1; have q4 := hi3_ b h2; omega)
  replace hy3 := hmk
  clear hmk
  have hsw14 := hon.size
  replace hb := hb.trans (hon.below (B := w.heap.size) (by omega) (fun b h => by have q1 := lo3 b h; omega))
  clear hon
  go_wp2_with fail
  have hgl : (xs1).length ≤ 100000000000 := by omega
  refine (markBlockS_any _ _ _ _ _ hy4 (by omega) (by omega)).mono ?_
  clear hgl
  rintro e w15 ⟨rfl, hmk, hon⟩
  replace hx0 := hx0.only hon (fun b h1 h2 => by have q1 := hi_hx0 b h1; have q2 := lo4 b h2; omega)
  replace hx1 := hx1.only hon (fun b h1 h2 => by have q1 := hi_hx1 b h1; have q2 := lo4 b h2; omega)
  replace hy0 := hy0.only hon (fun b h1 h2 => by have q1 := lo0 b h1; have q2 := lo4 b h2; have q3 := hi0_ b h1; have q4 := hi4_ b h2; omega)
  replace hy1 := hy1.only hon (fun b h1 h2 => by have q1 := lo1 b h1; have q2 := lo4 b h2; have q3 := hi1_ b h1; have q4 := hi4_ b h2; omega)
  replace hy2 := hy2.only hon (fun b h1 h2 => by have q1 := lo2 b h1; have q2 := lo4 b h2; have q3 := hi2_ b h1; have q4 := hi4_ b h2; omega)
  replace hy3 := hy3.only hon (fun b h1 h2 => by have q1 := lo3 b h1; have q2 := lo4 b h2; have q3 := hi3_ b h1; have q4 := hi4_ b h2; omega)
  replace hy5 := hy5.only hon (fun b h1 h2 => by have q1 := lo5 b h1; have q2 := lo4 b h2; have q3 := hi5_ b h1; have q4 := hi4_ b h2; omega)
  replace hy6 := hy6.only hon (fun b h1 h2 => by have q1 := lo6 b h1; have q2 := lo4 b h2; have q3 := hi6_ b h1; have q4 := hi4_ b h2; omega)
  replace hy7 := hy7.only hon (fun b h1 h2 => by have q1 := lo7 b h1; have q2 := lo4 b h2; have q3 := hi7_ b h1; have q4 := hi4_ b h2; omega)
  replace hy4 := hmk
  clear hmk
  have hsw15 := hon.size
  replace hb := hb.trans (hon.below (B := w.heap.size) (by omega) (fun b h => by have q1 := lo4 b h; omega))
  clear hon
  go_wp2_with fail
  refine (eqBlockS_any _ _ _ _ _ _ hy5 hy2).mono ?_
  rintro e w16 ⟨rfl, hbn⟩
  have hsw16 := hbn.size
  replace hx0 := hx0.below' hbn
  replace hx1 := hx1.below' hbn
  replace hy0 := hy0.below' hbn
  replace hy1 := hy1.below' hbn
  replace hy2 := hy2.below' hbn
  replace hy3 := hy3.below' hbn
  replace hy4 := hy4.below' hbn
  replace hy5 := hy5.below' hbn
  replace hy6 := hy6.below' hbn
  replace hy7 := hy7.below' hbn
  replace hb := hb.trans (hbn.mono hb.size)
  clear hbn
  go_wp2_with fail
  have hgl : (mbF xs0 xs1).length ≤ 100000000000 := mbF_len
  refine (markBlockS_any _ _ _ _ _ hy5 (by omega) (by omega)).mono ?_
  clear hgl
  rintro e w17 ⟨rfl, hmk, hon⟩
  replace hx0 := hx0.only hon (fun b h1 h2 => by have q1 := hi_hx0 b h1; have q2 := lo5 b h2; omega)
  replace hx1 := hx1.only hon (fun b h1 h2 => by have q1 := hi_hx1 b h1; have q2 := lo5 b h2; omega)
  replace hy0 := hy0.only hon (fun b h1 h2 => by have q1 := lo0 b h1; have q2 := lo5 b h2; have q3 := hi0_ b h1; have q4 := hi5_ b h2; omega)
  replace hy1 := hy1.only hon (fun b h1 h2 => by have q1 := lo1 b h1; have q2 := lo5 b h2; have q3 := hi1_ b h1; have q4 := hi5_ b h2; omega)
  replace hy2 := hy2.only hon (fun b h1 h2 => by have q1 := lo2 b h1; have q2 := lo5 b h2; have q3 := hi2_ b h1; have q4 := hi5_ b h2; omega)
  replace hy3 := hy3.only hon (fun b h1 h2 => by have q1 := lo3 b h1; have q2 := lo5 b h2; have q3 := hi3_ b h1; have q4 := hi5_ b h2; omega)
  replace hy4 := hy4.only hon (fun b h1 h2 => by have q1 := lo4 b h1; have q2 := lo5 b h2; have q3 := hi4_ b h1; have q4 := hi5_ b h2; omega)
  replace hy6 := hy6.only hon (fun b h1 h2 => by have q1 := lo6 b h1; have q2 := lo5 b h2; have q3 := hi6_ b h1; have q4 := hi5_ b h2; omega)
  replace hy7 := hy7.only hon (fun b h1 h2 => by have q1 := lo7 b h1; have q2 := lo5 b h2; have q3 := hi7_ b h1; have q4 := hi5_ b h2; omega)
  replace hy5 := hmk
  clear hmk
  have hsw17 := hon.size
  replace hb := hb.trans (hon.below (B := w.heap.size) (by omega) (fun b h => by have q1 := lo5 b h; omega))
  clear hon
  go_wp2_with fail
  have hgl : (mbF xs0 xs1).length ≤ 100000000000 := mbF_len
  refine (heldBlockS_any _ _ _ _ _ hy5 (by omega) (by omega)).mono ?_
  clear hgl
  rintro e w18 ⟨rfl, hbn⟩
  have hsw18 := hbn.size
  replace hx0 := hx0.below' hbn
  replace hx1 := hx1.below' hbn
  replace hy0 := hy0.below' hbn
  replace hy1 := hy1.below' hbn
  replace hy2 := hy2.below' hbn
  replace hy3 := hy3.below' hbn
  replace hy4 := hy4.below' hbn
  replace hy5 := hy5.below' hbn
  replace hy6 := hy6.below' hbn
  replace hy7 := hy7.below' hbn
  replace hb := hb.trans (hbn.mono hb.size)
  clear hbn
  go_wp2_with fail
  refine (toBlockS_any _ _ _ _ hx0 hlen0).mono ?_
  rintro e w19 ⟨y8, rfl, ⟨fy8, hy8, lo8, nd8⟩, hbn⟩
  have hi8_ := hy8.lt
  have hsw19 := hbn.size
  replace hx0 := hx0.below' hbn
  replace hx1 := hx1.below' hbn
  replace hy0 := hy0.below' hbn
  replace hy1 := hy1.below' hbn
  replace hy2 := hy2.below' hbn
  replace hy3 := hy3.below' hbn
  replace hy4 := hy4.below' hbn
  replace hy5 := hy5.below' hbn
  replace hy6 := hy6.below' hbn
  replace hy7 := hy7.below' hbn
  replace hb := hb.trans (hbn.mono hb.size)
  clear hbn
  go_wp2_with fail
  refine (toBlockS_any _ _ _ _ hx1 hlen1).mono ?_
  rintro e w20 ⟨y9, rfl, ⟨fy9, hy9, lo9, nd9⟩, hbn⟩
  have hi9_ := hy9.lt
  have hsw20 := hbn.size
  replace hx0 := hx0.below' hbn
  replace hx1 := hx1.below' hbn
  replace hy0 := hy0.below' hbn
  replace hy1 := hy1.below' hbn
  replace hy2 := hy2.below' hbn
  replace hy3 := hy3.below' hbn
  replace hy4 := hy4.below' hbn
  replace hy5 := hy5.below' hbn
  replace hy6 := hy6.below' hbn
  replace hy7 := hy7.below' hbn
  replace hy8 := hy8.below' hbn
  replace hb := hb.trans (hbn.mono hb.size)
  clear hbn
  go_wp2_with fail
  refine (implMergeBlocks_any _ _ _ _ _ _ _ hy8 hy9).mono ?_
  rintro e w21 ⟨y10, rfl, ⟨⟨fy10, hy10, lo10, nd10⟩, hbn0⟩⟩
  have hi10_ := hy10.lt
  have hsw21 := hbn0.size
  replace hx0 := hx0.below' hbn0
  replace hx1 := hx1.below' hbn0
  replace hy0 := hy0.below' hbn0
  replace hy1 := hy1.below' hbn0
  replace hy2 := hy2.below' hbn0
  replace hy3 := hy3.below' hbn0
  replace hy4 := hy4.below' hbn0
  replace hy5 := hy5.below' hbn0
  replace hy6 := hy6.below' hbn0
  replace hy7 := hy7.below' hbn0
  replace hy8 := hy8.below' hbn0
  replace hy9 := hy9.below' hbn0
  replace hb := hb.trans (hbn0.mono hb.size)
  clear hbn0
  go_wp2_with fail
  refine (eqBlockS_any _ _ _ _ _ _ hy10 hy2).mono ?_
  rintro e w22 ⟨rfl, hbn⟩
  have hsw22 := hbn.size
  replace hx0 := hx0.below' hbn
  replace hx1 := hx1.below' hbn
  replace hy0 := hy0.below' hbn
  replace hy1 := hy1.below' hbn
  replace hy2 := hy2.below' hbn
  replace hy3 := hy3.below' hbn
  replace hy4 := hy4.below' hbn
  replace hy5 := hy5.below' hbn
  replace hy6 := hy6.below' hbn
  replace hy7 := hy7.below' hbn
  replace hy8 := hy8.below' hbn
  replace hy9 := hy9.below' hbn
  replace hy10 := hy10.below' hbn
  replace hb := hb.trans (hbn.mono hb.size)
  clear hbn
  go_wp2_with fail
  have hgl : (mbF xs0 xs1).length ≤ 100000000000 := mbF_len
  refine (heldBlockS_any _ _ _ _ _ hy5 (by omega) (by omega)).mono ?_
  clear hgl
  rintro e w23 ⟨rfl, hbn⟩
  have hsw23 := hbn.size
  replace hx0 := hx0.below' hbn
  replace hx1 := hx1.below' hbn
  replace hy0 := hy0.below' hbn
  replace hy1 := hy1.below' hbn
  replace hy2 := hy2.below' hbn
  replace hy3 := hy3.below' hbn
  replace hy4 := hy4.below' hbn
  replace hy5 := hy5.below' hbn
  replace hy6 := hy6.below' hbn
  replace hy7 := hy7.below' hbn
  replace hy8 := hy8.below' hbn
  replace hy9 := hy9.below' hbn
  replace hy10 := hy10.below' hbn
  replace hb := hb.trans (hbn.mono hb.size)
  clear hbn
  go_wp2_with fail
  go_ret
  exact ⟨rfl, hb⟩
end Go.Proofs.Ytfchaogfbbcfbaa
