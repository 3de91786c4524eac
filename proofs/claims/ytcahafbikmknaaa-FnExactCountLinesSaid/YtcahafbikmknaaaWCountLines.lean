/- The walk of FnExactCountLines, written by wip/genwalk.py out of the law's text. -/
import Derived.Test.YtcahafbikmknaaaCm
namespace Go.Proofs.Ytcahafbikmknaaa
open Go.RowKit
set_option linter.unusedVariables false

set_option maxRecDepth 100000 in
set_option maxHeartbeats 2000000 in
theorem walkCountLines (v0 : Value) (xs0 : List ByteArray) (fp0 : List Nat) (w : World) (hx0 : Sl fStr.cod w v0 xs0 fp0) :
    Calls Try.prog 6 #[v0] w fun e w' => YesR w e w' := by
  have hb : Below w.heap.size w w := Below.refl _ _
  have hi_hx0 := hx0.lt
  go_enter Try.func6, Try.ntmps6
  go_wp2_with fail
  refine (szStringS_any _ _ _ _ _ hx0 (by omega) (by omega)).mono ?_
  rintro e w1 ⟨r1, rfl, hr1_, hbn⟩
  have hsw1 := hbn.size
  replace hx0 := hx0.below' hbn
  replace hb := hb.trans (hbn.mono hb.size)
  clear hbn
  by_cases hneg : r1 < 0
  · go_wp2
    go_ret
    exact ⟨rfl, hb⟩
  have hr1 : 0 ≤ r1 ∧ r1 + (totStringS xs0 : Nat) = 1048576 := by
    rcases hr1_ with h | h
    · omega
    · exact h
  clear hr1_ hneg
  have htot0 : totStringS xs0 ≤ 1048576 := by omega
  have hr1b : r1 ≤ 1048576 := by omega
  have hr1a : 0 ≤ r1 := hr1.1
  have hlen0 : xs0.length ≤ 1048576 := by have := htot0; unfold totStringS at this; omega
  clear hr1
  go_wp2_with fail
  refine (toStringS_any _ _ _ _ hx0 hlen0).mono ?_
  rintro e w2 ⟨y0, rfl, ⟨fy0, hy0, lo0, nd0⟩, hbn⟩
  have hi0_ := hy0.lt
  have hsw2 := hbn.size
  replace hx0 := hx0.below' hbn
  replace hb := hb.trans (hbn.mono hb.size)
  clear hbn
  go_wp2_with fail
  refine (specCountLines_any _ _ _ _ hy0).mono ?_
  rintro e w3 ⟨y1, y2, rfl, fy1, fy2, hy1, hy2, lo1, lo2, nd1, nd2, dj1, hbn0⟩
  have hi1_ := hy1.lt
  have hi2_ := hy2.lt
  have hsw3 := hbn0.size
  replace hx0 := hx0.below' hbn0
  replace hy0 := hy0.below' hbn0
  replace hb := hb.trans (hbn0.mono hb.size)
  clear hbn0
  go_wp2_with fail
  refine (toStringS_any _ _ _ _ hx0 hlen0).mono ?_
  rintro e w4 ⟨y3, rfl, ⟨fy3, hy3, lo3, nd3⟩, hbn⟩
  have hi3_ := hy3.lt
  have hsw4 := hbn.size
  replace hx0 := hx0.below' hbn
  replace hy0 := hy0.below' hbn
  replace hy1 := hy1.below' hbn
  replace hy2 := hy2.below' hbn
  replace hb := hb.trans (hbn.mono hb.size)
  clear hbn
  go_wp2_with fail
  refine (implCountLines_any _ _ _ _ hy3).mono ?_
  rintro e w5 ⟨y4, y5, rfl, fy4, fy5, hy4, hy5, lo4, lo5, nd4, nd5, dj4, hbn0⟩
  have hi4_ := hy4.lt
  have hi5_ := hy5.lt
  have hsw5 := hbn0.size
  replace hx0 := hx0.below' hbn0
  replace hy0 := hy0.below' hbn0
  replace hy1 := hy1.below' hbn0
  replace hy2 := hy2.below' hbn0
  replace hy3 := hy3.below' hbn0
  replace hb := hb.trans (hbn0.mono hb.size)
  clear hbn0
  go_wp2_with fail
  refine (eqStringS_any _ _ _ _ _ _ hy4 hy1).mono ?_
  rintro e w6 ⟨rfl, hbn⟩
  have hsw6 := hbn.size
  replace hx0 := hx0.below' hbn
  replace hy0 := hy0.below' hbn
  replace hy1 := hy1.below' hbn
  replace hy2 := hy2.below' hbn
  replace hy3 := hy3.below' hbn
  replace hy4 := hy4.below' hbn
  replace hy5 := hy5.below' hbn
  replace hb := hb.trans (hbn.mono hb.size)
  clear hbn
  go_wp2_with fail
  refine (eqInt64S_any _ _ _ _ _ _ hy5 hy2).mono ?_
  rintro e w7 ⟨rfl, hbn⟩
  have hsw7 := hbn.size
  replace hx0 := hx0.below' hbn
  replace hy0 := hy0.below' hbn
  replace hy1 := hy1.below' hbn
  replace hy2 := hy2.below' hbn
  replace hy3 := hy3.below' hbn
  replace hy4 := hy4.below' hbn
  replace hy5 := hy5.below' hbn
  replace hb := hb.trans (hbn.mono hb.size)
  clear hbn
  go_wp2_with fail
  refine (toStringS_any _ _ _ _ hx0 hlen0).mono ?_
  rintro e w8 ⟨y6, rfl, ⟨fy6, hy6, lo6, nd6⟩, hbn⟩
  have hi6_ := hy6.lt
  have hsw8 := hbn.size
  replace hx0 := hx0.below' hbn
  replace hy0 := hy0.below' hbn
  replace hy1 := hy1.below' hbn
  replace hy2 := hy2.below' hbn
  replace hy3 := hy3.below' hbn
  replace hy4 := hy4.below' hbn
  replace hy5 := hy5.below' hbn
  replace hb := hb.trans (hbn.mono hb.size)
  clear hbn
  go_wp2_with fail
  refine (eqStringS_any _ _ _ _ _ _ hy3 hy6).mono ?_
  rintro e w9 ⟨rfl, hbn⟩
  have hsw9 := hbn.size
  replace hx0 := hx0.below' hbn
  replace hy0 := hy0.below' hbn
  replace hy1 := hy1.below' hbn
  replace hy2 := hy2.below' hbn
  replace hy3 := hy3.below' hbn
  replace hy4 := hy4.below' hbn
  replace hy5 := hy5.below' hbn
  replace hy6 := hy6.below' hbn
  replace hb := hb.trans (hbn.mono hb.size)
  clear hbn
  go_wp2_with fail
  have hgl : (xs0).length ≤ 100000000000 := by omega
  refine (markStringS_any _ _ _ _ _ hy3 (by omega) (by omega)).mono ?_
  clear hgl
  rintro e w10 ⟨rfl, hmk, hon⟩
  replace hx0 := hx0.only hon (fun b h1 h2 => by have q1 := hi_hx0 b h1; have q2 := lo3 b h2; omega)
  replace hy0 := hy0.only hon (fun b h1 h2 => by have q1 := lo0 b h1; have q2 := lo3 b h2; have q3 := hi0_ b h1; have q4 := hi3_ b h2; omega)
  replace hy1 := hy1.only hon (fun b h1 h2 => by have q1 := lo1 b h1; have q2 := lo3 b h2; have q3 := hi1_ b h1; have q4 := hi3_ b h2; omega)
  replace hy2 := hy2.only hon (fun b h1 h2 => by have q1 := lo2 b h1; have q2 := lo3 b h2; have q3 := hi2_ b h1; have q4 := hi3_ b h2; omega)
  replace hy4 := hy4.only hon (fun b h1 h2 => by have q1 := lo4 b h1; have q2 := lo3 b h2; have q3 := hi4_ b h1; have q4 := hi3_ b h2; omega)
  replace hy5 := hy5.only hon (fun b h1 h2 => by have q1 := lo5 b h1; have q2 := lo3 b h2; have q3 := hi5_ b h1; have q4 := hi3_ b h2; omega)
  replace hy6 := hy6.only hon (fun b h1 h2 => by have q1 := lo6 b h1; have q2 := lo3 b h2; have q3 := hi6_ b h1; have q4 := hi3_ b h2; omega)
  replace hy3 := hmk
  clear hmk
  have hsw10 := hon.size
  replace hb := hb.trans (hon.below (B := w.heap.size) (by omega) (fun b h => by have q1 := lo3 b h; omega))
  clear hon
  go_wp2_with fail
  refine (eqStringS_any _ _ _ _ _ _ hy4 hy1).mono ?_
  rintro e w11 ⟨rfl, hbn⟩
  have hsw11 := hbn.size
  replace hx0 := hx0.below' hbn
  replace hy0 := hy0.below' hbn
  replace hy1 := hy1.below' hbn
  replace hy2 := hy2.below' hbn
  replace hy3 := hy3.below' hbn
  replace hy4 := hy4.below' hbn
  replace hy5 := hy5.below' hbn
  replace hy6 := hy6.below' hbn
  replace hb := hb.trans (hbn.mono hb.size)
  clear hbn
  go_wp2_with fail
  refine (eqInt64S_any _ _ _ _ _ _ hy5 hy2).mono ?_
  rintro e w12 ⟨rfl, hbn⟩
  have hsw12 := hbn.size
  replace hx0 := hx0.below' hbn
  replace hy0 := hy0.below' hbn
  replace hy1 := hy1.below' hbn
  replace hy2 := hy2.below' hbn
  replace hy3 := hy3.below' hbn
  replace hy4 := hy4.below' hbn
  replace hy5 := hy5.below' hbn
  replace hy6 := hy6.below' hbn
  replace hb := hb.trans (hbn.mono hb.size)
  clear hbn
  go_wp2_with fail
  have hgl2 : (clM xs0).length ≤ 100000000000 := clM_len (by omega)
  have hgl : (clD xs0).length ≤ 100000000000 := clD_len (by omega)
  refine (markStringS_any _ _ _ _ _ hy4 (by omega) (by omega)).mono ?_
  clear hgl hgl2
  rintro e w13 ⟨rfl, hmk, hon⟩
  replace hx0 := hx0.only hon (fun b h1 h2 => by have q1 := hi_hx0 b h1; have q2 := lo4 b h2; omega)
  replace hy0 := hy0.only hon (fun b h1 h2 => by have q1 := lo0 b h1; have q2 := lo4 b h2; have q3 := hi0_ b h1; have q4 := hi4_ b h2; omega)
  replace hy1 := hy1.only hon (fun b h1 h2 => by have q1 := lo1 b h1; have q2 := lo4 b h2; have q3 := hi1_ b h1; have q4 := hi4_ b h2; omega)
  replace hy2 := hy2.only hon (fun b h1 h2 => by have q1 := lo2 b h1; have q2 := lo4 b h2; have q3 := hi2_ b h1; have q4 := hi4_ b h2; omega)
  replace hy3 := hy3.only hon (fun b h1 h2 => by have q1 := lo3 b h1; have q2 := lo4 b h2; have q3 := hi3_ b h1; have q4 := hi4_ b h2; omega)
  replace hy5 := hy5.only hon (fun b h1 h2 => dj4 b h2 h1)
  replace hy6 := hy6.only hon (fun b h1 h2 => by have q1 := lo6 b h1; have q2 := lo4 b h2; have q3 := hi6_ b h1; have q4 := hi4_ b h2; omega)
  replace hy4 := hmk
  clear hmk
  have hsw13 := hon.size
  replace hb := hb.trans (hon.below (B := w.heap.size) (by omega) (fun b h => by have q1 := lo4 b h; omega))
  clear hon
  go_wp2_with fail
  have hgl2 : (clD xs0).length ≤ 100000000000 := clD_len (by omega)
  have hgl : (clM xs0).length ≤ 100000000000 := clM_len (by omega)
  refine (markInt64S_any _ _ _ _ _ hy5 (by omega) (by omega)).mono ?_
  clear hgl hgl2
  rintro e w14 ⟨rfl, hmk, hon⟩
  replace hx0 := hx0.only hon (fun b h1 h2 => by have q1 := hi_hx0 b h1; have q2 := lo5 b h2; omega)
  replace hy0 := hy0.only hon (fun b h1 h2 => by have q1 := lo0 b h1; have q2 := lo5 b h2; have q3 := hi0_ b h1; have q4 := hi5_ b h2; omega)
  replace hy1 := hy1.only hon (fun b h1 h2 => by have q1 := lo1 b h1; have q2 := lo5 b h2; have q3 := hi1_ b h1; have q4 := hi5_ b h2; omega)
  replace hy2 := hy2.only hon (fun b h1 h2 => by have q1 := lo2 b h1; have q2 := lo5 b h2; have q3 := hi2_ b h1; have q4 := hi5_ b h2; omega)
  replace hy3 := hy3.only hon (fun b h1 h2 => by have q1 := lo3 b h1; have q2 := lo5 b h2; have q3 := hi3_ b h1; have q4 := hi5_ b h2; omega)
  replace hy4 := hy4.only hon (fun b h1 h2 => dj4 b h1 h2)
  replace hy6 := hy6.only hon (fun b h1 h2 => by have q1 := lo6 b h1; have q2 := lo5 b h2; have q3 := hi6_ b h1; have q4 := hi5_ b h2; omega)
  replace hy5 := hmk
  clear hmk
  have hsw14 := hon.size
  replace hb := hb.trans (hon.below (B := w.heap.size) (by omega) (fun b h => by have q1 := lo5 b h; omega))
  clear hon
  go_wp2_with fail
  have hgl2 : (clM xs0).length ≤ 100000000000 := clM_len (by omega)
  have hgl : (clD xs0).length ≤ 100000000000 := clD_len (by omega)
  refine (heldStringS_any _ _ _ _ _ hy4 (by omega) (by omega)).mono ?_
  clear hgl hgl2
  rintro e w15 ⟨rfl, hbn⟩
  have hsw15 := hbn.size
  replace hx0 := hx0.below' hbn
  replace hy0 := hy0.below' hbn
  replace hy1 := hy1.below' hbn
  replace hy2 := hy2.below' hbn
  replace hy3 := hy3.below' hbn
  replace hy4 := hy4.below' hbn
  replace hy5 := hy5.below' hbn
  replace hy6 := hy6.below' hbn
  replace hb := hb.trans (hbn.mono hb.size)
  clear hbn
  go_wp2_with fail
  have hgl2 : (clD xs0).length ≤ 100000000000 := clD_len (by omega)
  have hgl : (clM xs0).length ≤ 100000000000 := clM_len (by omega)
  refine (heldInt64S_any _ _ _ _ _ hy5 (by omega) (by omega)).mono ?_
  clear hgl hgl2
  rintro e w16 ⟨rfl, hbn⟩
  have hsw16 := hbn.size
  replace hx0 := hx0.below' hbn
  replace hy0 := hy0.below' hbn
  replace hy1 := hy1.below' hbn
  replace hy2 := hy2.below' hbn
  replace hy3 := hy3.below' hbn
  replace hy4 := hy4.below' hbn
  replace hy5 := hy5.below' hbn
  replace hy6 := hy6.below' hbn
  replace hb := hb.trans (hbn.mono hb.size)
  clear hbn
  go_wp2_with fail
  refine (toStringS_any _ _ _ _ hx0 hlen0).mono ?_
  rintro e w17 ⟨y7, rfl, ⟨fy7, hy7, lo7, nd7⟩, hbn⟩
  have hi7_ := hy7.lt
  have hsw17 := hbn.size
  replace hx0 := hx0.below' hbn
  replace hy0 := hy0.below' hbn
  replace hy1 := hy1.below' hbn
  replace hy2 := hy2.below' hbn
  replace hy3 := hy3.below' hbn
  replace hy4 := hy4.below' hbn
  replace hy5 := hy5.below' hbn
  replace hy6 := hy6.below' hbn
  replace hb := hb.trans (hbn.mono hb.size)
  clear hbn
  go_wp2_with fail
  refine (implCountLines_any _ _ _ _ hy7).mono ?_
  rintro e w18 ⟨y8, y9, rfl, fy8, fy9, hy8, hy9, lo8, lo9, nd8, nd9, dj8, hbn0⟩
  have hi8_ := hy8.lt
  have hi9_ := hy9.lt
  have hsw18 := hbn0.size
  replace hx0 := hx0.below' hbn0
  replace hy0 := hy0.below' hbn0
  replace hy1 := hy1.below' hbn0
  replace hy2 := hy2.below' hbn0
  replace hy3 := hy3.below' hbn0
  replace hy4 := hy4.below' hbn0
  replace hy5 := hy5.below' hbn0
  replace hy6 := hy6.below' hbn0
  replace hy7 := hy7.below' hbn0
  replace hb := hb.trans (hbn0.mono hb.size)
  clear hbn0
  go_wp2_with fail
  refine (eqStringS_any _ _ _ _ _ _ hy8 hy1).mono ?_
  rintro e w19 ⟨rfl, hbn⟩
  have hsw19 := hbn.size
  replace hx0 := hx0.below' hbn
  replace hy0 := hy0.below' hbn
  replace hy1 := hy1.below' hbn
  replace hy2 := hy2.below' hbn
  replace hy3 := hy3.below' hbn
  replace hy4 := hy4.below' hbn
  replace hy5 := hy5.below' hbn
  replace hy6 := hy6.below' hbn
  replace hy7 := hy7.below' hbn
  replace hy8 := hy8.below' hbn
  replace hy9 := hy9.below' hbn
  replace hb := hb.trans (hbn.mono hb.size)
  clear hbn
  go_wp2_with fail
  refine (eqInt64S_any _ _ _ _ _ _ hy9 hy2).mono ?_
  rintro e w20 ⟨rfl, hbn⟩
  have hsw20 := hbn.size
  replace hx0 := hx0.below' hbn
  replace hy0 := hy0.below' hbn
  replace hy1 := hy1.below' hbn
  replace hy2 := hy2.below' hbn
  replace hy3 := hy3.below' hbn
  replace hy4 := hy4.below' hbn
  replace hy5 := hy5.below' hbn
  replace hy6 := hy6.below' hbn
  replace hy7 := hy7.below' hbn
  replace hy8 := hy8.below' hbn
  replace hy9 := hy9.below' hbn
  replace hb := hb.trans (hbn.mono hb.size)
  clear hbn
  go_wp2_with fail
  have hgl2 : (clM xs0).length ≤ 100000000000 := clM_len (by omega)
  have hgl : (clD xs0).length ≤ 100000000000 := clD_len (by omega)
  refine (heldStringS_any _ _ _ _ _ hy4 (by omega) (by omega)).mono ?_
  clear hgl hgl2
  rintro e w21 ⟨rfl, hbn⟩
  have hsw21 := hbn.size
  replace hx0 := hx0.below' hbn
  replace hy0 := hy0.below' hbn
  replace hy1 := hy1.below' hbn
  replace hy2 := hy2.below' hbn
  replace hy3 := hy3.below' hbn
  replace hy4 := hy4.below' hbn
  replace hy5 := hy5.below' hbn
  replace hy6 := hy6.below' hbn
  replace hy7 := hy7.below' hbn
  replace hy8 := hy8.below' hbn
  replace hy9 := hy9.below' hbn
  replace hb := hb.trans (hbn.mono hb.size)
  clear hbn
  go_wp2_with fail
  have hgl2 : (clD xs0).length ≤ 100000000000 := clD_len (by omega)
  have hgl : (clM xs0).length ≤ 100000000000 := clM_len (by omega)
  refine (heldInt64S_any _ _ _ _ _ hy5 (by omega) (by omega)).mono ?_
  clear hgl hgl2
  rintro e w22 ⟨rfl, hbn⟩
  have hsw22 := hbn.size
  replace hx0 := hx0.below' hbn
  replace hy0 := hy0.below' hbn
  replace hy1 := hy1.below' hbn
  replace hy2 := hy2.below' hbn
  replace hy3 := hy3.below' hbn
  replace hy4 := hy4.below' hbn
  replace hy5 := hy5.below' hbn
  replace hy6 := hy6.below' hbn
  replace hy7 := hy7.below' hbn
  replace hy8 := hy8.below' hbn
  replace hy9 := hy9.below' hbn
  replace hb := hb.trans (hbn.mono hb.size)
  clear hbn
  go_wp2_with fail
  go_ret
  exact ⟨rfl, hb⟩
end Go.Proofs.Ytcahafbikmknaaa
