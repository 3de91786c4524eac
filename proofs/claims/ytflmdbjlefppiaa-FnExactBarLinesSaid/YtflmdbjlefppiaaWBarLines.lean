/- The walk of FnExactBarLines, written by wip/genwalk.py out of the law's text. -/
import Derived.Test.YtflmdbjlefppiaaBl
import Derived.Test.YtflmdbjlefppiaaTString
import Derived.Test.YtflmdbjlefppiaaTInt64
namespace Go.Proofs.Ytflmdbjlefppiaa
open Go.RowKit
set_option linter.unusedVariables false

set_option maxRecDepth 100000 in
set_option maxHeartbeats 2000000 in
theorem walkBarLines (v0 : Value) (xs0 : List Int) (fp0 : List Nat) (a1 : Int) (w : World) (hx0 : Sl fInt.cod w v0 xs0 fp0) (hi1 : -9223372036854775808 ≤ a1 ∧ a1 ≤ 9223372036854775807) :
    Calls Try.prog 5 #[v0, .int .i64 a1] w fun e w' => YesR w e w' := by
  obtain ⟨A0, cap0, rfl, hle0, hca0⟩ := hx0.form
  have hb : Below w.heap.size w w := Below.refl _ _
  have hi_hx0 := hx0.lt
  go_enter Try.func5, Try.ntmps5
  by_cases hbig0 : (1048576 : Int) < (xs0.length : Int)
  · go_wp2
    go_ret
    exact ⟨rfl, hb⟩
  have hlen0 : xs0.length ≤ 1048576 := by omega
  go_wp2_with fail
  refine (toInt64S_any _ _ _ _ hx0 hlen0).mono ?_
  rintro e w1 ⟨y0, rfl, ⟨fy0, hy0, lo0, nd0⟩, hbn⟩
  have hi0_ := hy0.lt
  have hsw1 := hbn.size
  replace hx0 := hx0.below' hbn
  replace hb := hb.trans (hbn.mono hb.size)
  clear hbn
  go_wp2_with fail
  refine (specBarLines_any _ _ _ _ _ hy0 hlen0).mono ?_
  rintro e w2 ⟨y1, rfl, ⟨⟨fy1, hy1, lo1, nd1⟩, hbn0⟩⟩
  have hi1_ := hy1.lt
  have hsw2 := hbn0.size
  replace hx0 := hx0.below' hbn0
  replace hy0 := hy0.below' hbn0
  replace hb := hb.trans (hbn0.mono hb.size)
  clear hbn0
  go_wp2_with fail
  refine (toInt64S_any _ _ _ _ hx0 hlen0).mono ?_
  rintro e w3 ⟨y2, rfl, ⟨fy2, hy2, lo2, nd2⟩, hbn⟩
  have hi2_ := hy2.lt
  have hsw3 := hbn.size
  replace hx0 := hx0.below' hbn
  replace hy0 := hy0.below' hbn
  replace hy1 := hy1.below' hbn
  replace hb := hb.trans (hbn.mono hb.size)
  clear hbn
  go_wp2_with fail
  refine (implBarLines_any _ _ _ _ _ hy2 hlen0).mono ?_
  rintro e w4 ⟨y3, rfl, ⟨⟨fy3, hy3, lo3, nd3⟩, hbn0⟩⟩
  have hi3_ := hy3.lt
  have hsw4 := hbn0.size
  replace hx0 := hx0.below' hbn0
  replace hy0 := hy0.below' hbn0
  replace hy1 := hy1.below' hbn0
  replace hy2 := hy2.below' hbn0
  replace hb := hb.trans (hbn0.mono hb.size)
  clear hbn0
  go_wp2_with fail
  refine (eqStringS_any _ _ _ _ _ _ hy3 hy1).mono ?_
  rintro e w5 ⟨rfl, hbn⟩
  have hsw5 := hbn.size
  replace hx0 := hx0.below' hbn
  replace hy0 := hy0.below' hbn
  replace hy1 := hy1.below' hbn
  replace hy2 := hy2.below' hbn
  replace hy3 := hy3.below' hbn
  replace hb := hb.trans (hbn.mono hb.size)
  clear hbn
  go_wp2_with fail
  refine (toInt64S_any _ _ _ _ hx0 hlen0).mono ?_
  rintro e w6 ⟨y4, rfl, ⟨fy4, hy4, lo4, nd4⟩, hbn⟩
  have hi4_ := hy4.lt
  have hsw6 := hbn.size
  replace hx0 := hx0.below' hbn
  replace hy0 := hy0.below' hbn
  replace hy1 := hy1.below' hbn
  replace hy2 := hy2.below' hbn
  replace hy3 := hy3.below' hbn
  replace hb := hb.trans (hbn.mono hb.size)
  clear hbn
  go_wp2_with fail
  refine (eqInt64S_any _ _ _ _ _ _ hy2 hy4).mono ?_
  rintro e w7 ⟨rfl, hbn⟩
  have hsw7 := hbn.size
  replace hx0 := hx0.below' hbn
  replace hy0 := hy0.below' hbn
  replace hy1 := hy1.below' hbn
  replace hy2 := hy2.below' hbn
  replace hy3 := hy3.below' hbn
  replace hy4 := hy4.below' hbn
  replace hb := hb.trans (hbn.mono hb.size)
  clear hbn
  go_wp2_with fail
  have hgl : (xs0).length ≤ 100000000000 := by omega
  refine (markInt64S_any _ _ _ _ _ hy2 (by omega) (by omega)).mono ?_
  clear hgl
  rintro e w8 ⟨rfl, hmk, hon⟩
  replace hx0 := hx0.only hon (fun b h1 h2 => by have q1 := hi_hx0 b h1; have q2 := lo2 b h2; omega)
  replace hy0 := hy0.only hon (fun b h1 h2 => by have q1 := lo0 b h1; have q2 := lo2 b h2; have q3 := hi0_ b h1; have q4 := hi2_ b h2; omega)
  replace hy1 := hy1.only hon (fun b h1 h2 => by have q1 := lo1 b h1; have q2 := lo2 b h2; have q3 := hi1_ b h1; have q4 := hi2_ b h2; omega)
  replace hy3 := hy3.only hon (fun b h1 h2 => by have q1 := lo3 b h1; have q2 := lo2 b h2; have q3 := hi3_ b h1; have q4 := hi2_ b h2; omega)
  replace hy4 := hy4.only hon (fun b h1 h2 => by have q1 := lo4 b h1; have q2 := lo2 b h2; have q3 := hi4_ b h1; have q4 := hi2_ b h2; omega)
  replace hy2 := hmk
  clear hmk
  have hsw8 := hon.size
  replace hb := hb.trans (hon.below (B := w.heap.size) (by omega) (fun b h => by have q1 := lo2 b h; omega))
  clear hon
  go_wp2_with fail
  refine (eqStringS_any _ _ _ _ _ _ hy3 hy1).mono ?_
  rintro e w9 ⟨rfl, hbn⟩
  have hsw9 := hbn.size
  replace hx0 := hx0.below' hbn
  replace hy0 := hy0.below' hbn
  replace hy1 := hy1.below' hbn
  replace hy2 := hy2.below' hbn
  replace hy3 := hy3.below' hbn
  replace hy4 := hy4.below' hbn
  replace hb := hb.trans (hbn.mono hb.size)
  clear hbn
  go_wp2_with fail
  have hgl : (barF xs0 a1).length ≤ 100000000000 := barF_len hlen0
  refine (markStringS_any _ _ _ _ _ hy3 (by omega) (by omega)).mono ?_
  clear hgl
  rintro e w10 ⟨rfl, hmk, hon⟩
  replace hx0 := hx0.only hon (fun b h1 h2 => by have q1 := hi_hx0 b h1; have q2 := lo3 b h2; omega)
  replace hy0 := hy0.only hon (fun b h1 h2 => by have q1 := lo0 b h1; have q2 := lo3 b h2; have q3 := hi0_ b h1; have q4 := hi3_ b h2; omega)
  replace hy1 := hy1.only hon (fun b h1 h2 => by have q1 := lo1 b h1; have q2 := lo3 b h2; have q3 := hi1_ b h1; have q4 := hi3_ b h2; omega)
  replace hy2 := hy2.only hon (fun b h1 h2 => by have q1 := lo2 b h1; have q2 := lo3 b h2; have q3 := hi2_ b h1; have q4 := hi3_ b h2; omega)
  replace hy4 := hy4.only hon (fun b h1 h2 => by have q1 := lo4 b h1; have q2 := lo3 b h2; have q3 := hi4_ b h1; have q4 := hi3_ b h2; omega)
  replace hy3 := hmk
  clear hmk
  have hsw10 := hon.size
  replace hb := hb.trans (hon.below (B := w.heap.size) (by omega) (fun b h => by have q1 := lo3 b h; omega))
  clear hon
  go_wp2_with fail
  have hgl : (barF xs0 a1).length ≤ 100000000000 := barF_len hlen0
  refine (heldStringS_any _ _ _ _ _ hy3 (by omega) (by omega)).mono ?_
  clear hgl
  rintro e w11 ⟨rfl, hbn⟩
  have hsw11 := hbn.size
  replace hx0 := hx0.below' hbn
  replace hy0 := hy0.below' hbn
  replace hy1 := hy1.below' hbn
  replace hy2 := hy2.below' hbn
  replace hy3 := hy3.below' hbn
  replace hy4 := hy4.below' hbn
  replace hb := hb.trans (hbn.mono hb.size)
  clear hbn
  go_wp2_with fail
  refine (toInt64S_any _ _ _ _ hx0 hlen0).mono ?_
  rintro e w12 ⟨y5, rfl, ⟨fy5, hy5, lo5, nd5⟩, hbn⟩
  have hi5_ := hy5.lt
  have hsw12 := hbn.size
  replace hx0 := hx0.below' hbn
  replace hy0 := hy0.below' hbn
  replace hy1 := hy1.below' hbn
  replace hy2 := hy2.below' hbn
  replace hy3 := hy3.below' hbn
  replace hy4 := hy4.below' hbn
  replace hb := hb.trans (hbn.mono hb.size)
  clear hbn
  go_wp2_with fail
  refine (implBarLines_any _ _ _ _ _ hy5 hlen0).mono ?_
  rintro e w13 ⟨y6, rfl, ⟨⟨fy6, hy6, lo6, nd6⟩, hbn0⟩⟩
  have hi6_ := hy6.lt
  have hsw13 := hbn0.size
  replace hx0 := hx0.below' hbn0
  replace hy0 := hy0.below' hbn0
  replace hy1 := hy1.below' hbn0
  replace hy2 := hy2.below' hbn0
  replace hy3 := hy3.below' hbn0
  replace hy4 := hy4.below' hbn0
  replace hy5 := hy5.below' hbn0
  replace hb := hb.trans (hbn0.mono hb.size)
  clear hbn0
  go_wp2_with fail
  refine (eqStringS_any _ _ _ _ _ _ hy6 hy1).mono ?_
  rintro e w14 ⟨rfl, hbn⟩
  have hsw14 := hbn.size
  replace hx0 := hx0.below' hbn
  replace hy0 := hy0.below' hbn
  replace hy1 := hy1.below' hbn
  replace hy2 := hy2.below' hbn
  replace hy3 := hy3.below' hbn
  replace hy4 := hy4.below' hbn
  replace hy5 := hy5.below' hbn
  replace hy6 := hy6.below' hbn
  replace hb := hb.trans (hbn.mono hb.size)
  clear hbn
  go_wp2_with fail
  have hgl : (barF xs0 a1).length ≤ 100000000000 := barF_len hlen0
  refine (heldStringS_any _ _ _ _ _ hy3 (by omega) (by omega)).mono ?_
  clear hgl
  rintro e w15 ⟨rfl, hbn⟩
  have hsw15 := hbn.size
  replace hx0 := hx0.below' hbn
  replace hy0 := hy0.below' hbn
  replace hy1 := hy1.below' hbn
  replace hy2 := hy2.below' hbn
  replace hy3 := hy3.below' hbn
  replace hy4 := hy4.below' hbn
  replace hy5 := hy5.below' hbn
  replace hy6 := hy6.below' hbn
  replace hb := hb.trans (hbn.mono hb.size)
  clear hbn
  go_wp2_with fail
  go_ret
  exact ⟨rfl, hb⟩
end Go.Proofs.Ytflmdbjlefppiaa
