/- The walk of FnExactLoadBlocks, written by wip/genwalk.py out of the law's text. -/
import Derived.Test.YtaaholabodchaaaGreatDoorLb
import Derived.Test.YtaaholabodchaaaGreatDoorTBlock
import Derived.Test.YtaaholabodchaaaGreatDoorTString
namespace Go.Proofs.YtaaholabodchaaaGreatDoor
open Go.RowKit
set_option linter.unusedVariables false

set_option maxRecDepth 100000 in
set_option maxHeartbeats 2000000 in
theorem walkLoadBlocks (a0 : ByteArray) (w : World) (hsz0 : a0.size ≤ maxLen) (hsh : w.ShapedOpen Tryz.prog) (htab : RdTabs w) :
    Calls Tryz.prog 3 #[.string a0] w fun e w' => YesR w e w' := by
  replace hsz0 : a0.size ≤ 9223372036854775807 := by unfold maxLen at hsz0; exact hsz0
  have hb : Below w.heap.size w w := Below.refl _ _
  obtain ⟨m, hm⟩ := maxLen_cell hsh
  go_enter Tryz.func3, Tryz.ntmps3
  by_cases hbig0 : (1048576 : Int) < (a0.size : Int)
  · go_wp2
    go_ret
    exact ⟨rfl, hb⟩
  have hlt0 : a0.size ≤ 1048576 := by omega
  go_wp2_with fail
  refine (specLoadBlocks_any a0 _ hlt0).mono ?_
  rintro e w1 ⟨y0, rfl, ⟨⟨fy0, hy0, lo0, nd0⟩, hbn0⟩⟩
  have hi0_ := hy0.lt
  have hsw1 := hbn0.size
  replace hb := hb.trans (hbn0.mono hb.size)
  clear hbn0
  go_wp2_with fail
  refine (implLoadBlocks_any a0 m _ hlt0 (cell_below hb hm) (htab.below hb)).mono ?_
  rintro e w2 ⟨y1, rfl, ⟨⟨fy1, hy1, lo1, nd1⟩, hbn0⟩⟩
  have hi1_ := hy1.lt
  have hsw2 := hbn0.size
  replace hy0 := hy0.below' hbn0
  replace hb := hb.trans (hbn0.mono hb.size)
  clear hbn0
  go_wp2_with fail
  refine (eqBlockS_any _ _ _ _ _ _ hy1 hy0).mono ?_
  rintro e w3 ⟨rfl, hbn⟩
  have hsw3 := hbn.size
  replace hy0 := hy0.below' hbn
  replace hy1 := hy1.below' hbn
  replace hb := hb.trans (hbn.mono hb.size)
  clear hbn
  go_wp2_with fail
  have hgl : ((ldRes a0).1).length ≤ 100000000000 := ldRes_len hlt0
  refine (markBlockS_any _ _ _ _ _ hy1 (by omega) (by omega)).mono ?_
  clear hgl
  rintro e w4 ⟨rfl, hmk, hon⟩
  replace hy0 := hy0.only hon (fun b h1 h2 => by have q1 := lo0 b h1; have q2 := lo1 b h2; have q3 := hi0_ b h1; have q4 := hi1_ b h2; omega)
  replace hy1 := hmk
  clear hmk
  have hsw4 := hon.size
  replace hb := hb.trans (hon.below (B := w.heap.size) (by omega) (fun b h => by have q1 := lo1 b h; omega))
  clear hon
  go_wp2_with fail
  have hgl : ((ldRes a0).1).length ≤ 100000000000 := ldRes_len hlt0
  refine (heldBlockS_any _ _ _ _ _ hy1 (by omega) (by omega)).mono ?_
  clear hgl
  rintro e w5 ⟨rfl, hbn⟩
  have hsw5 := hbn.size
  replace hy0 := hy0.below' hbn
  replace hy1 := hy1.below' hbn
  replace hb := hb.trans (hbn.mono hb.size)
  clear hbn
  go_wp2_with fail
  refine (implLoadBlocks_any a0 m _ hlt0 (cell_below hb hm) (htab.below hb)).mono ?_
  rintro e w6 ⟨y2, rfl, ⟨⟨fy2, hy2, lo2, nd2⟩, hbn0⟩⟩
  have hi2_ := hy2.lt
  have hsw6 := hbn0.size
  replace hy0 := hy0.below' hbn0
  replace hy1 := hy1.below' hbn0
  replace hb := hb.trans (hbn0.mono hb.size)
  clear hbn0
  go_wp2_with fail
  refine (eqBlockS_any _ _ _ _ _ _ hy2 hy0).mono ?_
  rintro e w7 ⟨rfl, hbn⟩
  have hsw7 := hbn.size
  replace hy0 := hy0.below' hbn
  replace hy1 := hy1.below' hbn
  replace hy2 := hy2.below' hbn
  replace hb := hb.trans (hbn.mono hb.size)
  clear hbn
  go_wp2_with fail
  have hgl : ((ldRes a0).1).length ≤ 100000000000 := ldRes_len hlt0
  refine (heldBlockS_any _ _ _ _ _ hy1 (by omega) (by omega)).mono ?_
  clear hgl
  rintro e w8 ⟨rfl, hbn⟩
  have hsw8 := hbn.size
  replace hy0 := hy0.below' hbn
  replace hy1 := hy1.below' hbn
  replace hy2 := hy2.below' hbn
  replace hb := hb.trans (hbn.mono hb.size)
  clear hbn
  go_wp2_with fail
  go_ret
  exact ⟨rfl, hb⟩
end Go.Proofs.YtaaholabodchaaaGreatDoor
