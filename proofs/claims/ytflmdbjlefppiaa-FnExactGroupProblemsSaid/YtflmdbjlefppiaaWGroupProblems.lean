/- The walk of FnExactGroupProblems, written by wip/genwalk.py out of the law's text. -/
import Derived.Test.YtflmdbjlefppiaaGg
namespace Go.Proofs.Ytflmdbjlefppiaa
open Go.RowKit
set_option linter.unusedVariables false

set_option maxRecDepth 100000 in
set_option maxHeartbeats 2000000 in
theorem walkGroupProblems (xs0 : DGroup) (w : World) (ok0 : fGroup.ok xs0) :
    Calls Try.prog 9 #[.agg #[.string xs0.id, .int .i64 xs0.people, .int .i64 xs0.guides, .int .i64 xs0.beacons, .int .i64 xs0.shovels, .int .i64 xs0.probes, .int .i64 xs0.skill]] w fun e w' => YesR w e w' := by
  go_enter Try.func9, Try.ntmps9
  go_wp2_with fail
  refine (szGroup_any xs0 _ _ ok0 (by omega) (by omega)).mono ?_
  rintro e w1 ⟨r1, rfl, hr1_, hbn⟩
  have hb0s := hbn.size
  have hc0_0 : w1.cell? ⟨w.heap.size, 0, none⟩ = some (.string xs0.id) := by rw [hbn.cell (by simp)]; simp
  have hc0_1 : w1.cell? ⟨w.heap.size, 1, none⟩ = some (.int .i64 xs0.people) := by rw [hbn.cell (by simp)]; simp
  have hc0_2 : w1.cell? ⟨w.heap.size, 2, none⟩ = some (.int .i64 xs0.guides) := by rw [hbn.cell (by simp)]; simp
  have hc0_3 : w1.cell? ⟨w.heap.size, 3, none⟩ = some (.int .i64 xs0.beacons) := by rw [hbn.cell (by simp)]; simp
  have hc0_4 : w1.cell? ⟨w.heap.size, 4, none⟩ = some (.int .i64 xs0.shovels) := by rw [hbn.cell (by simp)]; simp
  have hc0_5 : w1.cell? ⟨w.heap.size, 5, none⟩ = some (.int .i64 xs0.probes) := by rw [hbn.cell (by simp)]; simp
  have hc0_6 : w1.cell? ⟨w.heap.size, 6, none⟩ = some (.int .i64 xs0.skill) := by rw [hbn.cell (by simp)]; simp
  have hb : Below w.heap.size w w1 := ((Below.refl _ _).alloc (Nat.le_refl _) _).trans (hbn.mono (by simp))
  have hsw1 := hb.size
  simp at hb0s
  clear hbn
  by_cases hneg : r1 < 0
  · go_wp2
    go_ret
    exact ⟨rfl, hb⟩
  have hr1 : 0 ≤ r1 ∧ r1 + (totGroup xs0 : Nat) = 1048576 := by
    rcases hr1_ with h | h
    · omega
    · exact h
  clear hr1_ hneg
  have htot0 : totGroup xs0 ≤ 1048576 := by omega
  have hr1b : r1 ≤ 1048576 := by omega
  have hr1a : 0 ≤ r1 := hr1.1
  clear hr1
  go_wp2_with fail
  refine (toGroup_any xs0 _).mono ?_
  rintro e w2 ⟨rfl, hbn⟩
  have hsw2 := hbn.size
  replace hc0_0 := (hbn.cell (p := ⟨w.heap.size, 0, none⟩) (by (try simp at hb0s); (try simp); omega)).trans hc0_0
  replace hc0_1 := (hbn.cell (p := ⟨w.heap.size, 1, none⟩) (by (try simp at hb0s); (try simp); omega)).trans hc0_1
  replace hc0_2 := (hbn.cell (p := ⟨w.heap.size, 2, none⟩) (by (try simp at hb0s); (try simp); omega)).trans hc0_2
  replace hc0_3 := (hbn.cell (p := ⟨w.heap.size, 3, none⟩) (by (try simp at hb0s); (try simp); omega)).trans hc0_3
  replace hc0_4 := (hbn.cell (p := ⟨w.heap.size, 4, none⟩) (by (try simp at hb0s); (try simp); omega)).trans hc0_4
  replace hc0_5 := (hbn.cell (p := ⟨w.heap.size, 5, none⟩) (by (try simp at hb0s); (try simp); omega)).trans hc0_5
  replace hc0_6 := (hbn.cell (p := ⟨w.heap.size, 6, none⟩) (by (try simp at hb0s); (try simp); omega)).trans hc0_6
  replace hb := hb.trans (hbn.mono hb.size)
  clear hbn
  go_wp2_with fail
  refine (specGroupProblems_any xs0 _ ok0).mono ?_
  rintro e w3 ⟨y0, rfl, ⟨⟨fy0, hy0, lo0, nd0⟩, hbn0⟩⟩
  have hi0_ := hy0.lt
  have hsw3 := hbn0.size
  replace hc0_0 := (hbn0.cell (p := ⟨w.heap.size, 0, none⟩) (by (try simp at hb0s); (try simp); omega)).trans hc0_0
  replace hc0_1 := (hbn0.cell (p := ⟨w.heap.size, 1, none⟩) (by (try simp at hb0s); (try simp); omega)).trans hc0_1
  replace hc0_2 := (hbn0.cell (p := ⟨w.heap.size, 2, none⟩) (by (try simp at hb0s); (try simp); omega)).trans hc0_2
  replace hc0_3 := (hbn0.cell (p := ⟨w.heap.size, 3, none⟩) (by (try simp at hb0s); (try simp); omega)).trans hc0_3
  replace hc0_4 := (hbn0.cell (p := ⟨w.heap.size, 4, none⟩) (by (try simp at hb0s); (try simp); omega)).trans hc0_4
  replace hc0_5 := (hbn0.cell (p := ⟨w.heap.size, 5, none⟩) (by (try simp at hb0s); (try simp); omega)).trans hc0_5
  replace hc0_6 := (hbn0.cell (p := ⟨w.heap.size, 6, none⟩) (by (try simp at hb0s); (try simp); omega)).trans hc0_6
  replace hb := hb.trans (hbn0.mono hb.size)
  clear hbn0
  go_wp2_with fail
  refine (toGroup_any xs0 _).mono ?_
  rintro e w4 ⟨rfl, hbn⟩
  have hsw4 := hbn.size
  replace hy0 := hy0.below' hbn
  replace hc0_0 := (hbn.cell (p := ⟨w.heap.size, 0, none⟩) (by (try simp at hb0s); (try simp); omega)).trans hc0_0
  replace hc0_1 := (hbn.cell (p := ⟨w.heap.size, 1, none⟩) (by (try simp at hb0s); (try simp); omega)).trans hc0_1
  replace hc0_2 := (hbn.cell (p := ⟨w.heap.size, 2, none⟩) (by (try simp at hb0s); (try simp); omega)).trans hc0_2
  replace hc0_3 := (hbn.cell (p := ⟨w.heap.size, 3, none⟩) (by (try simp at hb0s); (try simp); omega)).trans hc0_3
  replace hc0_4 := (hbn.cell (p := ⟨w.heap.size, 4, none⟩) (by (try simp at hb0s); (try simp); omega)).trans hc0_4
  replace hc0_5 := (hbn.cell (p := ⟨w.heap.size, 5, none⟩) (by (try simp at hb0s); (try simp); omega)).trans hc0_5
  replace hc0_6 := (hbn.cell (p := ⟨w.heap.size, 6, none⟩) (by (try simp at hb0s); (try simp); omega)).trans hc0_6
  replace hb := hb.trans (hbn.mono hb.size)
  clear hbn
  go_wp2_with fail
  refine (implGroupProblems_any xs0 _ ok0).mono ?_
  rintro e w5 ⟨y1, rfl, ⟨⟨fy1, hy1, lo1, nd1⟩, hbn0⟩⟩
  have hi1_ := hy1.lt
  have hsw5 := hbn0.size
  replace hy0 := hy0.below' hbn0
  replace hc0_0 := (hbn0.cell (p := ⟨w.heap.size, 0, none⟩) (by (try simp at hb0s); (try simp); omega)).trans hc0_0
  replace hc0_1 := (hbn0.cell (p := ⟨w.heap.size, 1, none⟩) (by (try simp at hb0s); (try simp); omega)).trans hc0_1
  replace hc0_2 := (hbn0.cell (p := ⟨w.heap.size, 2, none⟩) (by (try simp at hb0s); (try simp); omega)).trans hc0_2
  replace hc0_3 := (hbn0.cell (p := ⟨w.heap.size, 3, none⟩) (by (try simp at hb0s); (try simp); omega)).trans hc0_3
  replace hc0_4 := (hbn0.cell (p := ⟨w.heap.size, 4, none⟩) (by (try simp at hb0s); (try simp); omega)).trans hc0_4
  replace hc0_5 := (hbn0.cell (p := ⟨w.heap.size, 5, none⟩) (by (try simp at hb0s); (try simp); omega)).trans hc0_5
  replace hc0_6 := (hbn0.cell (p := ⟨w.heap.size, 6, none⟩) (by (try simp at hb0s); (try simp); omega)).trans hc0_6
  replace hb := hb.trans (hbn0.mono hb.size)
  clear hbn0
  go_wp2_with fail
  refine (eqStringS_any _ _ _ _ _ _ hy1 hy0).mono ?_
  rintro e w6 ⟨rfl, hbn⟩
  have hsw6 := hbn.size
  replace hy0 := hy0.below' hbn
  replace hy1 := hy1.below' hbn
  replace hc0_0 := (hbn.cell (p := ⟨w.heap.size, 0, none⟩) (by (try simp at hb0s); (try simp); omega)).trans hc0_0
  replace hc0_1 := (hbn.cell (p := ⟨w.heap.size, 1, none⟩) (by (try simp at hb0s); (try simp); omega)).trans hc0_1
  replace hc0_2 := (hbn.cell (p := ⟨w.heap.size, 2, none⟩) (by (try simp at hb0s); (try simp); omega)).trans hc0_2
  replace hc0_3 := (hbn.cell (p := ⟨w.heap.size, 3, none⟩) (by (try simp at hb0s); (try simp); omega)).trans hc0_3
  replace hc0_4 := (hbn.cell (p := ⟨w.heap.size, 4, none⟩) (by (try simp at hb0s); (try simp); omega)).trans hc0_4
  replace hc0_5 := (hbn.cell (p := ⟨w.heap.size, 5, none⟩) (by (try simp at hb0s); (try simp); omega)).trans hc0_5
  replace hc0_6 := (hbn.cell (p := ⟨w.heap.size, 6, none⟩) (by (try simp at hb0s); (try simp); omega)).trans hc0_6
  replace hb := hb.trans (hbn.mono hb.size)
  clear hbn
  go_wp2_with fail
  have hgl : (gpF xs0).length ≤ 100000000000 := gpF_len _
  refine (markStringS_any _ _ _ _ _ hy1 (by omega) (by omega)).mono ?_
  clear hgl
  rintro e w7 ⟨rfl, hmk, hon⟩
  replace hy0 := hy0.only hon (fun b h1 h2 => by have q1 := lo0 b h1; have q2 := lo1 b h2; have q3 := hi0_ b h1; have q4 := hi1_ b h2; omega)
  replace hc0_0 := (World.cell?_of_block (a := ⟨w.heap.size, 0, none⟩) (hon.block (w.heap.size) (by omega) (fun h2 => by have q2 := lo1 _ h2; omega))).trans hc0_0
  replace hc0_1 := (World.cell?_of_block (a := ⟨w.heap.size, 1, none⟩) (hon.block (w.heap.size) (by omega) (fun h2 => by have q2 := lo1 _ h2; omega))).trans hc0_1
  replace hc0_2 := (World.cell?_of_block (a := ⟨w.heap.size, 2, none⟩) (hon.block (w.heap.size) (by omega) (fun h2 => by have q2 := lo1 _ h2; omega))).trans hc0_2
  replace hc0_3 := (World.cell?_of_block (a := ⟨w.heap.size, 3, none⟩) (hon.block (w.heap.size) (by omega) (fun h2 => by have q2 := lo1 _ h2; omega))).trans hc0_3
  replace hc0_4 := (World.cell?_of_block (a := ⟨w.heap.size, 4, none⟩) (hon.block (w.heap.size) (by omega) (fun h2 => by have q2 := lo1 _ h2; omega))).trans hc0_4
  replace hc0_5 := (World.cell?_of_block (a := ⟨w.heap.size, 5, none⟩) (hon.block (w.heap.size) (by omega) (fun h2 => by have q2 := lo1 _ h2; omega))).trans hc0_5
  replace hc0_6 := (World.cell?_of_block (a := ⟨w.heap.size, 6, none⟩) (hon.block (w.heap.size) (by omega) (fun h2 => by have q2 := lo1 _ h2; omega))).trans hc0_6
  replace hy1 := hmk
  clear hmk
  have hsw7 := hon.size
  replace hb := hb.trans (hon.below (B := w.heap.size) (by omega) (fun b h => by have q1 := lo1 b h; omega))
  clear hon
  go_wp2_with fail
  have hgl : (gpF xs0).length ≤ 100000000000 := gpF_len _
  refine (heldStringS_any _ _ _ _ _ hy1 (by omega) (by omega)).mono ?_
  clear hgl
  rintro e w8 ⟨rfl, hbn⟩
  have hsw8 := hbn.size
  replace hy0 := hy0.below' hbn
  replace hy1 := hy1.below' hbn
  replace hc0_0 := (hbn.cell (p := ⟨w.heap.size, 0, none⟩) (by (try simp at hb0s); (try simp); omega)).trans hc0_0
  replace hc0_1 := (hbn.cell (p := ⟨w.heap.size, 1, none⟩) (by (try simp at hb0s); (try simp); omega)).trans hc0_1
  replace hc0_2 := (hbn.cell (p := ⟨w.heap.size, 2, none⟩) (by (try simp at hb0s); (try simp); omega)).trans hc0_2
  replace hc0_3 := (hbn.cell (p := ⟨w.heap.size, 3, none⟩) (by (try simp at hb0s); (try simp); omega)).trans hc0_3
  replace hc0_4 := (hbn.cell (p := ⟨w.heap.size, 4, none⟩) (by (try simp at hb0s); (try simp); omega)).trans hc0_4
  replace hc0_5 := (hbn.cell (p := ⟨w.heap.size, 5, none⟩) (by (try simp at hb0s); (try simp); omega)).trans hc0_5
  replace hc0_6 := (hbn.cell (p := ⟨w.heap.size, 6, none⟩) (by (try simp at hb0s); (try simp); omega)).trans hc0_6
  replace hb := hb.trans (hbn.mono hb.size)
  clear hbn
  go_wp2_with fail
  refine (toGroup_any xs0 _).mono ?_
  rintro e w9 ⟨rfl, hbn⟩
  have hsw9 := hbn.size
  replace hy0 := hy0.below' hbn
  replace hy1 := hy1.below' hbn
  replace hc0_0 := (hbn.cell (p := ⟨w.heap.size, 0, none⟩) (by (try simp at hb0s); (try simp); omega)).trans hc0_0
  replace hc0_1 := (hbn.cell (p := ⟨w.heap.size, 1, none⟩) (by (try simp at hb0s); (try simp); omega)).trans hc0_1
  replace hc0_2 := (hbn.cell (p := ⟨w.heap.size, 2, none⟩) (by (try simp at hb0s); (try simp); omega)).trans hc0_2
  replace hc0_3 := (hbn.cell (p := ⟨w.heap.size, 3, none⟩) (by (try simp at hb0s); (try simp); omega)).trans hc0_3
  replace hc0_4 := (hbn.cell (p := ⟨w.heap.size, 4, none⟩) (by (try simp at hb0s); (try simp); omega)).trans hc0_4
  replace hc0_5 := (hbn.cell (p := ⟨w.heap.size, 5, none⟩) (by (try simp at hb0s); (try simp); omega)).trans hc0_5
  replace hc0_6 := (hbn.cell (p := ⟨w.heap.size, 6, none⟩) (by (try simp at hb0s); (try simp); omega)).trans hc0_6
  replace hb := hb.trans (hbn.mono hb.size)
  clear hbn
  go_wp2_with fail
  refine (implGroupProblems_any xs0 _ ok0).mono ?_
  rintro e w10 ⟨y2, rfl, ⟨⟨fy2, hy2, lo2, nd2⟩, hbn0⟩⟩
  have hi2_ := hy2.lt
  have hsw10 := hbn0.size
  replace hy0 := hy0.below' hbn0
  replace hy1 := hy1.below' hbn0
  replace hc0_0 := (hbn0.cell (p := ⟨w.heap.size, 0, none⟩) (by (try simp at hb0s); (try simp); omega)).trans hc0_0
  replace hc0_1 := (hbn0.cell (p := ⟨w.heap.size, 1, none⟩) (by (try simp at hb0s); (try simp); omega)).trans hc0_1
  replace hc0_2 := (hbn0.cell (p := ⟨w.heap.size, 2, none⟩) (by (try simp at hb0s); (try simp); omega)).trans hc0_2
  replace hc0_3 := (hbn0.cell (p := ⟨w.heap.size, 3, none⟩) (by (try simp at hb0s); (try simp); omega)).trans hc0_3
  replace hc0_4 := (hbn0.cell (p := ⟨w.heap.size, 4, none⟩) (by (try simp at hb0s); (try simp); omega)).trans hc0_4
  replace hc0_5 := (hbn0.cell (p := ⟨w.heap.size, 5, none⟩) (by (try simp at hb0s); (try simp); omega)).trans hc0_5
  replace hc0_6 := (hbn0.cell (p := ⟨w.heap.size, 6, none⟩) (by (try simp at hb0s); (try simp); omega)).trans hc0_6
  replace hb := hb.trans (hbn0.mono hb.size)
  clear hbn0
  go_wp2_with fail
  refine (eqStringS_any _ _ _ _ _ _ hy2 hy0).mono ?_
  rintro e w11 ⟨rfl, hbn⟩
  have hsw11 := hbn.size
  replace hy0 := hy0.below' hbn
  replace hy1 := hy1.below' hbn
  replace hy2 := hy2.below' hbn
  replace hc0_0 := (hbn.cell (p := ⟨w.heap.size, 0, none⟩) (by (try simp at hb0s); (try simp); omega)).trans hc0_0
  replace hc0_1 := (hbn.cell (p := ⟨w.heap.size, 1, none⟩) (by (try simp at hb0s); (try simp); omega)).trans hc0_1
  replace hc0_2 := (hbn.cell (p := ⟨w.heap.size, 2, none⟩) (by (try simp at hb0s); (try simp); omega)).trans hc0_2
  replace hc0_3 := (hbn.cell (p := ⟨w.heap.size, 3, none⟩) (by (try simp at hb0s); (try simp); omega)).trans hc0_3
  replace hc0_4 := (hbn.cell (p := ⟨w.heap.size, 4, none⟩) (by (try simp at hb0s); (try simp); omega)).trans hc0_4
  replace hc0_5 := (hbn.cell (p := ⟨w.heap.size, 5, none⟩) (by (try simp at hb0s); (try simp); omega)).trans hc0_5
  replace hc0_6 := (hbn.cell (p := ⟨w.heap.size, 6, none⟩) (by (try simp at hb0s); (try simp); omega)).trans hc0_6
  replace hb := hb.trans (hbn.mono hb.size)
  clear hbn
  go_wp2_with fail
  have hgl : (gpF xs0).length ≤ 100000000000 := gpF_len _
  refine (heldStringS_any _ _ _ _ _ hy1 (by omega) (by omega)).mono ?_
  clear hgl
  rintro e w12 ⟨rfl, hbn⟩
  have hsw12 := hbn.size
  replace hy0 := hy0.below' hbn
  replace hy1 := hy1.below' hbn
  replace hy2 := hy2.below' hbn
  replace hc0_0 := (hbn.cell (p := ⟨w.heap.size, 0, none⟩) (by (try simp at hb0s); (try simp); omega)).trans hc0_0
  replace hc0_1 := (hbn.cell (p := ⟨w.heap.size, 1, none⟩) (by (try simp at hb0s); (try simp); omega)).trans hc0_1
  replace hc0_2 := (hbn.cell (p := ⟨w.heap.size, 2, none⟩) (by (try simp at hb0s); (try simp); omega)).trans hc0_2
  replace hc0_3 := (hbn.cell (p := ⟨w.heap.size, 3, none⟩) (by (try simp at hb0s); (try simp); omega)).trans hc0_3
  replace hc0_4 := (hbn.cell (p := ⟨w.heap.size, 4, none⟩) (by (try simp at hb0s); (try simp); omega)).trans hc0_4
  replace hc0_5 := (hbn.cell (p := ⟨w.heap.size, 5, none⟩) (by (try simp at hb0s); (try simp); omega)).trans hc0_5
  replace hc0_6 := (hbn.cell (p := ⟨w.heap.size, 6, none⟩) (by (try simp at hb0s); (try simp); omega)).trans hc0_6
  replace hb := hb.trans (hbn.mono hb.size)
  clear hbn
  go_wp2_with fail
  go_ret
  exact ⟨rfl, hb⟩
end Go.Proofs.Ytflmdbjlefppiaa
