/- The walk of FnExactMayGo, written by wip/genwalk.py out of the law's text. -/
import Derived.Test.YtmkjgehhkmfoiabGm
namespace Go.Proofs.Ytmkjgehhkmfoiab
open Go.RowKit
set_option linter.unusedVariables false

set_option maxHeartbeats 2000000 in
theorem walkMayGo (xs0 : DGroup) (a1 : Int) (w : World) (ok0 : fGroup.ok xs0) (hi1 : -9223372036854775808 ≤ a1 ∧ a1 ≤ 9223372036854775807) :
    Calls Try.prog 3 #[.agg #[.string xs0.id, .int .i64 xs0.people, .int .i64 xs0.guides, .int .i64 xs0.beacons, .int .i64 xs0.shovels, .int .i64 xs0.probes, .int .i64 xs0.skill], .int .i64 a1] w fun e w' => YesR w e w' := by
  go_enter Try.func3, Try.ntmps3
  go_wp2_with fail
  refine (szGroup_any xs0 _ _ ok0 (by omega) (by omega)).mono ?_
  rintro e w1 ⟨r1, rfl, hr1_, hbn⟩
  have hb0s := hbn.size
  have hc0_0 : w1.cell? ⟨w.heap.size, 0, none⟩ = some (.string xs0.id) := by rw [hbn.cell (by simp)]; simp
  have hc0_1 : w1.cell? ⟨w.heap.size, 1, none⟩ = some (.int .i64 xs0.people) := by rw [hbn.cell (by simp)]; simp
  have hc0_2 : w1.cell? ⟨w.heap.size, 2, none⟩ = some (.int .i64 xs0.guides) := by rw [hbn.cell (by simp)]; simp
  have hc0_3 : w1.cell? ⟨w.heap.size, 3, none⟩ = some (.int .i64 xs0.beacons) := by rw [hbn.cell (by simp)]; simp
  have hc0_4 : w1.cell? ⟨w.heap.size, 4, none⟩ = some (.int .i64 xs0.shovels) := by rw [hbn.cell (by simp)]; simp
  have hc0_5 : w1.cell? ⟨w.heap.size, 5, none⟩ = some (.int .i64 xs0.probes) := by rw [hbn.cell (by simp)]; simp
  have hc0_6 : w1.cell? ⟨w.heap.size, 6, none⟩ = some (.int .i64 xs0.skill) := by rw [hbn.cell (by simp)]; simp
  have hb : Below w.heap.size w w1 := ((Below.refl _ _).alloc (Nat.le_refl _) _).trans (hbn.mono (by simp))
  have hsw1 := hb.size
  simp at hb0s
  clear hbn
  by_cases hneg : r1 < 0
  · go_wp2
    go_ret
    exact ⟨rfl, hb⟩
  have hr1 : 0 ≤ r1 ∧ r1 + (totGroup xs0 : Nat) = 1048576 := by
    rcases hr1_ with h | h
    · omega
    · exact h
  clear hr1_ hneg
  have htot0 : totGroup xs0 ≤ 1048576 := by omega
  have hr1b : r1 ≤ 1048576 := by omega
  have hr1a : 0 ≤ r1 := hr1.1
  clear hr1
  go_wp2_with fail
  refine (toGroup_any xs0 _).mono ?_
  rintro e w2 ⟨rfl, hbn⟩
  have hsw2 := hbn.size
  replace hc0_0 := (hbn.cell (p := ⟨w.heap.size, 0, none⟩) (by (try simp at hb0s); (try simp); omega)).trans hc0_0
  replace hc0_1 := (hbn.cell (p := ⟨w.heap.size, 1, none⟩) (by (try simp at hb0s); (try simp); omega)).trans hc0_1
  replace hc0_2 := (hbn.cell (p := ⟨w.heap.size, 2, none⟩) (by (try simp at hb0s); (try simp); omega)).trans hc0_2
  replace hc0_3 := (hbn.cell (p := ⟨w.heap.size, 3, none⟩) (by (try simp at hb0s); (try simp); omega)).trans hc0_3
  replace hc0_4 := (hbn.cell (p := ⟨w.heap.size, 4, none⟩) (by (try simp at hb0s); (try simp); omega)).trans hc0_4
  replace hc0_5 := (hbn.cell (p := ⟨w.heap.size, 5, none⟩) (by (try simp at hb0s); (try simp); omega)).trans hc0_5
  replace hc0_6 := (hbn.cell (p := ⟨w.heap.size, 6, none⟩) (by (try simp at hb0s); (try simp); omega)).trans hc0_6
  replace hb := hb.trans (hbn.mono hb.size)
  clear hbn
  go_wp2_with fail
  refine (specMayGo_any xs0 a1 _ ok0).mono ?_
  rintro e w3 ⟨rfl, hbn⟩
  have hsw3 := hbn.size
  replace hc0_0 := (hbn.cell (p := ⟨w.heap.size, 0, none⟩) (by (try simp at hb0s); (try simp); omega)).trans hc0_0
  replace hc0_1 := (hbn.cell (p := ⟨w.heap.size, 1, none⟩) (by (try simp at hb0s); (try simp); omega)).trans hc0_1
  replace hc0_2 := (hbn.cell (p := ⟨w.heap.size, 2, none⟩) (by (try simp at hb0s); (try simp); omega)).trans hc0_2
  replace hc0_3 := (hbn.cell (p := ⟨w.heap.size, 3, none⟩) (by (try simp at hb0s); (try simp); omega)).trans hc0_3
  replace hc0_4 := (hbn.cell (p := ⟨w.heap.size, 4, none⟩) (by (try simp at hb0s); (try simp); omega)).trans hc0_4
  replace hc0_5 := (hbn.cell (p := ⟨w.heap.size, 5, none⟩) (by (try simp at hb0s); (try simp); omega)).trans hc0_5
  replace hc0_6 := (hbn.cell (p := ⟨w.heap.size, 6, none⟩) (by (try simp at hb0s); (try simp); omega)).trans hc0_6
  replace hb := hb.trans (hbn.mono hb.size)
  clear hbn
  go_wp2_with fail
  refine (toGroup_any xs0 _).mono ?_
  rintro e w4 ⟨rfl, hbn⟩
  have hsw4 := hbn.size
  replace hc0_0 := (hbn.cell (p := ⟨w.heap.size, 0, none⟩) (by (try simp at hb0s); (try simp); omega)).trans hc0_0
  replace hc0_1 := (hbn.cell (p := ⟨w.heap.size, 1, none⟩) (by (try simp at hb0s); (try simp); omega)).trans hc0_1
  replace hc0_2 := (hbn.cell (p := ⟨w.heap.size, 2, none⟩) (by (try simp at hb0s); (try simp); omega)).trans hc0_2
  replace hc0_3 := (hbn.cell (p := ⟨w.heap.size, 3, none⟩) (by (try simp at hb0s); (try simp); omega)).trans hc0_3
  replace hc0_4 := (hbn.cell (p := ⟨w.heap.size, 4, none⟩) (by (try simp at hb0s); (try simp); omega)).trans hc0_4
  replace hc0_5 := (hbn.cell (p := ⟨w.heap.size, 5, none⟩) (by (try simp at hb0s); (try simp); omega)).trans hc0_5
  replace hc0_6 := (hbn.cell (p := ⟨w.heap.size, 6, none⟩) (by (try simp at hb0s); (try simp); omega)).trans hc0_6
  replace hb := hb.trans (hbn.mono hb.size)
  clear hbn
  go_wp2_with fail
  refine (implMayGo_any xs0 a1 _ ok0).mono ?_
  rintro e w5 ⟨rfl, hbn⟩
  have hsw5 := hbn.size
  replace hc0_0 := (hbn.cell (p := ⟨w.heap.size, 0, none⟩) (by (try simp at hb0s); (try simp); omega)).trans hc0_0
  replace hc0_1 := (hbn.cell (p := ⟨w.heap.size, 1, none⟩) (by (try simp at hb0s); (try simp); omega)).trans hc0_1
  replace hc0_2 := (hbn.cell (p := ⟨w.heap.size, 2, none⟩) (by (try simp at hb0s); (try simp); omega)).trans hc0_2
  replace hc0_3 := (hbn.cell (p := ⟨w.heap.size, 3, none⟩) (by (try simp at hb0s); (try simp); omega)).trans hc0_3
  replace hc0_4 := (hbn.cell (p := ⟨w.heap.size, 4, none⟩) (by (try simp at hb0s); (try simp); omega)).trans hc0_4
  replace hc0_5 := (hbn.cell (p := ⟨w.heap.size, 5, none⟩) (by (try simp at hb0s); (try simp); omega)).trans hc0_5
  replace hc0_6 := (hbn.cell (p := ⟨w.heap.size, 6, none⟩) (by (try simp at hb0s); (try simp); omega)).trans hc0_6
  replace hb := hb.trans (hbn.mono hb.size)
  clear hbn
  go_wp2_with fail
  go_ret
  exact ⟨rfl, hb⟩
end Go.Proofs.Ytmkjgehhkmfoiab
