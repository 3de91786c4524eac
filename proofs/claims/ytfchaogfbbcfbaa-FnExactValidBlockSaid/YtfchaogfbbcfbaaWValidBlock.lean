/- The walk of FnExactValidBlock, written by wip/genwalk.py out of the law's text. -/
import Derived.Test.YtfchaogfbbcfbaaBk
import Derived.Test.YtfchaogfbbcfbaaTBlock
namespace Go.Proofs.Ytfchaogfbbcfbaa
open Go.RowKit
set_option linter.unusedVariables false

set_option maxRecDepth 100000 in
set_option maxHeartbeats 2000000 in
theorem walkValidBlock (xs0 : DBlock) (w : World) (ok0 : fBlock.ok xs0) :
    Calls Try.prog 3 #[.agg #[.string xs0.kind, .string xs0.name, .string xs0.text]] w fun e w' => YesR w e w' := by
  go_enter Try.func3, Try.ntmps3
  go_wp2_with fail
  refine (szBlock_any xs0 _ _ ok0 (by omega) (by omega)).mono ?_
  rintro e w1 ⟨r1, rfl, hr1_, hbn⟩
  have hb0s := hbn.size
  have hc0_0 : w1.cell? ⟨w.heap.size, 0, none⟩ = some (.string xs0.kind) := by rw [hbn.cell (by simp)]; simp
  have hc0_1 : w1.cell? ⟨w.heap.size, 1, none⟩ = some (.string xs0.name) := by rw [hbn.cell (by simp)]; simp
  have hc0_2 : w1.cell? ⟨w.heap.size, 2, none⟩ = some (.string xs0.text) := by rw [hbn.cell (by simp)]; simp
  have hb : Below w.heap.size w w1 := ((Below.refl _ _).alloc (Nat.le_refl _) _).trans (hbn.mono (by simp))
  have hsw1 := hb.size
  simp at hb0s
  clear hbn
  by_cases hneg : r1 < 0
  · go_wp2
    go_ret
    exact ⟨rfl, hb⟩
  have hr1 : 0 ≤ r1 ∧ r1 + (totBlock xs0 : Nat) = 1048576 := by
    rcases hr1_ with h | h
    · omega
    · exact h
  clear hr1_ hneg
  have htot0 : totBlock xs0 ≤ 1048576 := by omega
  have hr1b : r1 ≤ 1048576 := by omega
  have hr1a : 0 ≤ r1 := hr1.1
  clear hr1
  go_wp2_with fail
  refine (toBlock_any xs0 _).mono ?_
  rintro e w2 ⟨rfl, hbn⟩
  have hsw2 := hbn.size
  replace hc0_0 := (hbn.cell (p := ⟨w.heap.size, 0, none⟩) (by (try simp at hb0s); (try simp); omega)).trans hc0_0
  replace hc0_1 := (hbn.cell (p := ⟨w.heap.size, 1, none⟩) (by (try simp at hb0s); (try simp); omega)).trans hc0_1
  replace hc0_2 := (hbn.cell (p := ⟨w.heap.size, 2, none⟩) (by (try simp at hb0s); (try simp); omega)).trans hc0_2
  replace hb := hb.trans (hbn.mono hb.size)
  clear hbn
  go_wp2_with fail
  refine (specValidBlock_any xs0 _ ok0).mono ?_
  rintro e w3 ⟨rfl, hbn⟩
  have hsw3 := hbn.size
  replace hc0_0 := (hbn.cell (p := ⟨w.heap.size, 0, none⟩) (by (try simp at hb0s); (try simp); omega)).trans hc0_0
  replace hc0_1 := (hbn.cell (p := ⟨w.heap.size, 1, none⟩) (by (try simp at hb0s); (try simp); omega)).trans hc0_1
  replace hc0_2 := (hbn.cell (p := ⟨w.heap.size, 2, none⟩) (by (try simp at hb0s); (try simp); omega)).trans hc0_2
  replace hb := hb.trans (hbn.mono hb.size)
  clear hbn
  go_wp2_with fail
  refine (toBlock_any xs0 _).mono ?_
  rintro e w4 ⟨rfl, hbn⟩
  have hsw4 := hbn.size
  replace hc0_0 := (hbn.cell (p := ⟨w.heap.size, 0, none⟩) (by (try simp at hb0s); (try simp); omega)).trans hc0_0
  replace hc0_1 := (hbn.cell (p := ⟨w.heap.size, 1, none⟩) (by (try simp at hb0s); (try simp); omega)).trans hc0_1
  replace hc0_2 := (hbn.cell (p := ⟨w.heap.size, 2, none⟩) (by (try simp at hb0s); (try simp); omega)).trans hc0_2
  replace hb := hb.trans (hbn.mono hb.size)
  clear hbn
  go_wp2_with fail
  refine (implValidBlock_any xs0 _ ok0).mono ?_
  rintro e w5 ⟨rfl, hbn⟩
  have hsw5 := hbn.size
  replace hc0_0 := (hbn.cell (p := ⟨w.heap.size, 0, none⟩) (by (try simp at hb0s); (try simp); omega)).trans hc0_0
  replace hc0_1 := (hbn.cell (p := ⟨w.heap.size, 1, none⟩) (by (try simp at hb0s); (try simp); omega)).trans hc0_1
  replace hc0_2 := (hbn.cell (p := ⟨w.heap.size, 2, none⟩) (by (try simp at hb0s); (try simp); omega)).trans hc0_2
  replace hb := hb.trans (hbn.mono hb.size)
  clear hbn
  go_wp2_with fail
  go_ret
  exact ⟨rfl, hb⟩
end Go.Proofs.Ytfchaogfbbcfbaa
