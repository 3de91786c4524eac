
/- Two groups as one. By hand. -/
import Derived.Test.YtjfaafoldllppaaGg
import Derived.Test.YtjfaafoldllppaaGm
namespace Go.Proofs.Ytjfaafoldllppaa
open Go.RowKit
set_option linter.unusedVariables false

def sumG (x y : DGroup) (id : ByteArray) : DGroup := ⟨id, x.people + y.people, x.guides + y.guides, x.beacons + y.beacons, x.shovels + y.shovels, x.probes + y.probes, min x.skill y.skill⟩
structure GrpIn (x : DGroup) : Prop where
  id : x.id.size ≤ 1000
  p : 0 ≤ x.people ∧ x.people ≤ 1000
  g : 0 ≤ x.guides ∧ x.guides ≤ 1000
  b : 0 ≤ x.beacons ∧ x.beacons ≤ 1000
  s : 0 ≤ x.shovels ∧ x.shovels ≤ 1000
  r : 0 ≤ x.probes ∧ x.probes ≤ 1000
  k : 0 ≤ x.skill ∧ x.skill ≤ 1000
theorem GrpIn.of {x : DGroup} (h : groupB x = true) : GrpIn x := by
  unfold groupB at h
  simp only [Bool.and_eq_true, inB_true] at h
  obtain ⟨⟨⟨⟨⟨⟨h0, h1⟩, h2⟩, h3⟩, h4⟩, h5⟩, h6⟩ := h
  have h7 : x.id.size ≤ 10 := by
    by_cases h8 : 10 < x.id.size
    · rw [nameB_long h8] at h0; cases h0
    · omega
  refine ⟨?_, ?_, ?_, ?_, ?_, ?_, ?_⟩ <;> omega
theorem sumG_ok {x y : DGroup} (hx : GrpIn x) (hy : GrpIn y) {id : ByteArray} (hi : id.size ≤ 1000) : fGroup.ok (sumG x y id) := by
  obtain ⟨_, a1, a2, a3, a4, a5, a6⟩ := hx
  obtain ⟨_, b1, b2, b3, b4, b5, b6⟩ := hy
  unfold sumG
  refine ⟨?_, ?_, ?_, ?_, ?_, ?_, ?_⟩ <;> first | (show _ ≤ _; simp only; omega) | (show _ ∧ _; simp only; omega)
theorem w64_inS (n : Int) (h : -9223372036854775808 ≤ n ∧ n ≤ 9223372036854775807) : wrap64 n = n := by unfold wrap64; omega
set_option maxRecDepth 100000 in
set_option maxHeartbeats 4000000 in
theorem with_any (x y : DGroup) (id : ByteArray) (w : World) (hx : GrpIn x) (hy : GrpIn y) :
    Calls Try.prog 60 #[.agg #[.string x.id, .int .i64 x.people, .int .i64 x.guides, .int .i64 x.beacons, .int .i64 x.shovels, .int .i64 x.probes, .int .i64 x.skill], .agg #[.string y.id, .int .i64 y.people, .int .i64 y.guides, .int .i64 y.beacons, .int .i64 y.shovels, .int .i64 y.probes, .int .i64 y.skill], .string id] w fun e w' =>
      e = .returned (.agg #[.string id, .int .i64 (x.people + y.people), .int .i64 (x.guides + y.guides), .int .i64 (x.beacons + y.beacons), .int .i64 (x.shovels + y.shovels), .int .i64 (x.probes + y.probes), .int .i64 (min x.skill y.skill)]) ∧ Below w.heap.size w w' := by
  obtain ⟨_, a1, a2, a3, a4, a5, a6⟩ := hx
  obtain ⟨_, b1, b2, b3, b4, b5, b6⟩ := hy
  have e1 := w64_inS (x.people + y.people) (by omega)
  have e2 := w64_inS (x.guides + y.guides) (by omega)
  have e3 := w64_inS (x.beacons + y.beacons) (by omega)
  have e4 := w64_inS (x.shovels + y.shovels) (by omega)
  have e5 := w64_inS (x.probes + y.probes) (by omega)
  go_enter Try.func60, Try.ntmps60
  go_wp2
  refine bodyPost_ret (v := .agg #[.string id, .int .i64 (x.people + y.people), .int .i64 (x.guides + y.guides), .int .i64 (x.beacons + y.beacons), .int .i64 (x.shovels + y.shovels), .int .i64 (x.probes + y.probes), .int .i64 (min x.skill y.skill)]) (by simp [results, Try.results60, go_sem]) rfl ⟨rfl, (by repeat (first | exact Below.refl _ _ | assumption | refine Below.alloc ?_ (by first | omega | (simp <;> omega)) _ | refine Below.setCell ?_ (by first | (show _ ≤ _; omega) | (simp <;> omega)) _ | refine Below.drew ?_ | refine below_drewN ?_ _))⟩
end Go.Proofs.Ytjfaafoldllppaa
