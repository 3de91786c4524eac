/- An argument of type PathPoint, opened. Written by wip/gentype.py. -/
import Derived.Test.YthejcbhplgjmgaaTPathPoint
import Derived.Test.YthejcbhplgjmgaaOpen
namespace Go.Proofs.Ythejcbhplgjmgaa
open Go.RowKit
theorem opensPathPoint : Opens 211 fPathPoint.cod := by
  intro H enc w m cs x h hfz
  obtain ⟨hl, hf⟩ := opens_fields Try.underlying211 (by kernel_rfl) (by kernel_rfl) h hfz
  obtain ⟨v0, m0, y0, c0, t0, z0⟩ := hf 0 _ rfl
  obtain ⟨a0, _, e0, ok0, _⟩ := opens_int Try.underlying2 t0 z0
  obtain rfl : v0 = _ := by injection e0
  obtain ⟨v1, m1, y1, c1, t1, z1⟩ := hf 1 _ rfl
  obtain ⟨a1, _, e1, ok1, _⟩ := opens_int Try.underlying2 t1 z1
  obtain rfl : v1 = _ := by injection e1
  have hl' : cs.length = 2 := hl
  match cs, hl' with
  | [u0, u1], _ =>
    obtain rfl : u0 = _ := by simpa using c0
    obtain rfl : u1 = _ := by simpa using c1
    exact ⟨⟨a0, a1⟩, [], rfl, ⟨ok0, ok1⟩, rfl⟩
end Go.Proofs.Ythejcbhplgjmgaa
