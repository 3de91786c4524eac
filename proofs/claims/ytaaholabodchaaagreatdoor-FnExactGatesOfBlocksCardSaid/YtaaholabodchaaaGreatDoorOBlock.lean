/- An argument of type Block, opened. Written by wip/gentype.py. -/
import Derived.Test.YtaaholabodchaaaGreatDoorTBlock
import Derived.Test.YtaaholabodchaaaGreatDoorOpen
namespace Go.Proofs.YtaaholabodchaaaGreatDoor
open Go.RowKit
theorem opensBlock : Opens 58 fBlock.cod := by
  intro H enc w m cs x h hfz
  obtain ⟨hl, hf⟩ := opens_fields Tryz.underlying58 (by kernel_rfl) (by kernel_rfl) h hfz
  obtain ⟨v0, m0, y0, c0, t0, z0⟩ := hf 0 _ rfl
  obtain ⟨a0, _, e0, ok0, _⟩ := opens_str Tryz.underlying9 t0 z0
  obtain rfl : v0 = _ := by injection e0
  obtain ⟨v1, m1, y1, c1, t1, z1⟩ := hf 1 _ rfl
  obtain ⟨a1, _, e1, ok1, _⟩ := opens_str Tryz.underlying9 t1 z1
  obtain rfl : v1 = _ := by injection e1
  obtain ⟨v2, m2, y2, c2, t2, z2⟩ := hf 2 _ rfl
  obtain ⟨a2, _, e2, ok2, _⟩ := opens_str Tryz.underlying9 t2 z2
  obtain rfl : v2 = _ := by injection e2
  have hl' : cs.length = 3 := hl
  match cs, hl' with
  | [u0, u1, u2], _ =>
    obtain rfl : u0 = _ := by simpa using c0
    obtain rfl : u1 = _ := by simpa using c1
    obtain rfl : u2 = _ := by simpa using c2
    exact ⟨⟨a0, a1, a2⟩, [], rfl, ⟨ok0, ok1, ok2⟩, rfl⟩
end Go.Proofs.YtaaholabodchaaaGreatDoor
