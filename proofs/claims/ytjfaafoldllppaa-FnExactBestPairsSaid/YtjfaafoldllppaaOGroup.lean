
/- An argument of type Group, opened. Written by wip/gentype.py. -/
import Derived.Test.YtjfaafoldllppaaTGroup
import Derived.Test.YtjfaafoldllppaaOpen
namespace Go.Proofs.Ytjfaafoldllppaa
open Go.RowKit
theorem opensGroup : Opens 55 fGroup.cod := by
  intro H enc w m cs x h hfz
  obtain ⟨hl, hf⟩ := opens_fields Try.underlying55 (by kernel_rfl) (by kernel_rfl) h hfz
  obtain ⟨v0, m0, y0, c0, t0, z0⟩ := hf 0 _ rfl
  obtain ⟨a0, _, e0, ok0, _⟩ := opens_str Try.underlying9 t0 z0
  obtain rfl : v0 = _ := by injection e0
  obtain ⟨v1, m1, y1, c1, t1, z1⟩ := hf 1 _ rfl
  obtain ⟨a1, _, e1, ok1, _⟩ := opens_int Try.underlying2 t1 z1
  obtain rfl : v1 = _ := by injection e1
  obtain ⟨v2, m2, y2, c2, t2, z2⟩ := hf 2 _ rfl
  obtain ⟨a2, _, e2, ok2, _⟩ := opens_int Try.underlying2 t2 z2
  obtain rfl : v2 = _ := by injection e2
  obtain ⟨v3, m3, y3, c3, t3, z3⟩ := hf 3 _ rfl
  obtain ⟨a3, _, e3, ok3, _⟩ := opens_int Try.underlying2 t3 z3
  obtain rfl : v3 = _ := by injection e3
  obtain ⟨v4, m4, y4, c4, t4, z4⟩ := hf 4 _ rfl
  obtain ⟨a4, _, e4, ok4, _⟩ := opens_int Try.underlying2 t4 z4
  obtain rfl : v4 = _ := by injection e4
  obtain ⟨v5, m5, y5, c5, t5, z5⟩ := hf 5 _ rfl
  obtain ⟨a5, _, e5, ok5, _⟩ := opens_int Try.underlying2 t5 z5
  obtain rfl : v5 = _ := by injection e5
  obtain ⟨v6, m6, y6, c6, t6, z6⟩ := hf 6 _ rfl
  obtain ⟨a6, _, e6, ok6, _⟩ := opens_int Try.underlying2 t6 z6
  obtain rfl : v6 = _ := by injection e6
  have hl' : cs.length = 7 := hl
  match cs, hl' with
  | [u0, u1, u2, u3, u4, u5, u6], _ =>
    obtain rfl : u0 = _ := by simpa using c0
    obtain rfl : u1 = _ := by simpa using c1
    obtain rfl : u2 = _ := by simpa using c2
    obtain rfl : u3 = _ := by simpa using c3
    obtain rfl : u4 = _ := by simpa using c4
    obtain rfl : u5 = _ := by simpa using c5
    obtain rfl : u6 = _ := by simpa using c6
    exact ⟨⟨a0, a1, a2, a3, a4, a5, a6⟩, [], rfl, ⟨ok0, ok1, ok2, ok3, ok4, ok5, ok6⟩, rfl⟩
end Go.Proofs.Ytjfaafoldllppaa
