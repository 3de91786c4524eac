/- New desks. -/
import Derived.Test.YtjlnjeogaokkoaaDk
import Derived.Deep.RegionHeld
namespace Go.Proofs.Ytjlnjeogaokkoaa
open Go.RowKit
set_option linter.unusedVariables false

def nV : Value := .slice none 0 0
def valN (m p : Nat) : DVals := ⟨.slice none 0 0, .slice (some ⟨m, 0, none⟩) 1 1, .slice none 0 0, .slice none 0 0, .slice (some ⟨p, 0, none⟩) 2 2, .slice none 0 0, .slice none 0 0, .slice none 0 0, .slice none 0 0, .slice none 0 0, .slice none 0 0, .slice none 0 0⟩
def deskN : DDesk := ⟨1, 1, [], [0], [], [], [⟨0, 1000⟩, ⟨100, 950⟩], [], [], [], [], [], []⟩
def fpN (m p : Nat) : Nat → List Nat
  | 1 => [m]
  | 4 => [p]
  | _ => []
structure DeskR (w : World) (m p : Nat) (w' : World) : Prop where
  rd : DeskRd w' (valN m p) deskN (fpN m p)
  lo : w.heap.size ≤ m ∧ w.heap.size ≤ p ∧ m ≠ p
  below : Below w.heap.size w w'
theorem DeskR.of {w w' : World} {m p : Nat} (hm : Sl fInt.cod w' (.slice (some ⟨m, 0, none⟩) 1 1) [0] [m]) (hp : Sl fPathPoint.cod w' (.slice (some ⟨p, 0, none⟩) 2 2) [⟨0, 1000⟩, ⟨100, 950⟩] [p]) (hlo : w.heap.size ≤ m ∧ w.heap.size ≤ p ∧ m ≠ p) (hb : Below w.heap.size w w') : DeskR w m p w' :=
  ⟨⟨Sl.nilD _ _, hm, Sl.nilD _ _, Sl.nilD _ _, hp, Sl.nilD _ _, Lib.hid rfl, Sl.nilD _ _, Sl.nilD _ _, Sl.nilD _ _, Sl.nilD _ _, Sl.nilD _ _⟩, hlo, hb⟩
theorem massN (w : World) (T : TypeId) : Sl fInt.cod (w.alloc (.cells #[.int .i64 0] T)) (.slice (some ⟨w.heap.size, 0, none⟩) 1 1) [0] [w.heap.size] :=
  Sl.lit2 (E := fInt) w [0] _ _ rfl (by intro x hx; simp at hx; subst hx; show _ ∧ _; simp) (by decide) (by decide)
theorem pathN (w : World) (T : TypeId) : Sl fPathPoint.cod (w.alloc (.cells #[.int .i64 0, .int .i64 1000, .int .i64 100, .int .i64 950] T)) (.slice (some ⟨w.heap.size, 0, none⟩) 2 2) [⟨0, 1000⟩, ⟨100, 950⟩] [w.heap.size] :=
  Sl.lit2 (E := fPathPoint) w [⟨0, 1000⟩, ⟨100, 950⟩] _ _ rfl (by intro x hx; simp at hx; rcases hx with rfl | rfl <;> (refine ⟨?_, ?_⟩ <;> (show _ ∧ _; simp))) (by decide) (by decide)
set_option maxRecDepth 100000 in
set_option maxHeartbeats 4000000 in
theorem implNewDesk_any (w : World) : Calls Try.prog 8 #[] w fun e w' => ∃ m p, e = .returned (deskA (valN m p) deskN) ∧ DeskR w m p w' := by
  unfold deskA deskN valN
  go_enter Try.func8, Try.ntmps8
  go_wp2
  generalize hC : #[Value.slice none 0 0, Value.int IntKind.i64 1, Value.int IntKind.i64 1, Value.slice (some ⟨w.heap.size + 1, 0, none⟩) 1 1, Value.slice none 0 0, Value.slice none 0 0, Value.slice (some ⟨w.heap.size + 1 + 1, 0, none⟩) 2 2, Value.slice none 0 0, Value.slice none 0 0, Value.slice none 0 0, Value.slice none 0 0, Value.slice none 0 0, Value.slice none 0 0, Value.slice none 0 0] = C
  refine bodyPost_ret (v := .agg #[Value.slice none 0 0, Value.int IntKind.i64 1, Value.int IntKind.i64 1, Value.slice (some ⟨w.heap.size + 1, 0, none⟩) 1 1, Value.slice none 0 0, Value.slice none 0 0, Value.slice (some ⟨w.heap.size + 1 + 1, 0, none⟩) 2 2, Value.slice none 0 0, Value.slice none 0 0, Value.slice none 0 0, Value.slice none 0 0, Value.slice none 0 0, Value.slice none 0 0, Value.slice none 0 0]) (by subst hC; simp [results, Try.results8, go_sem]) rfl ⟨w.heap.size + 1, w.heap.size + 1 + 1, rfl, DeskR.of ?_ ?_ ⟨by omega, by omega, by omega⟩ (by repeat (first | exact Below.refl _ _ | assumption | refine Below.alloc ?_ (by first | omega | (simp <;> omega)) _ | refine Below.setCell ?_ (by first | (show _ ≤ _; omega) | (simp <;> omega)) _ | refine Below.drew ?_ | refine below_drewN ?_ _))⟩
  · have := (massN (w.alloc (.cells C 36)) 2).below' ((Below.refl _ _).alloc (Nat.le_refl _) (.cells #[.int .i64 0, .int .i64 1000, .int .i64 100, .int .i64 950] 82))
    simpa using this
  · have := pathN ((w.alloc (.cells C 36)).alloc (.cells #[.int .i64 0] 2)) 82
    simpa using this
set_option maxRecDepth 100000 in
set_option maxHeartbeats 4000000 in
theorem l32New_any (w : World) : Calls Try.prog 33 #[] w fun e w' => ∃ m p, e = .returned (deskA (valN m p) deskN) ∧ DeskR w m p w' := by
  unfold deskA deskN valN
  go_enter Try.func33, Try.ntmps33
  go_wp2
  generalize hC : #[Value.slice none 0 0, Value.int IntKind.i64 1, Value.int IntKind.i64 1, Value.slice (some ⟨w.heap.size + 1, 0, none⟩) 1 1, Value.slice none 0 0, Value.slice none 0 0, Value.slice (some ⟨w.heap.size + 1 + 1 + 1, 0, none⟩) 2 2, Value.slice none 0 0, Value.slice none 0 0, Value.slice none 0 0, Value.slice none 0 0, Value.slice none 0 0, Value.slice none 0 0, Value.slice none 0 0] = C
  refine bodyPost_ret (v := .agg #[Value.slice none 0 0, Value.int IntKind.i64 1, Value.int IntKind.i64 1, Value.slice (some ⟨w.heap.size + 1, 0, none⟩) 1 1, Value.slice none 0 0, Value.slice none 0 0, Value.slice (some ⟨w.heap.size + 1 + 1 + 1, 0, none⟩) 2 2, Value.slice none 0 0, Value.slice none 0 0, Value.slice none 0 0, Value.slice none 0 0, Value.slice none 0 0, Value.slice none 0 0, Value.slice none 0 0]) (by subst hC; simp [results, Try.results33, go_sem]) rfl ⟨w.heap.size + 1, w.heap.size + 1 + 1 + 1, rfl, DeskR.of ?_ ?_ ⟨by omega, by omega, by omega⟩ (by repeat (first | exact Below.refl _ _ | assumption | refine Below.alloc ?_ (by first | omega | (simp <;> omega)) _ | refine Below.setCell ?_ (by first | (show _ ≤ _; omega) | (simp <;> omega)) _ | refine Below.drew ?_ | refine below_drewN ?_ _))⟩
  · have := ((massN (w.alloc (.cells C 36)) 2).below' ((Below.refl _ _).alloc (Nat.le_refl _) (.cells C 36))).below' ((Below.refl _ _).alloc (Nat.le_refl _) (.cells #[.int .i64 0, .int .i64 1000, .int .i64 100, .int .i64 950] 82))
    simpa using this
  · have := pathN (((w.alloc (.cells C 36)).alloc (.cells #[.int .i64 0] 2)).alloc (.cells C 36)) 82
    simpa using this
structure BoxD (w : World) (g : Nat) : Prop where
  d0 : w.cell? ⟨g, 0, none⟩ = some (.slice none 0 0)
  d1 : w.cell? ⟨g, 1, none⟩ = some (.int .i64 0)
  d2 : w.cell? ⟨g, 2, none⟩ = some (.int .i64 0)
  d3 : w.cell? ⟨g, 3, none⟩ = some (.slice none 0 0)
  d4 : w.cell? ⟨g, 4, none⟩ = some (.slice none 0 0)
  d5 : w.cell? ⟨g, 5, none⟩ = some (.slice none 0 0)
  d6 : w.cell? ⟨g, 6, none⟩ = some (.slice none 0 0)
  d7 : w.cell? ⟨g, 7, none⟩ = some (.slice none 0 0)
  d8 : w.cell? ⟨g, 8, none⟩ = some (.slice none 0 0)
  d9 : w.cell? ⟨g, 9, none⟩ = some (.slice none 0 0)
  d10 : w.cell? ⟨g, 10, none⟩ = some (.slice none 0 0)
  d11 : w.cell? ⟨g, 11, none⟩ = some (.slice none 0 0)
  d12 : w.cell? ⟨g, 12, none⟩ = some (.slice none 0 0)
  d13 : w.cell? ⟨g, 13, none⟩ = some (.slice none 0 0)
  z0 : w.frozen? ⟨g, 0, none⟩ = false
  z1 : w.frozen? ⟨g, 1, none⟩ = false
  z2 : w.frozen? ⟨g, 2, none⟩ = false
  z3 : w.frozen? ⟨g, 3, none⟩ = false
  z4 : w.frozen? ⟨g, 4, none⟩ = false
  z5 : w.frozen? ⟨g, 5, none⟩ = false
  z6 : w.frozen? ⟨g, 6, none⟩ = false
  z7 : w.frozen? ⟨g, 7, none⟩ = false
  z8 : w.frozen? ⟨g, 8, none⟩ = false
  z9 : w.frozen? ⟨g, 9, none⟩ = false
  z10 : w.frozen? ⟨g, 10, none⟩ = false
  z11 : w.frozen? ⟨g, 11, none⟩ = false
  z12 : w.frozen? ⟨g, 12, none⟩ = false
  z13 : w.frozen? ⟨g, 13, none⟩ = false
theorem BoxD.new (w : World) (T : TypeId) : BoxD (w.alloc (.cells #[.slice none 0 0, .int .i64 0, .int .i64 0, .slice none 0 0, .slice none 0 0, .slice none 0 0, .slice none 0 0, .slice none 0 0, .slice none 0 0, .slice none 0 0, .slice none 0 0, .slice none 0 0, .slice none 0 0, .slice none 0 0] T)) w.heap.size := by
  constructor <;> simp
theorem BoxD.below {w w' : World} {g B : Nat} (h : BoxD w g) (hb : Below B w w') (hg : g < B) : BoxD w' g :=
  ⟨(hb.cell (p := ⟨g, _, none⟩) hg).trans h.d0, (hb.cell (p := ⟨g, _, none⟩) hg).trans h.d1, (hb.cell (p := ⟨g, _, none⟩) hg).trans h.d2, (hb.cell (p := ⟨g, _, none⟩) hg).trans h.d3, (hb.cell (p := ⟨g, _, none⟩) hg).trans h.d4, (hb.cell (p := ⟨g, _, none⟩) hg).trans h.d5, (hb.cell (p := ⟨g, _, none⟩) hg).trans h.d6, (hb.cell (p := ⟨g, _, none⟩) hg).trans h.d7, (hb.cell (p := ⟨g, _, none⟩) hg).trans h.d8, (hb.cell (p := ⟨g, _, none⟩) hg).trans h.d9, (hb.cell (p := ⟨g, _, none⟩) hg).trans h.d10, (hb.cell (p := ⟨g, _, none⟩) hg).trans h.d11, (hb.cell (p := ⟨g, _, none⟩) hg).trans h.d12, (hb.cell (p := ⟨g, _, none⟩) hg).trans h.d13,
   (hb.frozen (p := ⟨g, _, none⟩) hg).trans h.z0, (hb.frozen (p := ⟨g, _, none⟩) hg).trans h.z1, (hb.frozen (p := ⟨g, _, none⟩) hg).trans h.z2, (hb.frozen (p := ⟨g, _, none⟩) hg).trans h.z3, (hb.frozen (p := ⟨g, _, none⟩) hg).trans h.z4, (hb.frozen (p := ⟨g, _, none⟩) hg).trans h.z5, (hb.frozen (p := ⟨g, _, none⟩) hg).trans h.z6, (hb.frozen (p := ⟨g, _, none⟩) hg).trans h.z7, (hb.frozen (p := ⟨g, _, none⟩) hg).trans h.z8, (hb.frozen (p := ⟨g, _, none⟩) hg).trans h.z9, (hb.frozen (p := ⟨g, _, none⟩) hg).trans h.z10, (hb.frozen (p := ⟨g, _, none⟩) hg).trans h.z11, (hb.frozen (p := ⟨g, _, none⟩) hg).trans h.z12, (hb.frozen (p := ⟨g, _, none⟩) hg).trans h.z13⟩
theorem BoxD.far {V : World} {b g j : Nat} {v : Value} (h : BoxD V b) (hne : b ≠ g) : BoxD (V.setCell ⟨g, j, none⟩ v) b := by
  have k : ∀ i, (V.setCell ⟨g, j, none⟩ v).cell? ⟨b, i, none⟩ = V.cell? ⟨b, i, none⟩ := fun i => World.cell?_setCell_far V ⟨g, j, none⟩ ⟨b, i, none⟩ v (fun e => hne e.symm)
  have f : ∀ i, (V.setCell ⟨g, j, none⟩ v).frozen? ⟨b, i, none⟩ = V.frozen? ⟨b, i, none⟩ := fun i => frozen?_setCell _ _ _ _
  exact ⟨(k _).trans h.d0, (k _).trans h.d1, (k _).trans h.d2, (k _).trans h.d3, (k _).trans h.d4, (k _).trans h.d5, (k _).trans h.d6, (k _).trans h.d7, (k _).trans h.d8, (k _).trans h.d9, (k _).trans h.d10, (k _).trans h.d11, (k _).trans h.d12, (k _).trans h.d13, (f _).trans h.z0, (f _).trans h.z1, (f _).trans h.z2, (f _).trans h.z3, (f _).trans h.z4, (f _).trans h.z5, (f _).trans h.z6, (f _).trans h.z7, (f _).trans h.z8, (f _).trans h.z9, (f _).trans h.z10, (f _).trans h.z11, (f _).trans h.z12, (f _).trans h.z13⟩
theorem hit_cellD {w : World} {p : Addr} {x : Value} (h : (w.cell? p).isSome = true) : (w.setCell p x).cell? p = some x := by
  obtain ⟨v, hv⟩ := Option.isSome_iff_exists.1 h
  exact World.cell?_setCell_same w p x hv
set_option maxRecDepth 100000 in
set_option maxHeartbeats 8000000 in
theorem specNewDesk_any (w : World) : Calls Try.prog 7 #[] w fun e w' => ∃ m p, e = .returned (deskA (valN m p) deskN) ∧ DeskR w m p w' := by
  go_enter Try.func7, Try.ntmps7
  go_wp2_with fail
  refine (l32New_any _).mono ?_
  rintro e w1 ⟨m, p, rfl, ⟨hrd, ⟨hl1, hl2, hl3⟩, hb1⟩⟩
  have hX : BoxD w1 w.heap.size := (BoxD.new w _).below hb1 (by simp)
  have hB1 : Below w.heap.size w w1 := ((Below.refl _ _).alloc (Nat.le_refl _) _).trans (hb1.mono (by simp))
  have hm := hrd.ma
  have hp := hrd.pa
  simp only [World.size_alloc] at hl1 hl2
  clear hb1 hrd
  obtain ⟨d0, d1, d2, d3, d4, d5, d6, d7, d8, d9, d10, d11, d12, d13, z0, z1, z2, z3, z4, z5, z6, z7, z8, z9, z10, z11, z12, z13⟩ := hX
  unfold deskA deskN valN
  go_wp2
  refine bodyPost_ret (v := .agg #[Value.slice none 0 0, Value.int IntKind.i64 1, Value.int IntKind.i64 1, Value.slice (some ⟨m, 0, none⟩) 1 1, Value.slice none 0 0, Value.slice none 0 0, Value.slice (some ⟨p, 0, none⟩) 2 2, Value.slice none 0 0, Value.slice none 0 0, Value.slice none 0 0, Value.slice none 0 0, Value.slice none 0 0, Value.slice none 0 0, Value.slice none 0 0]) (by simp [results, hit_cellD, d0, d1, d2, d3, d4, d5, d6, d7, d8, d9, d10, d11, d12, d13, Try.results7, go_sem]) rfl ⟨m, p, rfl, DeskR.of (hm.only (fp' := [w.heap.size]) ?_ ?_) (hp.only (fp' := [w.heap.size]) ?_ ?_) ⟨by omega, by omega, hl3⟩ ?_⟩
  · repeat (refine Only.set ?_ _ _)
    exact Only.refl _ _
  · intro b h1 h2
    rw [List.mem_singleton] at h2
    have : b = m := by simpa [fpN] using h1
    omega
  · repeat (refine Only.set ?_ _ _)
    exact Only.refl _ _
  · intro b h1 h2
    rw [List.mem_singleton] at h2
    have : b = p := by simpa [fpN] using h1
    omega
  · refine hB1.trans (Only.below (fp := [w.heap.size]) ?_ hB1.size (fun b hb => by rw [List.mem_singleton] at hb; subst hb; exact Nat.le_refl _))
    repeat (refine Only.set ?_ _ _)
    exact Only.refl _ _
end Go.Proofs.Ytjlnjeogaokkoaa
