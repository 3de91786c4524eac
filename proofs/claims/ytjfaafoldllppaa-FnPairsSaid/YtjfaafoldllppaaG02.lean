/- Parts of the proof: Gd, All, Cr, TString, So, De, Dz, Ge, Pz, Gr. -/
import Derived.Test.YtjfaafoldllppaaG01
import Derived.Deep.RegionHeld
import Derived.Deep.CutRange
import Derived.Sort.Walk0
import Derived.Laws.CopyOwn
import Derived.Lib.ItoaNum
import Derived.Laws.IdiomStrings
namespace Go.Proofs.Ytjfaafoldllppaa
open Go.RowKit
set_option linter.unusedVariables false

theorem hit_cellX {w : World} {p : Addr} {x : Value} (h : (w.cell? p).isSome = true) : (w.setCell p x).cell? p = some x := by
  obtain ⟨v, hv⟩ := Option.isSome_iff_exists.1 h
  exact World.cell?_setCell_same w p x hv
def agGroup (x : DGroup) : Value := .agg #[.string x.id, .int .i64 x.people, .int .i64 x.guides, .int .i64 x.beacons, .int .i64 x.shovels, .int .i64 x.probes, .int .i64 x.skill]
/-- A drawn Group: small numbers and short texts. -/
def SmGroup (x : DGroup) : Prop := x.id.size ≤ 100 ∧ (-1000000000 ≤ x.people ∧ x.people ≤ 1000000000) ∧ (-1000000000 ≤ x.guides ∧ x.guides ≤ 1000000000) ∧ (-1000000000 ≤ x.beacons ∧ x.beacons ≤ 1000000000) ∧ (-1000000000 ≤ x.shovels ∧ x.shovels ≤ 1000000000) ∧ (-1000000000 ≤ x.probes ∧ x.probes ≤ 1000000000) ∧ (-1000000000 ≤ x.skill ∧ x.skill ≤ 1000000000)
theorem SmGroup.ok {x : DGroup} (h : SmGroup x) : fGroup.ok x := by
  unfold SmGroup at h
  exact ⟨by show _ ≤ _; omega, by show _ ∧ _; omega, by show _ ∧ _; omega, by show _ ∧ _; omega, by show _ ∧ _; omega, by show _ ∧ _; omega, by show _ ∧ _; omega⟩
structure BxGroup (w : World) (g : Nat) : Prop where
  d0 : w.cell? ⟨g, 0, none⟩ = some (.string ⟨#[]⟩)
  d1 : w.cell? ⟨g, 1, none⟩ = some (.int .i64 0)
  d2 : w.cell? ⟨g, 2, none⟩ = some (.int .i64 0)
  d3 : w.cell? ⟨g, 3, none⟩ = some (.int .i64 0)
  d4 : w.cell? ⟨g, 4, none⟩ = some (.int .i64 0)
  d5 : w.cell? ⟨g, 5, none⟩ = some (.int .i64 0)
  d6 : w.cell? ⟨g, 6, none⟩ = some (.int .i64 0)
  z0 : w.frozen? ⟨g, 0, none⟩ = false
  z1 : w.frozen? ⟨g, 1, none⟩ = false
  z2 : w.frozen? ⟨g, 2, none⟩ = false
  z3 : w.frozen? ⟨g, 3, none⟩ = false
  z4 : w.frozen? ⟨g, 4, none⟩ = false
  z5 : w.frozen? ⟨g, 5, none⟩ = false
  z6 : w.frozen? ⟨g, 6, none⟩ = false
theorem BxGroup.new (w : World) (T : TypeId) : BxGroup (w.alloc (.cells #[.string ⟨#[]⟩, .int .i64 0, .int .i64 0, .int .i64 0, .int .i64 0, .int .i64 0, .int .i64 0] T)) w.heap.size := by
  constructor <;> simp
theorem BxGroup.keep {w w' : World} {g : Nat} (h : BxGroup w g) (hk : w'.heap[g]? = w.heap[g]?) : BxGroup w' g := by
  have kc : ∀ j, w'.cell? ⟨g, j, none⟩ = w.cell? ⟨g, j, none⟩ := fun j => World.cell?_of_block (w := w) (a := ⟨g, j, none⟩) hk
  have kf : ∀ j, w'.frozen? ⟨g, j, none⟩ = w.frozen? ⟨g, j, none⟩ := fun j => World.frozen?_of_block (w := w) (a := ⟨g, j, none⟩) hk
  exact ⟨(kc _).trans h.d0, (kc _).trans h.d1, (kc _).trans h.d2, (kc _).trans h.d3, (kc _).trans h.d4, (kc _).trans h.d5, (kc _).trans h.d6, (kf _).trans h.z0, (kf _).trans h.z1, (kf _).trans h.z2, (kf _).trans h.z3, (kf _).trans h.z4, (kf _).trans h.z5, (kf _).trans h.z6⟩
theorem BxGroup.lt {w : World} {g : Nat} (h : BxGroup w g) : g < w.heap.size := block_lt_of_cell h.d0
theorem BxGroup.belowB {w w' : World} {g B : Nat} (h : BxGroup w g) (hb : Below B w w') (hg : g < B) : BxGroup w' g := h.keep (hb.block g hg)
theorem BxGroup.far {V : World} {b g j : Nat} {v : Value} (h : BxGroup V b) (hne : b ≠ g) : BxGroup (V.setCell ⟨g, j, none⟩ v) b := by
  have k : ∀ i, (V.setCell ⟨g, j, none⟩ v).cell? ⟨b, i, none⟩ = V.cell? ⟨b, i, none⟩ := fun i => World.cell?_setCell_far V ⟨g, j, none⟩ ⟨b, i, none⟩ v (fun e => hne e.symm)
  have f : ∀ i, (V.setCell ⟨g, j, none⟩ v).frozen? ⟨b, i, none⟩ = V.frozen? ⟨b, i, none⟩ := fun i => frozen?_setCell _ _ _ _
  exact ⟨(k _).trans h.d0, (k _).trans h.d1, (k _).trans h.d2, (k _).trans h.d3, (k _).trans h.d4, (k _).trans h.d5, (k _).trans h.d6, (f _).trans h.z0, (f _).trans h.z1, (f _).trans h.z2, (f _).trans h.z3, (f _).trans h.z4, (f _).trans h.z5, (f _).trans h.z6⟩
/-- A draw under way: the source g, the result's box r, the struct x at b; behind w0 all but g is as it was. -/
structure DrGroup (n g r b : Nat) (x : DGroup) (w0 w : World) : Prop where
  src : SrcD n g w
  only : Only [g] w0 w
  box : BxGroup w r
  pg : PGroup w b 0 x
  zf : ∀ j, w.frozen? ⟨b, j, none⟩ = false
  l0 : g < w0.heap.size
  l1 : w0.heap.size ≤ r
  l2 : w0.heap.size ≤ b
  l3 : r ≠ b
theorem DrGroup.next {n m g r b : Nat} {x : DGroup} {w0 w w' : World} (h : DrGroup n g r b x w0 w) (ho : Only [g] w w') (hs : SrcD m g w') : DrGroup m g r b x w0 w' := by
  have l0 := h.l0; have l1 := h.l1; have l2 := h.l2; have lb := h.pg.lt; have lr := h.box.lt
  have hbb : w'.heap[b]? = w.heap[b]? := ho.block b lb (by simp; omega)
  have kc : ∀ j, w'.cell? ⟨b, j, none⟩ = w.cell? ⟨b, j, none⟩ := fun j => World.cell?_of_block (w := w) (a := ⟨b, j, none⟩) hbb
  have kf : ∀ j, w'.frozen? ⟨b, j, none⟩ = w.frozen? ⟨b, j, none⟩ := fun j => World.frozen?_of_block (w := w) (a := ⟨b, j, none⟩) hbb
  exact ⟨hs, h.only.trans ho, h.box.keep (ho.block r lr (by simp; omega)), ⟨(kc _).trans h.pg.c0, (kc _).trans h.pg.c1, (kc _).trans h.pg.c2, (kc _).trans h.pg.c3, (kc _).trans h.pg.c4, (kc _).trans h.pg.c5, (kc _).trans h.pg.c6⟩, fun j => (kf j).trans (h.zf j), l0, l1, l2, h.l3⟩
theorem DrGroup.grow {n g r b : Nat} {x : DGroup} {w0 w w' : World} (h : DrGroup n g r b x w0 w) (hb : Below w.heap.size w w') : DrGroup n g r b x w0 w' := h.next (Only.of_below hb) (h.src.below hb)
theorem DrGroup.mono {n m g r b : Nat} {x : DGroup} {w0 w : World} (h : DrGroup n g r b x w0 w) (hm : n ≤ m) : DrGroup m g r b x w0 w := ⟨h.src.mono hm, h.only, h.box, h.pg, h.zf, h.l0, h.l1, h.l2, h.l3⟩
theorem DrGroup.fin {n g r b : Nat} {x : DGroup} {w0 w w' : World} (h : DrGroup n g r b x w0 w) (hb : Below w0.heap.size w w') : SrcD n g w' ∧ Only [g] w0 w' :=
  ⟨h.src.belowB hb h.l0, h.only.then hb⟩
theorem DrGroup.fb {n g r b : Nat} {x : DGroup} {w0 w : World} (h : DrGroup n g r b x w0 w) (j : Nat) (v : Value) {w' : World} (hb : Below w0.heap.size w w') : Below w0.heap.size w (w'.setCell ⟨r, j, none⟩ v) := hb.setCell (p := ⟨r, j, none⟩) h.l1 v
theorem PGroup.keepB {w w' : World} {b : Nat} {x : DGroup} (h : PGroup w b 0 x) (hk : w'.heap[b]? = w.heap[b]?) : PGroup w' b 0 x := by
  have kc : ∀ j, w'.cell? ⟨b, j, none⟩ = w.cell? ⟨b, j, none⟩ := fun j => World.cell?_of_block (w := w) (a := ⟨b, j, none⟩) hk
  exact ⟨(kc _).trans h.c0, (kc _).trans h.c1, (kc _).trans h.c2, (kc _).trans h.c3, (kc _).trans h.c4, (kc _).trans h.c5, (kc _).trans h.c6⟩
theorem PGroup.vset0 {V : World} {g : Nat} {x : DGroup} (h : PGroup V g 0 x) (c : ByteArray) : PGroup (V.setCell ⟨g, 0, none⟩ (.string c)) g 0 ⟨c, x.people, x.guides, x.beacons, x.shovels, x.probes, x.skill⟩ := by
  have nk : ∀ j, j ≠ 0 → (⟨g, 0, none⟩ : Addr) ≠ ⟨g, j, none⟩ := fun j hj e => by injection e with _ e _; exact hj e.symm
  have k : ∀ j, j ≠ 0 → (V.setCell ⟨g, 0, none⟩ (.string c)).cell? ⟨g, j, none⟩ = V.cell? ⟨g, j, none⟩ := fun j hj => World.cell?_setCell_other _ _ _ _ (nk j hj)
  exact ⟨hit_cellX (by rw [h.c0]; rfl), (k _ (by decide)).trans h.c1, (k _ (by decide)).trans h.c2, (k _ (by decide)).trans h.c3, (k _ (by decide)).trans h.c4, (k _ (by decide)).trans h.c5, (k _ (by decide)).trans h.c6⟩
theorem DrGroup.set0 {n g r b : Nat} {x : DGroup} {w0 V : World} (h : DrGroup n g r b x w0 V) (c : ByteArray) : DrGroup n g r b ⟨c, x.people, x.guides, x.beacons, x.shovels, x.probes, x.skill⟩ w0 (V.setCell ⟨b, 0, none⟩ (.string c)) := by
  have hb : Below w0.heap.size V (V.setCell ⟨b, 0, none⟩ (.string c)) := (Below.refl _ _).setCell (p := ⟨b, 0, none⟩) h.l2 _
  exact ⟨h.src.belowB hb h.l0, h.only.then hb, h.box.far h.l3, h.pg.vset0 c, fun j => (frozen?_setCell _ _ _ _).trans (h.zf j), h.l0, h.l1, h.l2, h.l3⟩
theorem PGroup.vset1 {V : World} {g : Nat} {x : DGroup} (h : PGroup V g 0 x) (c : Int) : PGroup (V.setCell ⟨g, 1, none⟩ (.int .i64 c)) g 0 ⟨x.id, c, x.guides, x.beacons, x.shovels, x.probes, x.skill⟩ := by
  have nk : ∀ j, j ≠ 1 → (⟨g, 1, none⟩ : Addr) ≠ ⟨g, j, none⟩ := fun j hj e => by injection e with _ e _; exact hj e.symm
  have k : ∀ j, j ≠ 1 → (V.setCell ⟨g, 1, none⟩ (.int .i64 c)).cell? ⟨g, j, none⟩ = V.cell? ⟨g, j, none⟩ := fun j hj => World.cell?_setCell_other _ _ _ _ (nk j hj)
  exact ⟨(k _ (by decide)).trans h.c0, hit_cellX (by have := h.c1; rw [show (0 + 1 : Nat) = 1 from rfl] at this; rw [this]; rfl), (k _ (by decide)).trans h.c2, (k _ (by decide)).trans h.c3, (k _ (by decide)).trans h.c4, (k _ (by decide)).trans h.c5, (k _ (by decide)).trans h.c6⟩
theorem DrGroup.set1 {n g r b : Nat} {x : DGroup} {w0 V : World} (h : DrGroup n g r b x w0 V) (c : Int) : DrGroup n g r b ⟨x.id, c, x.guides, x.beacons, x.shovels, x.probes, x.skill⟩ w0 (V.setCell ⟨b, 1, none⟩ (.int .i64 c)) := by
  have hb : Below w0.heap.size V (V.setCell ⟨b, 1, none⟩ (.int .i64 c)) := (Below.refl _ _).setCell (p := ⟨b, 1, none⟩) h.l2 _
  exact ⟨h.src.belowB hb h.l0, h.only.then hb, h.box.far h.l3, h.pg.vset1 c, fun j => (frozen?_setCell _ _ _ _).trans (h.zf j), h.l0, h.l1, h.l2, h.l3⟩
theorem PGroup.vset2 {V : World} {g : Nat} {x : DGroup} (h : PGroup V g 0 x) (c : Int) : PGroup (V.setCell ⟨g, 2, none⟩ (.int .i64 c)) g 0 ⟨x.id, x.people, c, x.beacons, x.shovels, x.probes, x.skill⟩ := by
  have nk : ∀ j, j ≠ 2 → (⟨g, 2, none⟩ : Addr) ≠ ⟨g, j, none⟩ := fun j hj e => by injection e with _ e _; exact hj e.symm
  have k : ∀ j, j ≠ 2 → (V.setCell ⟨g, 2, none⟩ (.int .i64 c)).cell? ⟨g, j, none⟩ = V.cell? ⟨g, j, none⟩ := fun j hj => World.cell?_setCell_other _ _ _ _ (nk j hj)
  exact ⟨(k _ (by decide)).trans h.c0, (k _ (by decide)).trans h.c1, hit_cellX (by have := h.c2; rw [show (0 + 2 : Nat) = 2 from rfl] at this; rw [this]; rfl), (k _ (by decide)).trans h.c3, (k _ (by decide)).trans h.c4, (k _ (by decide)).trans h.c5, (k _ (by decide)).trans h.c6⟩
theorem DrGroup.set2 {n g r b : Nat} {x : DGroup} {w0 V : World} (h : DrGroup n g r b x w0 V) (c : Int) : DrGroup n g r b ⟨x.id, x.people, c, x.beacons, x.shovels, x.probes, x.skill⟩ w0 (V.setCell ⟨b, 2, none⟩ (.int .i64 c)) := by
  have hb : Below w0.heap.size V (V.setCell ⟨b, 2, none⟩ (.int .i64 c)) := (Below.refl _ _).setCell (p := ⟨b, 2, none⟩) h.l2 _
  exact ⟨h.src.belowB hb h.l0, h.only.then hb, h.box.far h.l3, h.pg.vset2 c, fun j => (frozen?_setCell _ _ _ _).trans (h.zf j), h.l0, h.l1, h.l2, h.l3⟩
theorem PGroup.vset3 {V : World} {g : Nat} {x : DGroup} (h : PGroup V g 0 x) (c : Int) : PGroup (V.setCell ⟨g, 3, none⟩ (.int .i64 c)) g 0 ⟨x.id, x.people, x.guides, c, x.shovels, x.probes, x.skill⟩ := by
  have nk : ∀ j, j ≠ 3 → (⟨g, 3, none⟩ : Addr) ≠ ⟨g, j, none⟩ := fun j hj e => by injection e with _ e _; exact hj e.symm
  have k : ∀ j, j ≠ 3 → (V.setCell ⟨g, 3, none⟩ (.int .i64 c)).cell? ⟨g, j, none⟩ = V.cell? ⟨g, j, none⟩ := fun j hj => World.cell?_setCell_other _ _ _ _ (nk j hj)
  exact ⟨(k _ (by decide)).trans h.c0, (k _ (by decide)).trans h.c1, (k _ (by decide)).trans h.c2, hit_cellX (by have := h.c3; rw [show (0 + 3 : Nat) = 3 from rfl] at this; rw [this]; rfl), (k _ (by decide)).trans h.c4, (k _ (by decide)).trans h.c5, (k _ (by decide)).trans h.c6⟩
theorem DrGroup.set3 {n g r b : Nat} {x : DGroup} {w0 V : World} (h : DrGroup n g r b x w0 V) (c : Int) : DrGroup n g r b ⟨x.id, x.people, x.guides, c, x.shovels, x.probes, x.skill⟩ w0 (V.setCell ⟨b, 3, none⟩ (.int .i64 c)) := by
  have hb : Below w0.heap.size V (V.setCell ⟨b, 3, none⟩ (.int .i64 c)) := (Below.refl _ _).setCell (p := ⟨b, 3, none⟩) h.l2 _
  exact ⟨h.src.belowB hb h.l0, h.only.then hb, h.box.far h.l3, h.pg.vset3 c, fun j => (frozen?_setCell _ _ _ _).trans (h.zf j), h.l0, h.l1, h.l2, h.l3⟩
theorem PGroup.vset4 {V : World} {g : Nat} {x : DGroup} (h : PGroup V g 0 x) (c : Int) : PGroup (V.setCell ⟨g, 4, none⟩ (.int .i64 c)) g 0 ⟨x.id, x.people, x.guides, x.beacons, c, x.probes, x.skill⟩ := by
  have nk : ∀ j, j ≠ 4 → (⟨g, 4, none⟩ : Addr) ≠ ⟨g, j, none⟩ := fun j hj e => by injection e with _ e _; exact hj e.symm
  have k : ∀ j, j ≠ 4 → (V.setCell ⟨g, 4, none⟩ (.int .i64 c)).cell? ⟨g, j, none⟩ = V.cell? ⟨g, j, none⟩ := fun j hj => World.cell?_setCell_other _ _ _ _ (nk j hj)
  exact ⟨(k _ (by decide)).trans h.c0, (k _ (by decide)).trans h.c1, (k _ (by decide)).trans h.c2, (k _ (by decide)).trans h.c3, hit_cellX (by have := h.c4; rw [show (0 + 4 : Nat) = 4 from rfl] at this; rw [this]; rfl), (k _ (by decide)).trans h.c5, (k _ (by decide)).trans h.c6⟩
theorem DrGroup.set4 {n g r b : Nat} {x : DGroup} {w0 V : World} (h : DrGroup n g r b x w0 V) (c : Int) : DrGroup n g r b ⟨x.id, x.people, x.guides, x.beacons, c, x.probes, x.skill⟩ w0 (V.setCell ⟨b, 4, none⟩ (.int .i64 c)) := by
  have hb : Below w0.heap.size V (V.setCell ⟨b, 4, none⟩ (.int .i64 c)) := (Below.refl _ _).setCell (p := ⟨b, 4, none⟩) h.l2 _
  exact ⟨h.src.belowB hb h.l0, h.only.then hb, h.box.far h.l3, h.pg.vset4 c, fun j => (frozen?_setCell _ _ _ _).trans (h.zf j), h.l0, h.l1, h.l2, h.l3⟩
theorem PGroup.vset5 {V : World} {g : Nat} {x : DGroup} (h : PGroup V g 0 x) (c : Int) : PGroup (V.setCell ⟨g, 5, none⟩ (.int .i64 c)) g 0 ⟨x.id, x.people, x.guides, x.beacons, x.shovels, c, x.skill⟩ := by
  have nk : ∀ j, j ≠ 5 → (⟨g, 5, none⟩ : Addr) ≠ ⟨g, j, none⟩ := fun j hj e => by injection e with _ e _; exact hj e.symm
  have k : ∀ j, j ≠ 5 → (V.setCell ⟨g, 5, none⟩ (.int .i64 c)).cell? ⟨g, j, none⟩ = V.cell? ⟨g, j, none⟩ := fun j hj => World.cell?_setCell_other _ _ _ _ (nk j hj)
  exact ⟨(k _ (by decide)).trans h.c0, (k _ (by decide)).trans h.c1, (k _ (by decide)).trans h.c2, (k _ (by decide)).trans h.c3, (k _ (by decide)).trans h.c4, hit_cellX (by have := h.c5; rw [show (0 + 5 : Nat) = 5 from rfl] at this; rw [this]; rfl), (k _ (by decide)).trans h.c6⟩
theorem DrGroup.set5 {n g r b : Nat} {x : DGroup} {w0 V : World} (h : DrGroup n g r b x w0 V) (c : Int) : DrGroup n g r b ⟨x.id, x.people, x.guides, x.beacons, x.shovels, c, x.skill⟩ w0 (V.setCell ⟨b, 5, none⟩ (.int .i64 c)) := by
  have hb : Below w0.heap.size V (V.setCell ⟨b, 5, none⟩ (.int .i64 c)) := (Below.refl _ _).setCell (p := ⟨b, 5, none⟩) h.l2 _
  exact ⟨h.src.belowB hb h.l0, h.only.then hb, h.box.far h.l3, h.pg.vset5 c, fun j => (frozen?_setCell _ _ _ _).trans (h.zf j), h.l0, h.l1, h.l2, h.l3⟩
theorem PGroup.vset6 {V : World} {g : Nat} {x : DGroup} (h : PGroup V g 0 x) (c : Int) : PGroup (V.setCell ⟨g, 6, none⟩ (.int .i64 c)) g 0 ⟨x.id, x.people, x.guides, x.beacons, x.shovels, x.probes, c⟩ := by
  have nk : ∀ j, j ≠ 6 → (⟨g, 6, none⟩ : Addr) ≠ ⟨g, j, none⟩ := fun j hj e => by injection e with _ e _; exact hj e.symm
  have k : ∀ j, j ≠ 6 → (V.setCell ⟨g, 6, none⟩ (.int .i64 c)).cell? ⟨g, j, none⟩ = V.cell? ⟨g, j, none⟩ := fun j hj => World.cell?_setCell_other _ _ _ _ (nk j hj)
  exact ⟨(k _ (by decide)).trans h.c0, (k _ (by decide)).trans h.c1, (k _ (by decide)).trans h.c2, (k _ (by decide)).trans h.c3, (k _ (by decide)).trans h.c4, (k _ (by decide)).trans h.c5, hit_cellX (by have := h.c6; rw [show (0 + 6 : Nat) = 6 from rfl] at this; rw [this]; rfl)⟩
theorem DrGroup.set6 {n g r b : Nat} {x : DGroup} {w0 V : World} (h : DrGroup n g r b x w0 V) (c : Int) : DrGroup n g r b ⟨x.id, x.people, x.guides, x.beacons, x.shovels, x.probes, c⟩ w0 (V.setCell ⟨b, 6, none⟩ (.int .i64 c)) := by
  have hb : Below w0.heap.size V (V.setCell ⟨b, 6, none⟩ (.int .i64 c)) := (Below.refl _ _).setCell (p := ⟨b, 6, none⟩) h.l2 _
  exact ⟨h.src.belowB hb h.l0, h.only.then hb, h.box.far h.l3, h.pg.vset6 c, fun j => (frozen?_setCell _ _ _ _).trans (h.zf j), h.l0, h.l1, h.l2, h.l3⟩
set_option maxRecDepth 100000 in
set_option maxHeartbeats 4000000 in
theorem l24DrawOne_any (n g : Nat) (name : ByteArray) (w : World) (hs : SrcD n g w) (hn : n ≤ 999999980000) (hnm : name.size ≤ 100) :
    Calls Try.prog 62 #[.pointer (some ⟨g, 0, none⟩), .string name] w fun e w' => ∃ x : DGroup, e = .returned (agGroup x) ∧ (SmGroup x ∧ x.id = name ∧ x.people ≤ 14) ∧ SrcD (n + 20) g w' ∧ Only [g] w w' := by
  have hg := hs.lt
  go_enter Try.func62, Try.ntmps62
  have hB0 : Below w.heap.size w (w.alloc (.cells #[.string ⟨#[]⟩, .int .i64 0, .int .i64 0, .int .i64 0, .int .i64 0, .int .i64 0, .int .i64 0] 43)) := (Below.refl _ _).alloc (Nat.le_refl _) _
  go_wp2_with fail
  refine (pick_any _ g 14 _ (hs.below hB0) (by omega) (by omega)).mono ?_
  rintro e w1 ⟨a, rfl, ⟨a0, a1, _⟩, hs1, ho1⟩
  replace a1 := a1 (by omega)
  have hbx1 : BxGroup w1 w.heap.size := (BxGroup.new w _).keep (ho1.block w.heap.size (by simp) (by simp; omega))
  have hr1 : w.heap.size < w1.heap.size := by have := ho1.size; simp at this; omega
  have hO1 : Only [g] w w1 := Only.later hB0 ho1
  clear hB0 ho1
  have e1 : wrap64 (1 + a) = 1 + a := w64_inD _ (by omega)
  have hBA : Below w1.heap.size w1 (w1.alloc (.cells #[.string name, .int .i64 (1 + a), .int .i64 0, .int .i64 0, .int .i64 0, .int .i64 0, .int .i64 0] 43)) := (Below.refl _ _).alloc (Nat.le_refl _) _
  have hD : DrGroup (n + 2) g w.heap.size w1.heap.size ⟨name, 1 + a, 0, 0, 0, 0, 0⟩ w (w1.alloc (.cells #[.string name, .int .i64 (1 + a), .int .i64 0, .int .i64 0, .int .i64 0, .int .i64 0, .int .i64 0] 43)) := ⟨hs1.below hBA, hO1.then (hBA.mono hO1.size), hbx1.belowB hBA hr1, PGroup.box w1 ⟨name, 1 + a, 0, 0, 0, 0, 0⟩ _, fun j => World.frozen?_alloc_at _ _ _ _ rfl, hg, Nat.le_refl _, Nat.le_of_lt hr1, Nat.ne_of_lt hr1⟩
  clear hBA hbx1 hs1 hO1
  go_upto_region 2 with fail
  refine at_world (fun W => DrGroup (n + 2) g w.heap.size w1.heap.size ⟨name, 1 + a, 0, 0, 0, 0, 0⟩ w W) hD ?_
  clear hD
  have hbl : w.heap.size ≤ w1.heap.size := Nat.le_of_lt hr1
  clear hr1
  generalize w1.heap.size = b at *
  intro V0 hD
  obtain ⟨s, hsv⟩ : ∃ s, s = 1 + a := ⟨_, rfl⟩
  rw [← hsv] at hD ⊢
  have hs0 : 1 ≤ s ∧ s ≤ 14 := by omega
  clear hsv e1 a0 a1
  obtain ⟨x0, x1, x2, x3, x4, x5, x6⟩ := id hD.pg
  go_wp2_with fail
  refine (minS_any _ _ _).mono ?_
  rintro e w' ⟨rfl, rfl⟩
  go_wp2_with fail
  refine (pick_any _ g _ _ hD.src (by omega) (by omega)).mono ?_
  rintro e V2 ⟨gd, rfl, ⟨gd0, gd1, _⟩, hsN, hoN⟩
  replace gd1 : gd ≤ 4 := by have := gd1 (by omega); omega
  clear x0 x1 x2 x3 x4 x5 x6
  replace hD := hD.next hoN hsN
  clear hsN hoN
  have c2 : V2.cell? ⟨b, 2, none⟩ = some (.int .i64 0) := hD.pg.c2
  have z2 := hD.zf 2
  replace hD := hD.set2 gd
  go_wp2
  generalize V2.setCell ⟨b, 2, none⟩ (.int .i64 gd) = V3 at *
  clear c2 z2
  have hbW : g ≤ V3.heap.size := Nat.le_of_lt hD.src.lt
  have hDd := hD.next (Only.of_below (Below.drew (Below.refl _ _))) (hD.src.below (Below.drew (Below.refl _ _)))
  have gk1 : ∀ p : KeptW (g) V3 (fun N => N.cell? ⟨b, 1, none⟩ = some (.int .i64 s)), p.v.cell? ⟨b, 1, none⟩ = some (.int .i64 s) := fun p => p.x
  haveI hKne : Nonempty (KeptW (g) V3 (fun N => N.cell? ⟨b, 1, none⟩ = some (.int .i64 s))) := ⟨⟨_, Below.drew (Below.refl _ _), hDd.pg.c1⟩⟩
  refine wp_region_mix (C := fun w' => ∃ p : KeptW (g) V3 (fun N => N.cell? ⟨b, 1, none⟩ = some (.int .i64 s)), w' = p.v) [true, true, true, false, true, true, false, true, false] (by kernel_rfl) (by kernel_rfl) (by kernel_rfl) (fun _ _ d _ _ h => by cases d <;> exact h) ⟨⟨_, Below.drew (Below.refl _ _), hDd.pg.c1⟩, rfl⟩ ?_
  have hS0 : Below (g) V3 V3.drew := Below.drew (Below.refl _ _)
  refine wpMix_pure (by kernel_rfl) (fun K hK => ?_); go_big_quiet_op; refine hK _ ?_; clear hK K
  refine wpMix_pure (by kernel_rfl) (fun K hK => ?_); go_big_quiet_op; refine hK _ ?_; clear hK K
  refine wpMix_pure (by kernel_rfl) (fun K hK => ?_); go_big_quiet_op; refine hK _ ?_; clear hK K
  refine wpMix_act (by kernel_rfl) (fun K hK => ?_)
  go_big_op
  refine (pick_any _ g 4 _ hDd.src (by omega) (by omega)).mono ?_
  rintro e u ⟨qa, rfl, ⟨qa0, qa1, _⟩, hs2, ho2⟩
  replace qa1 := qa1 (by omega)
  have hD2 := hDd.next ho2 hs2
  have hbu : Below g V3.drew u := ho2.below (by have := hs2.lt; have := hDd.src.lt; omega) (by simp)
  have hx3 : u.cell? ⟨b, 1, none⟩ = some (.int .i64 s) := hD2.pg.c1
  have hbuS : Below (g) V3 u := hS0.trans hbu
  try simp only [Act.put, List.setIfInBounds_toArray, List.set_cons_zero, List.set_cons_succ]
  refine hK _ _ ⟨⟨_, hbuS, hx3⟩, rfl⟩ ?_
  clear hK K
  refine wpMix_pure (by kernel_rfl) (fun K hK => ?_); go_big_quiet_op; refine hK _ ?_; clear hK K
  refine wpMix_pure (by kernel_rfl) (fun K hK => ?_); go_big_quiet_op; refine hK _ ?_; clear hK K
  refine wpMix_act (by kernel_rfl) (fun K hK => ?_)
  go_big_op
  refine (maxS_any _ _ _).mono ?_
  rintro e w' ⟨rfl, rfl⟩
  refine hK _ _ ⟨⟨_, hbuS, hx3⟩, rfl⟩ ?_
  clear hK K
  refine wpMix_pure (by kernel_rfl) (fun K hK => ?_); go_big_quiet_op; refine hK _ ?_; clear hK K
  refine wpMix_act (by kernel_rfl) (fun K hK => ?_)
  obtain ⟨V9, rfl⟩ : ∃ N, N = u := ⟨u, rfl⟩
  have cK : V9.cell? ⟨b, 3, none⟩ = some (.int .i64 0) := hD2.pg.c3
  have zK := hD2.zf 3
  go_big_op
  have hD3 := hD2.set3 (max 0 (s + qa - 1))
  have hbu : Below g V9 (V9.setCell ⟨b, 3, none⟩ (.int .i64 (max 0 (s + qa - 1)))) := (Below.refl _ _).setCell (by have := hD2.l0; have := hD2.l2; show g ≤ b; omega) _
  generalize V9.setCell ⟨b, 3, none⟩ (.int .i64 (max 0 (s + qa - 1))) = u at *
  have hx7 : u.cell? ⟨b, 1, none⟩ = some (.int .i64 s) := hD3.pg.c1
  have hbuS : Below (g) V3 u := hbuS.trans hbu
  try simp only [Act.put, List.setIfInBounds_toArray, List.set_cons_zero, List.set_cons_succ]
  refine hK _ _ ⟨⟨_, hbuS, hx7⟩, rfl⟩ ?_
  clear hK K
  refine wpMix_nil ?_
  clear hbuS hbW hDd hD2 cK zK hx3 hx7 hD gk1 hKne
  have hD := hD3
  clear hD3
  have qab : 0 ≤ (max 0 (s + qa - 1)) ∧ (max 0 (s + qa - 1)) ≤ 100 := by omega
  generalize (max 0 (s + qa - 1)) = mqa at *
  rename World => VX
  go_wp2
  have hbW : g ≤ VX.heap.size := Nat.le_of_lt hD.src.lt
  have hDd := hD.next (Only.of_below (Below.drew (Below.refl _ _))) (hD.src.below (Below.drew (Below.refl _ _)))
  have gk1 : ∀ p : KeptW (g) VX (fun N => N.cell? ⟨b, 1, none⟩ = some (.int .i64 s)), p.v.cell? ⟨b, 1, none⟩ = some (.int .i64 s) := fun p => p.x
  haveI hKne : Nonempty (KeptW (g) VX (fun N => N.cell? ⟨b, 1, none⟩ = some (.int .i64 s))) := ⟨⟨_, Below.drew (Below.refl _ _), hDd.pg.c1⟩⟩
  refine wp_region_mix (C := fun w' => ∃ p : KeptW (g) VX (fun N => N.cell? ⟨b, 1, none⟩ = some (.int .i64 s)), w' = p.v) [true, true, true, false, true, true, false, true, false] (by kernel_rfl) (by kernel_rfl) (by kernel_rfl) (fun _ _ d _ _ h => by cases d <;> exact h) ⟨⟨_, Below.drew (Below.refl _ _), hDd.pg.c1⟩, rfl⟩ ?_
  have hS0 : Below (g) VX VX.drew := Below.drew (Below.refl _ _)
  refine wpMix_pure (by kernel_rfl) (fun K hK => ?_); go_big_quiet_op; refine hK _ ?_; clear hK K
  refine wpMix_pure (by kernel_rfl) (fun K hK => ?_); go_big_quiet_op; refine hK _ ?_; clear hK K
  refine wpMix_pure (by kernel_rfl) (fun K hK => ?_); go_big_quiet_op; refine hK _ ?_; clear hK K
  refine wpMix_act (by kernel_rfl) (fun K hK => ?_)
  go_big_op
  refine (pick_any _ g 4 _ hDd.src (by omega) (by omega)).mono ?_
  rintro e u ⟨qb, rfl, ⟨qb0, qb1, _⟩, hs2, ho2⟩
  replace qb1 := qb1 (by omega)
  have hD2 := hDd.next ho2 hs2
  have hbu : Below g VX.drew u := ho2.below (by have := hs2.lt; have := hDd.src.lt; omega) (by simp)
  have hx3 : u.cell? ⟨b, 1, none⟩ = some (.int .i64 s) := hD2.pg.c1
  have hbuS : Below (g) VX u := hS0.trans hbu
  try simp only [Act.put, List.setIfInBounds_toArray, List.set_cons_zero, List.set_cons_succ]
  refine hK _ _ ⟨⟨_, hbuS, hx3⟩, rfl⟩ ?_
  clear hK K
  refine wpMix_pure (by kernel_rfl) (fun K hK => ?_); go_big_quiet_op; refine hK _ ?_; clear hK K
  refine wpMix_pure (by kernel_rfl) (fun K hK => ?_); go_big_quiet_op; refine hK _ ?_; clear hK K
  refine wpMix_act (by kernel_rfl) (fun K hK => ?_)
  go_big_op
  refine (maxS_any _ _ _).mono ?_
  rintro e w' ⟨rfl, rfl⟩
  refine hK _ _ ⟨⟨_, hbuS, hx3⟩, rfl⟩ ?_
  clear hK K
  refine wpMix_pure (by kernel_rfl) (fun K hK => ?_); go_big_quiet_op; refine hK _ ?_; clear hK K
  refine wpMix_act (by kernel_rfl) (fun K hK => ?_)
  obtain ⟨V9, rfl⟩ : ∃ N, N = u := ⟨u, rfl⟩
  have cK : V9.cell? ⟨b, 4, none⟩ = some (.int .i64 0) := hD2.pg.c4
  have zK := hD2.zf 4
  go_big_op
  have hD3 := hD2.set4 (max 0 (s + qb - 1))
  have hbu : Below g V9 (V9.setCell ⟨b, 4, none⟩ (.int .i64 (max 0 (s + qb - 1)))) := (Below.refl _ _).setCell (by have := hD2.l0; have := hD2.l2; show g ≤ b; omega) _
  generalize V9.setCell ⟨b, 4, none⟩ (.int .i64 (max 0 (s + qb - 1))) = u at *
  have hx7 : u.cell? ⟨b, 1, none⟩ = some (.int .i64 s) := hD3.pg.c1
  have hbuS : Below (g) VX u := hbuS.trans hbu
  try simp only [Act.put, List.setIfInBounds_toArray, List.set_cons_zero, List.set_cons_succ]
  refine hK _ _ ⟨⟨_, hbuS, hx7⟩, rfl⟩ ?_
  clear hK K
  refine wpMix_nil ?_
  clear hbuS hbW hDd hD2 cK zK hx3 hx7 hD gk1 hKne
  have hD := hD3
  clear hD3
  have qbb : 0 ≤ (max 0 (s + qb - 1)) ∧ (max 0 (s + qb - 1)) ≤ 100 := by omega
  generalize (max 0 (s + qb - 1)) = mqb at *
  rename World => VX
  go_wp2
  have hbW : g ≤ VX.heap.size := Nat.le_of_lt hD.src.lt
  have hDd := hD.next (Only.of_below (Below.drew (Below.refl _ _))) (hD.src.below (Below.drew (Below.refl _ _)))
  have gk1 : ∀ p : KeptW (g) VX (fun N => N.cell? ⟨b, 1, none⟩ = some (.int .i64 s)), p.v.cell? ⟨b, 1, none⟩ = some (.int .i64 s) := fun p => p.x
  haveI hKne : Nonempty (KeptW (g) VX (fun N => N.cell? ⟨b, 1, none⟩ = some (.int .i64 s))) := ⟨⟨_, Below.drew (Below.refl _ _), hDd.pg.c1⟩⟩
  refine wp_region_mix (C := fun w' => ∃ p : KeptW (g) VX (fun N => N.cell? ⟨b, 1, none⟩ = some (.int .i64 s)), w' = p.v) [true, true, true, false, true, true, false, true, false] (by kernel_rfl) (by kernel_rfl) (by kernel_rfl) (fun _ _ d _ _ h => by cases d <;> exact h) ⟨⟨_, Below.drew (Below.refl _ _), hDd.pg.c1⟩, rfl⟩ ?_
  have hS0 : Below (g) VX VX.drew := Below.drew (Below.refl _ _)
  refine wpMix_pure (by kernel_rfl) (fun K hK => ?_); go_big_quiet_op; refine hK _ ?_; clear hK K
  refine wpMix_pure (by kernel_rfl) (fun K hK => ?_); go_big_quiet_op; refine hK _ ?_; clear hK K
  refine wpMix_pure (by kernel_rfl) (fun K hK => ?_); go_big_quiet_op; refine hK _ ?_; clear hK K
  refine wpMix_act (by kernel_rfl) (fun K hK => ?_)
  go_big_op
  refine (pick_any _ g 4 _ hDd.src (by omega) (by omega)).mono ?_
  rintro e u ⟨qc, rfl, ⟨qc0, qc1, _⟩, hs2, ho2⟩
  replace qc1 := qc1 (by omega)
  have hD2 := hDd.next ho2 hs2
  have hbu : Below g VX.drew u := ho2.below (by have := hs2.lt; have := hDd.src.lt; omega) (by simp)
  have hx3 : u.cell? ⟨b, 1, none⟩ = some (.int .i64 s) := hD2.pg.c1
  have hbuS : Below (g) VX u := hS0.trans hbu
  try simp only [Act.put, List.setIfInBounds_toArray, List.set_cons_zero, List.set_cons_succ]
  refine hK _ _ ⟨⟨_, hbuS, hx3⟩, rfl⟩ ?_
  clear hK K
  refine wpMix_pure (by kernel_rfl) (fun K hK => ?_); go_big_quiet_op; refine hK _ ?_; clear hK K
  refine wpMix_pure (by kernel_rfl) (fun K hK => ?_); go_big_quiet_op; refine hK _ ?_; clear hK K
  refine wpMix_act (by kernel_rfl) (fun K hK => ?_)
  go_big_op
  refine (maxS_any _ _ _).mono ?_
  rintro e w' ⟨rfl, rfl⟩
  refine hK _ _ ⟨⟨_, hbuS, hx3⟩, rfl⟩ ?_
  clear hK K
  refine wpMix_pure (by kernel_rfl) (fun K hK => ?_); go_big_quiet_op; refine hK _ ?_; clear hK K
  refine wpMix_act (by kernel_rfl) (fun K hK => ?_)
  obtain ⟨V9, rfl⟩ : ∃ N, N = u := ⟨u, rfl⟩
  have cK : V9.cell? ⟨b, 5, none⟩ = some (.int .i64 0) := hD2.pg.c5
  have zK := hD2.zf 5
  go_big_op
  have hD3 := hD2.set5 (max 0 (s + qc - 1))
  have hbu : Below g V9 (V9.setCell ⟨b, 5, none⟩ (.int .i64 (max 0 (s + qc - 1)))) := (Below.refl _ _).setCell (by have := hD2.l0; have := hD2.l2; show g ≤ b; omega) _
  generalize V9.setCell ⟨b, 5, none⟩ (.int .i64 (max 0 (s + qc - 1))) = u at *
  have hx7 : u.cell? ⟨b, 1, none⟩ = some (.int .i64 s) := hD3.pg.c1
  have hbuS : Below (g) VX u := hbuS.trans hbu
  try simp only [Act.put, List.setIfInBounds_toArray, List.set_cons_zero, List.set_cons_succ]
  refine hK _ _ ⟨⟨_, hbuS, hx7⟩, rfl⟩ ?_
  clear hK K
  refine wpMix_nil ?_
  clear hbuS hbW hDd hD2 cK zK hx3 hx7 hD gk1 hKne
  have hD := hD3
  clear hD3
  have qcb : 0 ≤ (max 0 (s + qc - 1)) ∧ (max 0 (s + qc - 1)) ≤ 100 := by omega
  generalize (max 0 (s + qc - 1)) = mqc at *
  rename World => V8
  go_wp2_with fail
  refine (pick_any _ g 5 _ hD.src (by omega) (by omega)).mono ?_
  rintro e V7 ⟨k, rfl, ⟨k0, k1, _⟩, hsN, hoN⟩
  replace k1 := k1 (by omega)
  replace hD := hD.next hoN hsN
  clear hsN hoN
  have c6 : V7.cell? ⟨b, 6, none⟩ = some (.int .i64 0) := hD.pg.c6
  have z6_ := hD.zf 6
  have e7 : wrap64 (1 + k) = 1 + k := w64_inD _ (by omega)
  replace hD := hD.set6 (1 + k)
  have hDz := hD
  obtain ⟨d0, d1, d2, d3, d4, d5, d6, z0, z1, z2, z3, z4, z5, z6⟩ := hDz.box
  obtain ⟨x0, x1, x2, x3, x4, x5, x6⟩ := id hDz.pg
  go_wp2
  exact bodyPost_ret (v := agGroup ⟨name, s, gd, mqa, mqb, mqc, 1 + k⟩) (by simp [agGroup, results, hit_cellX, d0, d1, d2, d3, d4, d5, d6, Try.results62, go_sem]) rfl ⟨_, rfl, ⟨by unfold SmGroup; simp only; omega, rfl, by show s ≤ 14; omega⟩, ((hDz.fin (by (repeat (refine Below.setCell ?_ hDz.l1 _)); exact Below.refl _ _)).1).mono (by omega), (hDz.fin (by (repeat (refine Below.setCell ?_ hDz.l1 _)); exact Below.refl _ _)).2⟩



set_option maxRecDepth 100000 in
set_option maxHeartbeats 4000000 in
theorem l24Bend_any (n g : Nat) (y : DGroup) (w : World) (hs : SrcD n g w) (hn : n ≤ 999999980000) (hy : SmGroup y ∧ y.people ≤ 1000000) :
    Calls Try.prog 64 #[.pointer (some ⟨g, 0, none⟩), agGroup y] w fun e w' => ∃ x : DGroup, e = .returned (agGroup x) ∧ SmGroup x ∧ SrcD (n + 20) g w' ∧ Only [g] w w' := by
  have hg := hs.lt
  have hB0 : Below w.heap.size w (w.alloc (.cells #[.string y.id, .int .i64 y.people, .int .i64 y.guides, .int .i64 y.beacons, .int .i64 y.shovels, .int .i64 y.probes, .int .i64 y.skill] 43)) := (Below.refl _ _).alloc (Nat.le_refl _) _
  have hB1 : Below (w.heap.size + 1) (w.alloc (.cells #[.string y.id, .int .i64 y.people, .int .i64 y.guides, .int .i64 y.beacons, .int .i64 y.shovels, .int .i64 y.probes, .int .i64 y.skill] 43)) ((w.alloc (.cells #[.string y.id, .int .i64 y.people, .int .i64 y.guides, .int .i64 y.beacons, .int .i64 y.shovels, .int .i64 y.probes, .int .i64 y.skill] 43)).alloc (.cells #[.string ⟨#[]⟩, .int .i64 0, .int .i64 0, .int .i64 0, .int .i64 0, .int .i64 0, .int .i64 0] 43)) := (Below.refl _ _).alloc (by simp) _
  have hD : DrGroup n g (w.heap.size + 1) w.heap.size y w ((w.alloc (.cells #[.string y.id, .int .i64 y.people, .int .i64 y.guides, .int .i64 y.beacons, .int .i64 y.shovels, .int .i64 y.probes, .int .i64 y.skill] 43)).alloc (.cells #[.string ⟨#[]⟩, .int .i64 0, .int .i64 0, .int .i64 0, .int .i64 0, .int .i64 0, .int .i64 0] 43)) := by
    refine ⟨hs.below (hB0.trans (hB1.mono (Nat.le_succ _))), Only.of_below (hB0.trans (hB1.mono (Nat.le_succ _))), ?_, (PGroup.box w y _).below hB1 (Nat.lt_succ_self _), fun j => ?_, hg, Nat.le_succ _, Nat.le_refl _, by omega⟩
    · have h := BxGroup.new (w.alloc (.cells #[.string y.id, .int .i64 y.people, .int .i64 y.guides, .int .i64 y.beacons, .int .i64 y.shovels, .int .i64 y.probes, .int .i64 y.skill] 43)) 43
      rw [World.size_alloc] at h; exact h
    · rw [hB1.frozen (p := ⟨w.heap.size, j, none⟩) (Nat.lt_succ_self _)]; exact World.frozen?_alloc_at _ _ _ _ rfl
  clear hB0 hB1
  unfold agGroup
  go_enter Try.func64, Try.ntmps64
  go_upto_region 1 with fail
  refine at_world (fun W => DrGroup n g (w.heap.size + 1) w.heap.size y w W) hD ?_
  clear hD hs
  generalize w.heap.size + 1 = r at *
  generalize hbw : w.heap.size = b at *
  intro V0 hD
  clear hbw hg
  go_wp2_with fail
  refine (pick_any _ g 18 _ hD.src (by omega) (by omega)).mono ?_
  rintro e V1 ⟨q, rfl, ⟨q0, q1, _⟩, hsN, hoN⟩
  replace hD := hD.next hoN hsN
  clear hsN hoN V0
  by_cases h0 : q = 0
  · subst h0
    have hBL : Below V1.heap.size V1 (V1.alloc (.cells #[.int .i64 0, .int .i64 1, .int .i64 30, .int .i64 31] 2)) := (Below.refl _ _).alloc (Nat.le_refl _) _
    have hgl := hD.src.lt
    go_wp2_with fail
    refine (among_any _ g _ [0, 1, 30, 31] [V1.heap.size] _ (hD.src.below hBL) (by omega) (slLitI V1 2 [0, 1, 30, 31] _ rfl (by decide) (by decide) (by decide) _ _ rfl rfl) (by simp; omega) (by decide) (by decide)).mono ?_
    rintro e V2 ⟨t, ht, rfl, hsN, hoN⟩
    replace hD := (hD.grow hBL).next hoN hsN
    have htb : -1000000000 ≤ t ∧ t ≤ 1000000000 := by simp at ht; omega
    clear hsN hoN hBL hgl ht
    have cK : V2.cell? ⟨b, 1, none⟩ = some (.int .i64 y.people) := hD.pg.c1
    have zK := hD.zf 1
    replace hD := hD.set1 t
    have hDz := hD
    obtain ⟨d0, d1, d2, d3, d4, d5, d6, z0, z1, z2, z3, z4, z5, z6⟩ := hDz.box
    obtain ⟨x0, x1, x2, x3, x4, x5, x6⟩ := id hDz.pg
    go_wp2
    exact bodyPost_ret (v := agGroup ⟨y.id, t, y.guides, y.beacons, y.shovels, y.probes, y.skill⟩) (by simp [agGroup, results, hit_cellX, d0, d1, d2, d3, d4, d5, d6, Try.results64, go_sem]) rfl ⟨_, rfl, by have hy1 := hy.1; unfold SmGroup at *; simp only; omega, ((hDz.fin (by (repeat (refine Below.setCell ?_ hDz.l1 _)); exact Below.refl _ _)).1).mono (by omega), (hDz.fin (by (repeat (refine Below.setCell ?_ hDz.l1 _)); exact Below.refl _ _)).2⟩
  · have e0 : (q == 0) = false := by rw [beq_eq_false_iff_ne]; exact h0
    by_cases h1 : q = 1
    · subst h1
      obtain ⟨c0, c1, c2, c3, c4, c5, c6⟩ := id hD.pg
      have hyb : -1000000000 ≤ y.people ∧ y.people ≤ 1000000000 := by have := hy.1; unfold SmGroup at this; omega
      have hBL : Below V1.heap.size V1 (V1.alloc (.cells #[.int .i64 (-1), .int .i64 0, .int .i64 y.people, .int .i64 (y.people + 1)] 2)) := (Below.refl _ _).alloc (Nat.le_refl _) _
      have hgl := hD.src.lt
      have hsl := Sl.lit2 (E := fInt) V1 [-1, 0, y.people, y.people + 1] 2 _ rfl (by intro x hx; simp only [List.mem_cons, List.not_mem_nil, or_false] at hx; show _ ∧ _; omega) (by show 0 < 4; decide) (by show 4 ≤ _; decide)
      go_wp2_with fail
      refine (among_any _ g _ [-1, 0, y.people, y.people + 1] [V1.heap.size] _ (hD.src.below hBL) (by omega) hsl (by simp; omega) (by show 0 < 4; decide) (by show 4 ≤ _; decide)).mono ?_
      rintro e V2 ⟨t, ht, rfl, hsN, hoN⟩
      replace hD := (hD.grow hBL).next hoN hsN
      have htb : -1000000000 ≤ t ∧ t ≤ 1000000000 := by have := hy.2; simp only [List.mem_cons, List.not_mem_nil, or_false] at ht; omega
      clear hsN hoN hBL hgl ht hsl c0 c1 c2 c3 c4 c5 c6
      have cK : V2.cell? ⟨b, 2, none⟩ = some (.int .i64 y.guides) := hD.pg.c2
      have zK := hD.zf 2
      replace hD := hD.set2 t
      have hDz := hD
      obtain ⟨d0, d1, d2, d3, d4, d5, d6, z0, z1, z2, z3, z4, z5, z6⟩ := hDz.box
      obtain ⟨x0, x1, x2, x3, x4, x5, x6⟩ := id hDz.pg
      go_wp2
      exact bodyPost_ret (v := agGroup ⟨y.id, y.people, t, y.beacons, y.shovels, y.probes, y.skill⟩) (by simp [agGroup, results, hit_cellX, d0, d1, d2, d3, d4, d5, d6, Try.results64, go_sem]) rfl ⟨_, rfl, by have hy1 := hy.1; unfold SmGroup at *; simp only; omega, ((hDz.fin (by (repeat (refine Below.setCell ?_ hDz.l1 _)); exact Below.refl _ _)).1).mono (by omega), (hDz.fin (by (repeat (refine Below.setCell ?_ hDz.l1 _)); exact Below.refl _ _)).2⟩
    · have e1 : (q == 1) = false := by rw [beq_eq_false_iff_ne]; exact h1
      by_cases h2 : q = 2
      · subst h2
        have hBL : Below V1.heap.size V1 (V1.alloc (.cells #[.int .i64 (-1), .int .i64 0, .int .i64 30, .int .i64 31] 2)) := (Below.refl _ _).alloc (Nat.le_refl _) _
        have hgl := hD.src.lt
        go_wp2_with fail
        refine (among_any _ g _ [-1, 0, 30, 31] [V1.heap.size] _ (hD.src.below hBL) (by omega) (slLitI V1 2 [-1, 0, 30, 31] _ rfl (by decide) (by decide) (by decide) _ _ rfl rfl) (by simp; omega) (by decide) (by decide)).mono ?_
        rintro e V2 ⟨t, ht, rfl, hsN, hoN⟩
        replace hD := (hD.grow hBL).next hoN hsN
        have htb : -1000000000 ≤ t ∧ t ≤ 1000000000 := by simp at ht; omega
        clear hsN hoN hBL hgl ht
        have cK : V2.cell? ⟨b, 5, none⟩ = some (.int .i64 y.probes) := hD.pg.c5
        have zK := hD.zf 5
        replace hD := hD.set5 t
        have hDz := hD
        obtain ⟨d0, d1, d2, d3, d4, d5, d6, z0, z1, z2, z3, z4, z5, z6⟩ := hDz.box
        obtain ⟨x0, x1, x2, x3, x4, x5, x6⟩ := id hDz.pg
        go_wp2
        exact bodyPost_ret (v := agGroup ⟨y.id, y.people, y.guides, y.beacons, y.shovels, t, y.skill⟩) (by simp [agGroup, results, hit_cellX, d0, d1, d2, d3, d4, d5, d6, Try.results64, go_sem]) rfl ⟨_, rfl, by have hy1 := hy.1; unfold SmGroup at *; simp only; omega, ((hDz.fin (by (repeat (refine Below.setCell ?_ hDz.l1 _)); exact Below.refl _ _)).1).mono (by omega), (hDz.fin (by (repeat (refine Below.setCell ?_ hDz.l1 _)); exact Below.refl _ _)).2⟩
      · have e2 : (q == 2) = false := by rw [beq_eq_false_iff_ne]; exact h2
        by_cases h3 : q = 3
        · subst h3
          have hBL : Below V1.heap.size V1 (V1.alloc (.cells #[.int .i64 0, .int .i64 1, .int .i64 5, .int .i64 6] 2)) := (Below.refl _ _).alloc (Nat.le_refl _) _
          have hgl := hD.src.lt
          go_wp2_with fail
          refine (among_any _ g _ [0, 1, 5, 6] [V1.heap.size] _ (hD.src.below hBL) (by omega) (slLitI V1 2 [0, 1, 5, 6] _ rfl (by decide) (by decide) (by decide) _ _ rfl rfl) (by simp; omega) (by decide) (by decide)).mono ?_
          rintro e V2 ⟨t, ht, rfl, hsN, hoN⟩
          replace hD := (hD.grow hBL).next hoN hsN
          have htb : -1000000000 ≤ t ∧ t ≤ 1000000000 := by simp at ht; omega
          clear hsN hoN hBL hgl ht
          have cK : V2.cell? ⟨b, 6, none⟩ = some (.int .i64 y.skill) := hD.pg.c6
          have zK := hD.zf 6
          replace hD := hD.set6 t
          have hDz := hD
          obtain ⟨d0, d1, d2, d3, d4, d5, d6, z0, z1, z2, z3, z4, z5, z6⟩ := hDz.box
          obtain ⟨x0, x1, x2, x3, x4, x5, x6⟩ := id hDz.pg
          go_wp2
          exact bodyPost_ret (v := agGroup ⟨y.id, y.people, y.guides, y.beacons, y.shovels, y.probes, t⟩) (by simp [agGroup, results, hit_cellX, d0, d1, d2, d3, d4, d5, d6, Try.results64, go_sem]) rfl ⟨_, rfl, by have hy1 := hy.1; unfold SmGroup at *; simp only; omega, ((hDz.fin (by (repeat (refine Below.setCell ?_ hDz.l1 _)); exact Below.refl _ _)).1).mono (by omega), (hDz.fin (by (repeat (refine Below.setCell ?_ hDz.l1 _)); exact Below.refl _ _)).2⟩
        · have e3 : (q == 3) = false := by rw [beq_eq_false_iff_ne]; exact h3
          by_cases h4 : q = 4
          · subst h4
            have cK : V1.cell? ⟨b, 0, none⟩ = some (.string y.id) := hD.pg.c0
            have zK := hD.zf 0
            replace hD := hD.set0 ⟨#[97, 98, 99, 100, 101, 102, 103, 104, 105, 106]⟩
            have hDz := hD
            obtain ⟨d0, d1, d2, d3, d4, d5, d6, z0, z1, z2, z3, z4, z5, z6⟩ := hDz.box
            obtain ⟨x0, x1, x2, x3, x4, x5, x6⟩ := id hDz.pg
            go_wp2
            exact bodyPost_ret (v := agGroup ⟨⟨#[97, 98, 99, 100, 101, 102, 103, 104, 105, 106]⟩, y.people, y.guides, y.beacons, y.shovels, y.probes, y.skill⟩) (by simp [agGroup, results, hit_cellX, d0, d1, d2, d3, d4, d5, d6, Try.results64, go_sem]) rfl ⟨_, rfl, by have hy1 := hy.1; unfold SmGroup at *; simp only; exact ⟨by decide, by omega, by omega, by omega, by omega, by omega, by omega⟩, ((hDz.fin (by (repeat (refine Below.setCell ?_ hDz.l1 _)); exact Below.refl _ _)).1).mono (by omega), (hDz.fin (by (repeat (refine Below.setCell ?_ hDz.l1 _)); exact Below.refl _ _)).2⟩
          · have e4 : (q == 4) = false := by rw [beq_eq_false_iff_ne]; exact h4
            have hDz := hD
            obtain ⟨d0, d1, d2, d3, d4, d5, d6, z0, z1, z2, z3, z4, z5, z6⟩ := hDz.box
            obtain ⟨x0, x1, x2, x3, x4, x5, x6⟩ := id hDz.pg
            go_wp2
            exact bodyPost_ret (v := agGroup y) (by simp [agGroup, results, hit_cellX, d0, d1, d2, d3, d4, d5, d6, Try.results64, go_sem]) rfl ⟨_, rfl, hy.1, ((hDz.fin (by (repeat (refine Below.setCell ?_ hDz.l1 _)); exact Below.refl _ _)).1).mono (by omega), (hDz.fin (by (repeat (refine Below.setCell ?_ hDz.l1 _)); exact Below.refl _ _)).2⟩
theorem infoGroupD : (Try.prog.info? 43).map (fun i => (i.zero, i.size, i.bytes)) = some (some (.agg #[.string ⟨#[]⟩, .int .i64 0, .int .i64 0, .int .i64 0, .int .i64 0, .int .i64 0, .int .i64 0]), 7, 64) := by kernel_rfl

end Go.Proofs.Ytjfaafoldllppaa

namespace Go.Proofs.Ytjfaafoldllppaa
open Go.RowKit

/-! ### every index below n is in order -/
def allIdx (f : Nat → Bool) (n : Nat) : Bool := (List.range n).all f
theorem allIdx_zero {f : Nat → Bool} : allIdx f 0 = true := rfl
theorem allIdx_step {f : Nat → Bool} {k : Nat} (h : allIdx f k = true) (h1 : f k = true) : allIdx f (k + 1) = true := by
  unfold allIdx at *; rw [List.range_succ, List.all_append, h]; simp [h1]
theorem allIdx_true {f : Nat → Bool} {n : Nat} : allIdx f n = true ↔ ∀ i, i < n → f i = true := by
  unfold allIdx; rw [List.all_eq_true]; simp
theorem allIdx_bad {f : Nat → Bool} {k n : Nat} (h : k < n) (h1 : f k = false) : allIdx f n = false := by
  cases hh : allIdx f n with
  | false => rfl
  | true => rw [allIdx_true.1 hh k h] at h1; cases h1
theorem allIdx_full {f : Nat → Bool} {k n : Nat} (h : n ≤ k) (hk : k ≤ n) (h0 : allIdx f k = true) : allIdx f n = true := by
  have : k = n := by omega
  rw [← this]; exact h0
theorem allIdx_congr {f g : Nat → Bool} {n : Nat} (h : ∀ i, i < n → f i = g i) : allIdx f n = allIdx g n := by
  cases hh : allIdx g n with
  | true => rw [allIdx_true] at *; intro i hi; rw [h i hi]; exact hh i hi
  | false =>
    cases h2 : allIdx f n with
    | false => rfl
    | true =>
      have : allIdx g n = true := by rw [allIdx_true] at *; intro i hi; rw [← h i hi]; exact h2 i hi
      rw [this] at hh; cases hh
theorem all_eq_allIdx {α : Type} (p : α → Bool) (xs : List α) (d : α) : xs.all p = allIdx (fun i => p (xs.getD i d)) xs.length := by
  cases hh : allIdx (fun i => p (xs.getD i d)) xs.length with
  | true =>
    rw [allIdx_true] at hh
    rw [List.all_eq_true]
    intro x hx
    obtain ⟨i, hi, rfl⟩ := List.getElem_of_mem hx
    have := hh i hi
    simpa [List.getD_eq_getElem?_getD, hi] using this
  | false =>
    cases h2 : xs.all p with
    | false => rfl
    | true =>
      rw [List.all_eq_true] at h2
      have : allIdx (fun i => p (xs.getD i d)) xs.length = true := by
        rw [allIdx_true]; intro i hi
        have := h2 xs[i] (List.getElem_mem hi)
        simpa [List.getD_eq_getElem?_getD, hi] using this
      rw [this] at hh; cases hh
theorem getD_of_lt {α : Type} {xs : List α} {i : Nat} {d : α} (h : i < xs.length) : xs.getD i d = xs[i] := by
  simp [List.getD_eq_getElem?_getD, h]

/-! ### the order of strings -/
def ltS (a b : ByteArray) : Bool := Op.bytesLess a.toList b.toList
theorem ltS_eq (a b : ByteArray) : ltS a b = decide (a.data.toList < b.data.toList) := by
  unfold ltS; rw [bytesLess_eq, ByteArray.toList_eq, ByteArray.toList_eq]
theorem ltS_irrefl (a : ByteArray) : ltS a a = false := by
  rw [ltS_eq]; simp [List.lt_irrefl]
theorem ltS_trans {a b c : ByteArray} (h1 : ltS a b = true) (h2 : ltS b c = true) : ltS a c = true := by
  rw [ltS_eq, decide_eq_true_eq] at *; exact List.lt_trans h1 h2
theorem ltS_asymm {a b : ByteArray} (h : ltS a b = true) : ltS b a = false := by
  cases hh : ltS b a with
  | false => rfl
  | true => have := ltS_trans h hh; rw [ltS_irrefl] at this; cases this
theorem data_inj {a b : ByteArray} (h : a.data.toList = b.data.toList) : a = b := ByteArray.ext (Array.toList_inj.mp h)
theorem ltS_tri {a b : ByteArray} (h1 : ltS a b = false) (h2 : ltS b a = false) : a = b := by
  rw [ltS_eq, decide_eq_false_iff_not] at *
  exact data_inj (List.le_antisymm h2 h1)
theorem eqS_true {a b : ByteArray} : (a.toList == b.toList) = true ↔ a = b := by
  rw [beq_iff_eq]; exact ⟨bytes_toList_inj, fun h => by rw [h]⟩
theorem eqS_eq (a b : ByteArray) : (a.toList == b.toList) = decide (a = b) := by
  by_cases h : a = b
  · subst h; simp
  · rw [bytes_beq_false h]; simp [h]
theorem leS_eq (a b : ByteArray) : (Op.bytesLess a.toList b.toList || a.toList == b.toList) = !(ltS b a) := by
  cases h : ltS b a with
  | true =>
    have h1 : ltS a b = false := ltS_asymm h
    have h2 : ¬ a = b := fun e => by subst e; rw [ltS_irrefl] at h; cases h
    have : Op.bytesLess a.toList b.toList = false := h1
    rw [this, bytes_beq_false h2]; rfl
  | false =>
    cases h1 : ltS a b with
    | true => have : Op.bytesLess a.toList b.toList = true := h1; rw [this]; rfl
    | false =>
      have := ltS_tri h1 h
      subst this
      simp
end Go.Proofs.Ytjfaafoldllppaa

namespace Go.Proofs.Ytjfaafoldllppaa
open Go.RowKit
set_option linter.unusedVariables false

theorem run_copy_rowN {P : Program} (w : World) (dT sT ty elem : TypeId) (N g o dLen dCap : Nat) (a : Addr) (sLen sCap : Nat) (cur : Array Value) (t : TypeId) (cs : List Value)
    (hu : P.underlying dT = some (.slice elem)) (hs : (P.info? elem).map (·.size) = some N)
    (hg : w.heap[g]? = some (.cells cur t (0, 0))) (m : Nat) (hm : m = Nat.min sLen dLen) (hn : cs.length = m * N)
    (hsrc : ∀ j v, cs[j]? = some v → w.cell? (a.add j) = some v) (hfit : o + cs.length ≤ cur.size) (h1 : ∀ v ∈ cs, v.oneCell' = true) :
    (Builtin.copy_ #[dT, sT] ty #[.slice (some ⟨g, o, none⟩) dLen dCap, .slice (some a) sLen sCap]).run P w =
      .ok (goInt m) (w.setRow g (cur.toList.take o ++ cs ++ cur.toList.drop (o + cs.length)).toArray) := by
  have hl := run_loadCells_list (P := P) w a cs hsrc
  have hst := run_storeCells_at P g o t cs 0 cur w hg (by simpa using hfit) h1
  cases hq : P.info? elem with
  | none => simp [hq] at hs
  | some i =>
    have hi : i.size = N := by simpa [hq] using hs
    subst hm
    simp [Builtin.copy_, run_underlying hu, Builtin.lenOf, Builtin.firstCells, sizeOf, typeInfo, hq, hi, ← hn, hl, hst]

/-- copy at a single operation: the row behind it is a splice. -/
theorem wp_copy_at {P : Program} {w : World} {o : Oper} {a : Act} {K : Act → World → Prop} {Q : Exit → Act → World → Prop} (d s : Operand) (dT sT : TypeId)
    (ho : o.op = .call { callee := .builtin .copy, args := #[d, s], argTypes := #[dT, sT] }) (elem : TypeId) (hu : P.underlying dT = some (.slice elem)) (N : Nat) (hsz : (P.info? elem).map (·.size) = some N)
    (g off dLen dCap : Nat) (ad : Addr) (sLen sCap : Nat) (hd : a.eval d = .slice (some ⟨g, off, none⟩) dLen dCap) (hs : a.eval s = .slice (some ad) sLen sCap)
    (cur : List Value) (t : TypeId) (hg : w.heap[g]? = some (.cells cur.toArray t (0, 0))) (cs : List Value) (m : Nat) (hm : m = Nat.min sLen dLen) (hn : cs.length = m * N)
    (hsrc : ∀ j v, cs[j]? = some v → w.cell? (ad.add j) = some v) (hfit : off + cs.length ≤ cur.length) (h1 : ∀ v ∈ cs, v.oneCell' = true)
    (h : ∀ w', w'.heap[g]? = some (.cells (splice cur off cs).toArray t (0, 0)) → (∀ k, k ≠ g → w'.heap[k]? = w.heap[k]?) → Below g w w' → K (a.put o.dst (goInt m)) w') : o.wp P a w K Q := by
  have hrun := run_copy_rowN (P := P) w dT sT o.type elem N g off dLen dCap ad sLen sCap cur.toArray t cs hu hsz hg m hm hn hsrc (by simpa using hfit) h1
  unfold Oper.wp
  simp [execOp, ho, resolve, invoke, builtin, hd, hs, hrun, Result.andThen]
  refine h _ ?_ (fun k hk => setRow_other w g k _ hk) (below_setRow (Below.refl _ _) (Nat.le_refl _) _)
  simpa [splice] using setRow_heap w g _ _ t _ hg
theorem wpList_copy_at {P : Program} {w : World} {ops : Array Oper} {rest : List Oper} {o : Oper} {a : Act} {Q : Exit → Act → World → Prop} (hgd : o.guard = none) (d s : Operand) (dT sT : TypeId)
    (ho : o.op = .call { callee := .builtin .copy, args := #[d, s], argTypes := #[dT, sT] }) (elem : TypeId) (hu : P.underlying dT = some (.slice elem)) (N : Nat) (hsz : (P.info? elem).map (·.size) = some N)
    (g off dLen dCap : Nat) (ad : Addr) (sLen sCap : Nat) (hd : a.eval d = .slice (some ⟨g, off, none⟩) dLen dCap) (hs : a.eval s = .slice (some ad) sLen sCap)
    (cur : List Value) (t : TypeId) (hg : w.heap[g]? = some (.cells cur.toArray t (0, 0))) (cs : List Value) (m : Nat) (hm : m = Nat.min sLen dLen) (hn : cs.length = m * N)
    (hsrc : ∀ j v, cs[j]? = some v → w.cell? (ad.add j) = some v) (hfit : off + cs.length ≤ cur.length) (h1 : ∀ v ∈ cs, v.oneCell' = true)
    (h : ∀ w', w'.heap[g]? = some (.cells (splice cur off cs).toArray t (0, 0)) → (∀ k, k ≠ g → w'.heap[k]? = w.heap[k]?) → Below g w w' → wpList P ops Q rest (a.put o.dst (goInt m)) w') : wpList P ops Q (o :: rest) a w :=
  wpList_plain hgd fun _ hK => wp_copy_at d s dT sT ho elem hu N hsz g off dLen dCap ad sLen sCap hd hs cur t hg cs m hm hn hsrc hfit h1 fun w' a1 a2 a3 => hK _ _ (h w' a1 a2 a3)

/-- A row of the call's own, as its block stands. -/
theorem own_row {w : World} {base : Nat} {e : TypeId} {size g n cap : Nat} {xs : List Value} (h : w.ownsRow base e size (.slice (some ⟨g, 0, none⟩) n cap) n xs) :
    ∃ cur : List Value, w.heap[g]? = some (.cells cur.toArray e (0, 0)) ∧ cur.length = cap * size ∧ cur.take (n * size) = xs ∧ n ≤ cap ∧ cap ≤ maxLen ∧ base ≤ g := by
  obtain ⟨h1, h2⟩ := h
  rcases h2 with ⟨hv, _⟩ | ⟨g', cap', cur, hv, hg, hh, hnc, hcm, hsz, hxs⟩
  · cases hv
  · injection hv with hv1 _ hv2
    injection hv1 with hv1
    injection hv1 with hv1 _ _
    subst hv1 hv2
    exact ⟨cur.toList, by simpa using hh, by simpa using hsz, hxs, hnc, hcm, hg⟩
theorem own_of_row {w : World} {base : Nat} {e : TypeId} {size g n cap : Nat} {xs cur : List Value} (hh : w.heap[g]? = some (.cells cur.toArray e (0, 0))) (hb : base ≤ g) (hnc : n ≤ cap) (hcm : cap ≤ maxLen) (hsz : cur.length = cap * size) (hxs : cur.take (n * size) = xs) :
    w.ownsRow base e size (.slice (some ⟨g, 0, none⟩) n cap) n xs := by
  refine ⟨?_, .inr ⟨g, cap, cur.toArray, rfl, hb, hh, hnc, hcm, by simpa using hsz, by simpa using hxs⟩⟩
  rw [← hxs, List.length_take, hsz, Nat.min_eq_left (Nat.mul_le_mul_right _ hnc)]
theorem row_cell {w : World} {g : Nat} {e : TypeId} {cur : List Value} (hh : w.heap[g]? = some (.cells cur.toArray e (0, 0))) (j : Nat) : w.cell? ⟨g, j, none⟩ = cur[j]? := by
  simp [World.cell?, hh]
/-- Put in within the room: what stands behind is moved first. -/
theorem splice_shift {cur A t B : List Value} {p q r : Nat} (hc : cur.take (p + q) = A ++ B) (hA : A.length = p) (hB : B.length = q) (ht : t.length = r) (hl : p + r + q ≤ cur.length) :
    (splice (splice cur (p + r) B) p t).take (p + r + q) = A ++ (t ++ B) := by
  have hpA : cur.take p = A := by
    have := congrArg (List.take p) hc
    rw [List.take_take, Nat.min_eq_left (by omega), List.take_append_of_le_length (by omega), ← hA, List.take_length] at this
    rw [hA] at this; exact this
  have e1 : splice cur (p + r) B = cur.take (p + r) ++ (B ++ cur.drop (p + r + q)) := by rw [splice, hB]
  have hl1 : (cur.take (p + r)).length = p + r := by rw [List.length_take]; omega
  have e2 : (cur.take (p + r) ++ (B ++ cur.drop (p + r + q))).take p = A := by
    rw [List.take_append_of_le_length (by omega), List.take_take, Nat.min_eq_left (by omega), hpA]
  have e3 : (cur.take (p + r) ++ (B ++ cur.drop (p + r + q))).drop (p + r) = B ++ cur.drop (p + r + q) := by
    rw [List.drop_append_of_le_length (by omega), List.drop_of_length_le (by omega), List.nil_append]
  rw [e1, splice, ht, e2, e3, ← List.append_assoc, ← List.append_assoc, List.take_append_of_le_length (by simp; omega), List.take_of_length_le (by simp; omega), List.append_assoc]
/-- Put in into a new row: the element, then what stands behind. -/
theorem splice_fill {cur A t B : List Value} {p q r : Nat} (hc : cur.take p = A) (hA : A.length = p) (hB : B.length = q) (ht : t.length = r) (hl : p + r + q ≤ cur.length) :
    (splice (splice cur p t) (p + r) B).take (p + r + q) = A ++ (t ++ B) := by
  have e1 : splice cur p t = A ++ (t ++ cur.drop (p + r)) := by rw [splice, ht, hc]
  have e2 : (A ++ (t ++ cur.drop (p + r))).take (p + r) = A ++ t := by
    rw [← List.append_assoc, List.take_append_of_le_length (by simp; omega), List.take_of_length_le (by simp; omega)]
  rw [e1, splice, e2, ← List.append_assoc, List.take_append_of_le_length (by simp; omega), List.take_of_length_le (by simp; omega), List.append_assoc]
end Go.Proofs.Ytjfaafoldllppaa

namespace Go.Proofs.Ytjfaafoldllppaa
open Go.RowKit
set_option linter.unusedVariables false

def totString (x : ByteArray) : Nat := x.size
def totStringS (xs : List ByteArray) : Nat := xs.length + (xs.map totString).sum




def mkString (k : Int) : ByteArray := mt (k)
def marksString (k : Int) (n : Nat) : List ByteArray := (List.range n).map fun (i : Nat) => mkString (k + 1 * (i : Int))

theorem marksString_get (k0 : Int) (n i : Nat) (h : i < (marksString k0 n).length) : (marksString k0 n)[i] = mkString (k0 + 1 * (i : Int)) := by
  simp [marksString]
theorem marksString_len (k0 : Int) (n : Nat) : (marksString k0 n).length = n := by simp [marksString]



end Go.Proofs.Ytjfaafoldllppaa

namespace Go.Proofs.Ytjfaafoldllppaa
open Go.RowKit
set_option linter.unusedVariables false

/-! ### lists of strings in order -/
def Srt (L : List ByteArray) : Prop := L.Pairwise (fun a b => ltS b a = false)
def srtF (L : List ByteArray) : List ByteArray := L.mergeSort (fun a b => !ltS b a)
theorem leS_trans {a b c : ByteArray} (h1 : ltS b a = false) (h2 : ltS c b = false) : ltS c a = false := by
  cases h : ltS c a with
  | false => rfl
  | true =>
    cases h3 : ltS b c with
    | true => have := ltS_trans h3 h; rw [this] at h1; cases h1
    | false =>
      have := ltS_tri h3 h2
      subst this
      rw [h] at h1; cases h1
theorem leS_total (a b : ByteArray) : (!ltS b a || !ltS a b) = true := by
  cases h : ltS b a with
  | false => rfl
  | true => rw [ltS_asymm h]; rfl
theorem srtF_perm (L : List ByteArray) : (srtF L).Perm L := List.mergeSort_perm _ _
theorem srtF_srt (L : List ByteArray) : Srt (srtF L) := by
  have h := List.pairwise_mergeSort (le := fun a b => !ltS b a) (fun a b c h1 h2 => by simp at *; exact leS_trans h1 h2) leS_total L
  exact h.imp (fun h => by simpa using h)
theorem srt_unique {a b : List ByteArray} (ha : Srt a) (hb : Srt b) (h : a.Perm b) : a = b :=
  List.Perm.eq_of_pairwise (fun x y _ _ h1 h2 => ltS_tri h2 h1) ha hb h
theorem srtF_of {a L : List ByteArray} (ha : Srt a) (h : a.Perm L) : a = srtF L := srt_unique ha (srtF_srt L) (h.trans (srtF_perm L).symm)
theorem srtF_len (L : List ByteArray) : (srtF L).length = L.length := (srtF_perm L).length_eq
/-- x put in behind the first k of A. -/
theorem srt_insert {A : List ByteArray} {x : ByteArray} {k : Nat} (hA : Srt A) (h1 : ∀ y ∈ A.take k, ltS x y = false) (h2 : ∀ y ∈ A.drop k, ltS y x = false) : Srt (A.take k ++ x :: A.drop k) := by
  unfold Srt at *
  rw [List.pairwise_append, List.pairwise_cons]
  refine ⟨hA.take, ⟨h2, hA.drop⟩, ?_⟩
  intro a ha b hb
  rcases List.mem_cons.1 hb with rfl | hb
  · exact h1 a ha
  · rw [← List.take_append_drop k A, List.pairwise_append] at hA
    exact hA.2.2 a ha b hb
theorem srt_below {A : List ByteArray} {x : ByteArray} {k : Nat} (hA : Srt A) (hk : k < A.length) (h : ltS x A[k] = false) : ∀ y ∈ A.take (k + 1), ltS x y = false := by
  intro y hy
  obtain ⟨m, hm, rfl⟩ := List.getElem_of_mem hy
  simp at hm
  rw [List.getElem_take]
  rcases Nat.lt_or_ge m k with h2 | h2
  · exact leS_trans (List.pairwise_iff_getElem.1 hA m k (by omega) hk h2) h
  · obtain rfl : m = k := by omega
    exact h
theorem srt_take1 : ∀ L : List ByteArray, Srt (L.take 1)
  | [] => List.Pairwise.nil
  | x :: L => by simp [Srt]
theorem gtS_cases (a b : ByteArray) : (ltS b a = false ∧ Op.bytesLess a.toList b.toList = true) ∨ (ltS b a = false ∧ Op.bytesLess a.toList b.toList = false ∧ (a.toList == b.toList) = true) ∨ (ltS b a = true ∧ Op.bytesLess a.toList b.toList = false ∧ (a.toList == b.toList) = false) := by
  cases h : ltS b a with
  | true =>
    refine .inr (.inr ⟨rfl, ltS_asymm h, bytes_beq_false (fun e => ?_)⟩)
    subst e; rw [ltS_irrefl] at h; cases h
  | false =>
    cases h1 : ltS a b with
    | true => exact .inl ⟨rfl, h1⟩
    | false => exact .inr (.inl ⟨rfl, h1, eqS_true.2 (ltS_tri h1 h)⟩)
/-- The rows of the insertion: x at place k of A, R behind. -/
def insL (A : List ByteArray) (x : ByteArray) (R : List ByteArray) (k : Nat) : List ByteArray := A.take k ++ x :: (A.drop k ++ R)
theorem insL_len {A R : List ByteArray} {x : ByteArray} {k : Nat} (hk : k ≤ A.length) : (insL A x R k).length = A.length + 1 + R.length := by
  unfold insL; simp; omega
theorem insL_at {A R : List ByteArray} {x : ByteArray} {k : Nat} (hk : k ≤ A.length) : (insL A x R k)[k]? = some x := by
  unfold insL; rw [List.getElem?_append_right (by simp; omega)]; simp [Nat.min_eq_left hk]
theorem insL_before {A R : List ByteArray} {x : ByteArray} {k : Nat} (hk : k + 1 ≤ A.length) : (insL A x R (k + 1))[k]? = some A[k] := by
  unfold insL; rw [List.getElem?_append_left (by simp; omega)]; simp
theorem insL_swap {A R : List ByteArray} {x : ByteArray} {k : Nat} (hk : k + 1 ≤ A.length) : ((insL A x R (k + 1)).set (k + 1) A[k]).set k x = insL A x R k := by
  apply List.ext_getElem?
  intro j
  have hl : (A.take (k + 1)).length = k + 1 := by simp; omega
  have hl2 : (A.take k).length = k := by simp; omega
  have hd : A.drop k = A[k] :: A.drop (k + 1) := List.drop_eq_getElem_cons (by omega)
  unfold insL
  rw [List.getElem?_set, List.getElem?_set]
  simp only [List.length_set, List.length_append, hl, List.length_cons, List.length_drop]
  by_cases h1 : k = j
  · subst h1
    rw [if_pos rfl, if_pos (by omega), List.getElem?_append_right (by omega), hl2]
    simp
  · rw [if_neg h1]
    by_cases h2 : k + 1 = j
    · subst h2
      rw [if_pos rfl, if_pos (by omega), List.getElem?_append_right (by omega), hl2, hd]
      generalize A[k] = a
      generalize A.drop (k + 1) = D
      simp
    · rw [if_neg h2]
      rcases Nat.lt_or_ge j k with h3 | h3
      · rw [List.getElem?_append_left (by omega), List.getElem?_append_left (by omega), List.getElem?_take, List.getElem?_take, if_pos (by omega), if_pos h3]
      · rw [List.getElem?_append_right (by omega), List.getElem?_append_right (by omega), hl, hl2, hd]
        obtain ⟨d, rfl⟩ : ∃ d, j = k + 2 + d := ⟨j - k - 2, by omega⟩
        rw [show k + 2 + d - (k + 1) = d + 1 by omega, show k + 2 + d - k = d + 1 + 1 by omega]
        generalize A[k] = a
        generalize A.drop (k + 1) = D
        simp
theorem insL_perm {A R : List ByteArray} {x : ByteArray} {k : Nat} : (insL A x R k).Perm (A ++ x :: R) := by
  unfold insL
  have h1 : (A.take k ++ x :: (A.drop k ++ R)).Perm (x :: (A.take k ++ (A.drop k ++ R))) := List.perm_middle
  have h2 : (A ++ x :: R).Perm (x :: (A ++ R)) := List.perm_middle
  rw [← List.append_assoc, List.take_append_drop] at h1
  exact h1.trans h2.symm
theorem insL_app {A R : List ByteArray} {x : ByteArray} {k : Nat} : insL A x [] k ++ R = insL A x R k := by unfold insL; simp
theorem insL_full {A R : List ByteArray} {x : ByteArray} : insL A x R A.length = A ++ x :: R := by unfold insL; simp

/-! ### a place of a row of the call's own -/
theorem flat1_set {α : Type} {E : Flat α} (h1 : E.n = 1) : ∀ (L : List α) (k : Nat) (y : α) (u : Value), E.enc y = [u] → (L.flatMap E.enc).set k u = (L.set k y).flatMap E.enc
  | [], k, y, u, hu => by simp
  | x :: L, 0, y, u, hu => by
    have hl := E.len x
    rw [h1] at hl
    obtain ⟨a, ha⟩ := List.length_eq_one_iff.1 hl
    simp [ha, hu]
  | x :: L, k + 1, y, u, hu => by
    have hl := E.len x
    rw [h1] at hl
    obtain ⟨a, ha⟩ := List.length_eq_one_iff.1 hl
    have ih := flat1_set h1 L k y u hu
    simp [ha, ih]
theorem Own.set1 {α : Type} {E : Flat α} (h1 : E.n = 1) {w : World} {base : Nat} {e : TypeId} {g n cap : Nat} {L : List α} (h : Own E w base e (.slice (some ⟨g, 0, none⟩) n cap) L) (k : Nat) (y : α) (u : Value) (hu : E.enc y = [u]) :
    Own E (w.setCell ⟨g, k, none⟩ u) base e (.slice (some ⟨g, 0, none⟩) n cap) (L.set k y) := by
  have hn : n = L.length := by
    rcases h.2 with ⟨hv, _⟩ | ⟨g', cap', cur, hv, _⟩
    · cases hv
    · injection hv
  have h' : w.ownsRow base e E.n (.slice (some ⟨g, 0, none⟩) L.length cap) L.length (L.flatMap E.enc) := by rw [hn] at h; exact h
  have h2 := (h'.stored k u).1
  rw [flat1_set h1 L k y u hu] at h2
  show World.ownsRow _ base e E.n _ (L.set k y).length _
  rw [List.length_set, hn]
  exact h2
theorem Own.cellS {w : World} {base : Nat} {e : TypeId} {g n cap : Nat} {L : List ByteArray} (h : Own fStr w base e (.slice (some ⟨g, 0, none⟩) n cap) L) {k : Nat} {x : ByteArray} (hx : L[k]? = some x) : w.cell? ⟨g, k, none⟩ = some (.string x) := by
  have hn : n = L.length := by
    rcases h.2 with ⟨hv, _⟩ | ⟨g', cap', cur, hv, _⟩
    · cases hv
    · injection hv
  have h' : w.ownsRow base e 1 (.slice (some ⟨g, 0, none⟩) L.length cap) L.length (L.flatMap fStr.enc) := by rw [hn] at h; exact h
  have hk : k < L.length := by
    rcases Nat.lt_or_ge k L.length with h | h
    · exact h
    · rw [List.getElem?_eq_none h] at hx; cases hx
  rw [h'.cellAt k (by omega)]
  have := flat_get fStr.enc 1 L (fun x _ => fStr.len x) k hk 0 (by omega)
  simp only [Nat.mul_one, Nat.add_zero] at this
  rw [this]
  have e1 : L[k] = x := by rw [List.getElem?_eq_getElem hk] at hx; exact Option.some.inj hx
  rw [e1]; rfl
theorem Own.frozenS {α : Type} {E : Flat α} {w : World} {base : Nat} {e : TypeId} {g n cap : Nat} {L : List α} (h : Own E w base e (.slice (some ⟨g, 0, none⟩) n cap) L) (k : Nat) : w.frozen? ⟨g, k, none⟩ = false := by
  have hn : n = L.length := by
    rcases h.2 with ⟨hv, _⟩ | ⟨g', cap', cur, hv, _⟩
    · cases hv
    · injection hv
  have h' : w.ownsRow base e E.n (.slice (some ⟨g, 0, none⟩) L.length cap) L.length (L.flatMap E.enc) := by rw [hn] at h; exact h
  exact h'.frozenAt k
/-- The end of a call that hands back a row of its own. -/
def OwnRS {α : Type} (E : Flat α) (T : TypeId) (w : World) (xs : List α) (e : Ending) (w' : World) : Prop := ∃ v, e = .returned v ∧ Own E w' w.heap.size T v xs ∧ Below w.heap.size w w'
theorem infoStr3 : (Try.prog.info? 9).map (fun i => (i.zero, i.size, i.bytes)) = some (some (.string ⟨#[]⟩), 1, 16) := by kernel_rfl

end Go.Proofs.Ytjfaafoldllppaa

namespace Go.Proofs.Ytjfaafoldllppaa
open Go.RowKit
set_option linter.unusedVariables false

/-- The digits, none for 0. -/
def dig (u : Nat) : List UInt8 := if h : u = 0 then [] else dig (u / 10) ++ [UInt8.ofNat (48 + u % 10)]
termination_by u
decreasing_by omega
theorem dig_zero : dig 0 = [] := by rw [dig, dif_pos rfl]
theorem dig_step {u : Nat} (h : u ≠ 0) : dig u = dig (u / 10) ++ [UInt8.ofNat (48 + u % 10)] := by rw [dig, dif_neg h]
theorem dig_dec : ∀ (u : Nat), u ≠ 0 → Lib.decDigits u = dig u := by
  intro u
  induction u using Nat.strongRecOn with
  | _ u ih =>
    intro h
    rw [dig_step h, Lib.decDigits]
    by_cases h1 : u < 10
    · rw [dif_pos h1, Nat.div_eq_of_lt h1, dig_zero, Nat.mod_eq_of_lt h1]; rfl
    · rw [dif_neg h1, ih (u / 10) (by omega) (by omega)]
theorem dig_len : ∀ (k u : Nat), u < 10 ^ k → (dig u).length ≤ k
  | 0, u, h => by rw [Nat.pow_zero] at h; obtain rfl : u = 0 := (by omega); rw [dig_zero]; exact Nat.le_refl _
  | k + 1, u, h => by
    by_cases h0 : u = 0
    · subst h0; rw [dig_zero]; simp
    · rw [dig_step h0, List.length_append]
      have := dig_len k (u / 10) (by rw [Nat.pow_succ] at h; omega)
      simp; omega
def decS (n : Int) : ByteArray := ⟨(Lib.itoa n).toArray⟩
theorem decS_zero : decS 0 = ⟨#[48]⟩ := by unfold decS Lib.itoa; rw [if_neg (by decide), show (0 : Int).toNat = 0 from rfl, Lib.decDigits, dif_pos (by decide)]; rfl
theorem itoa_ne {n : Int} (h : n ≠ 0) : Lib.itoa n = (if n < 0 then [45] else []) ++ dig n.natAbs := by
  unfold Lib.itoa
  by_cases h1 : n < 0
  · rw [if_pos h1, if_pos h1, dig_dec _ (by omega)]; rfl
  · rw [if_neg h1, if_neg h1, show n.toNat = n.natAbs by omega, dig_dec _ (by omega)]; rfl
theorem Own.cellB {w : World} {base : Nat} {e : TypeId} {g n cap : Nat} {L : List UInt8} (h : Own fByte w base e (.slice (some ⟨g, 0, none⟩) n cap) L) {k : Nat} {x : UInt8} (hx : L[k]? = some x) : w.cell? ⟨g, k, none⟩ = some (.int .u8 x.toNat) := by
  have hn : n = L.length := by
    rcases h.2 with ⟨hv, _⟩ | ⟨g', cap', cur, hv, _⟩
    · cases hv
    · injection hv
  have h' : w.ownsRow base e 1 (.slice (some ⟨g, 0, none⟩) L.length cap) L.length (L.flatMap fByte.enc) := by rw [hn] at h; exact h
  have hk : k < L.length := by
    rcases Nat.lt_or_ge k L.length with h | h
    · exact h
    · rw [List.getElem?_eq_none h] at hx; cases hx
  rw [h'.cellAt k (by omega)]
  have := flat_get fByte.enc 1 L (fun x _ => fByte.len x) k hk 0 (by omega)
  simp only [Nat.mul_one, Nat.add_zero] at this
  rw [this]
  have e1 : L[k] = x := by rw [List.getElem?_eq_getElem hk] at hx; exact Option.some.inj hx
  rw [e1]; rfl
set_option maxRecDepth 100000 in
theorem infoU8d : (Try.prog.info? 5).map (fun i => (i.zero, i.size, i.bytes)) = some (some (.int .u8 0), 1, 1) := by kernel_rfl
set_option maxRecDepth 100000 in
/-- What a row of bytes of the call's own is as a text. -/
theorem Own.text {w : World} {base : Nat} {v : Value} {L : List UInt8} (h : Own fByte w base 5 v L) : (convert 34 9 v).run Try.prog w = .ok (.string ⟨L.toArray⟩) w := by
  obtain ⟨A, cap, rfl⟩ := h.form
  cases A with
  | none =>
    rcases h.2 with ⟨hv, hz⟩ | ⟨g', cap', cur, hv, _⟩
    · have : L = [] := List.eq_nil_of_length_eq_zero hz
      subst this
      show _ = Result.ok (Value.string ByteArray.empty) w
      exact run_convert_bytes_nil w _ _ Try.underlying34 Try.underlying5 _ _ _ Try.underlying9
    · cases hv
  | some A =>
    rcases h.2 with ⟨hv, _⟩ | ⟨g', cap', cur, hv, _⟩
    · cases hv
    · injection hv with h1 h2 h3
      injection h1 with h1
      subst h1
      refine run_convert_bytes_back w _ _ _ _ cap L Try.underlying34 Try.underlying5 Try.underlying9 (fun j hj => ?_)
      have h4 := h.cellB (k := j) (x := L[j]) (by simp [hj])
      have e : (⟨g', 0, none⟩ : Addr).add j = ⟨g', j, none⟩ := by unfold Addr.add; split <;> simp_all
      rw [e]; exact h4
theorem dig_pos {u : Nat} (h : u ≠ 0) : 0 < (dig u).length := by rw [dig_step h]; simp
theorem Own.addr {α : Type} {E : Flat α} {w : World} {base : Nat} {e : TypeId} {v : Value} {L : List α} (h : Own E w base e v L) (hne : 0 < L.length) : ∃ g cap, v = .slice (some ⟨g, 0, none⟩) L.length cap := by
  rcases h.2 with ⟨hv, hz⟩ | ⟨g', cap', cur, hv, _⟩
  · omega
  · exact ⟨g', cap', hv⟩
theorem digit_neg (u : Int) (h : u.tmod 10 < 0) : wrap64 (48 + wrap64 (-u.tmod 10)) % 256 = ((UInt8.ofNat (48 + u.natAbs % 10)).toNat : Int) := by
  have h1 : (u.tmod 10).natAbs = u.natAbs % 10 := Int.natAbs_tmod u 10
  rw [UInt8.toNat_ofNat']
  generalize u.tmod 10 = t at *
  generalize u.natAbs = a at *
  unfold wrap64
  omega
theorem digit_pos (u : Int) (h : ¬ u.tmod 10 < 0) : wrap64 (48 + u.tmod 10) % 256 = ((UInt8.ofNat (48 + u.natAbs % 10)).toNat : Int) := by
  have h1 : (u.tmod 10).natAbs = u.natAbs % 10 := Int.natAbs_tmod u 10
  rw [UInt8.toNat_ofNat']
  generalize u.tmod 10 = t at *
  generalize u.natAbs = a at *
  unfold wrap64
  omega
theorem dig_push {n u : Nat} {D : List UInt8} (hu : u ≠ 0) (h : dig n = dig u ++ D.reverse) : dig n = dig (u / 10) ++ (D ++ [UInt8.ofNat (48 + u % 10)]).reverse := by
  rw [h, dig_step hu]; simp
theorem dig_dlen {n u : Nat} {D : List UInt8} (hn : n ≤ 9223372036854775808) (h : dig n = dig u ++ D.reverse) : D.length ≤ 20 := by
  have h1 := dig_len 20 n (by omega)
  rw [h, List.length_append, List.length_reverse] at h1; omega
set_option maxRecDepth 100000 in
set_option maxHeartbeats 2000000 in
theorem l01Dec_any (n : Int) (w : World) (h0 : -9223372036854775808 ≤ n) (h1 : n ≤ 9223372036854775807) :
    Calls Try.prog 65 #[.int .i64 n] w fun e w' => e = .returned (.string (decS n)) ∧ Below w.heap.size w w' := by
  by_cases hz : n = 0
  · have e0 : (n == 0) = true := by rw [beq_iff_eq]; exact hz
    go_enter Try.func65, Try.ntmps65
    go_wp2
    go_ret
    exact ⟨by rw [show decS n = ⟨#[48]⟩ from by rw [hz]; exact decS_zero]; rfl, Below.refl _ _⟩
  · obtain ⟨i0, hi, hz0, hz1, hz2⟩ := info_parts infoU8d
    have hB0 : Below w.heap.size w (w.alloc (.cells #[] 5)) := (Below.refl _ _).alloc (Nat.le_refl _) _
    have e0 : (n == 0) = false := by rw [beq_eq_false_iff_ne]; exact hz
    go_enter Try.func65, Try.ntmps65
    go_wp2
    go_loopw [3, 4] (fun v m wr => ∃ (u : Int) (D : List UInt8), m = .int .i64 u ∧ (-9223372036854775808 ≤ u ∧ u ≤ 9223372036854775807) ∧ D.length ≤ 20 ∧ Hid (dig n.natAbs = dig u.natAbs ++ D.reverse) ∧ Own fByte wr w.heap.size 5 v D ∧ Below w.heap.size w wr) (fun _ m _ => (intOf m).natAbs)
    case atStart => exact ⟨n, [], rfl, ⟨h0, h1⟩, by simp, by show _ = _; simp, Own.lit0m fByte (Nat.le_refl _), hB0⟩
    case round =>
      obtain ⟨u, D, rfl, ⟨hu0, hu1⟩, hD, HS, ho, hb⟩ := hrel
      have hoW : wr.ownsRow w.heap.size 5 1 u3 D.length (D.flatMap fByte.enc) := ho
      have hs2 := hb.size
      by_cases hu : u = 0
      · subst hu
        have HZ : Hid (dig n.natAbs = D.reverse) := by have := HS.out; rw [show (0 : Int).natAbs = 0 from rfl, dig_zero] at this; exact this
        have e1 : ((0 : Int) == 0) = true := rfl
        by_cases hn : n < 0
        · clear ho
          go_wp2_with (at_builtin; refine wpList_append_one rfl _ _ 34 rfl w.heap.size 5 i0 (.int .u8 0) 1 1 Try.underlying34 hi hz0 hz1 hz2 rfl (by decide) u3 D.length _ rfl hoW [.int .u8 (45)] rfl (by intro u hu; rw [List.mem_singleton] at hu; subst hu; rfl) rfl (by omega) (by decide) hs2 ?_)
          intro v' w1 hown hbu _ _
          have hbu' := hb.trans hbu
          have hoD : Own fByte w1 w.heap.size 5 v' (D ++ [45]) := Own.push _ rfl hown
          clear hown
          obtain ⟨DD, hDD⟩ : ∃ E, E = D ++ [45] := ⟨_, rfl⟩
          have hDl : DD.length ≤ 21 := by rw [hDD]; simp; omega
          have hDp : 0 < DD.length := by rw [hDD]; simp
          rw [← hDD] at hoD
          have HDD := Lib.hid hDD
          clear hDD
          obtain ⟨oa, oc, rfl⟩ := hoD.addr hDp
          obtain ⟨W2, rfl⟩ : ∃ W, W = w1 := ⟨w1, rfl⟩
          go_wp2
          have hBW : Below W2.heap.size W2 (W2.alloc (.cells #[] 5)) := (Below.refl _ _).alloc (Nat.le_refl _) _
          go_loopw [6, 7] (fun v j wr => ∃ (k : Nat) (O : List UInt8), k ≤ DD.length ∧ j = .int .i64 ((k : Int) - 1) ∧ O.length ≤ 30 ∧ Hid (O = (DD.drop k).reverse) ∧ Own fByte wr W2.heap.size 5 v O ∧ Below W2.heap.size W2 wr) (fun _ j _ => (intOf j + 1).toNat)
          case atStart => exact ⟨DD.length, [], Nat.le_refl _, by first | rfl | (simp; done) | go_num, by simp, by show _ = _; simp, Own.lit0m fByte (Nat.le_refl _), hBW⟩
          case round =>
            obtain ⟨k, O, hk, rfl, hO, HO, hoO, hb2⟩ := hrel
            by_cases hk0 : k = 0
            · subst hk0
              have hfin : O = Lib.itoa n := by rw [HO.out, List.drop_zero]; rw [itoa_ne hz, if_pos (by omega), HZ.out, HDD.out]; simp
              have hcv := hoO.text
              have HF := Lib.hid hfin
              clear hfin
              go_wp2
              go_ret
              exact ⟨by rw [HF.out]; rfl, hbu'.trans (hb2.mono hbu'.size)⟩
            · obtain ⟨k, rfl⟩ : ∃ q, k = q + 1 := ⟨k - 1, by omega⟩
              have hkl : k < DD.length := by omega
              have hc0 := (hoD.below hb2).cellB (k := k) (x := DD[k]) (List.getElem?_eq_getElem hkl)
              have hoW : wr.ownsRow W2.heap.size 5 1 u6 O.length (O.flatMap fByte.enc) := hoO
              have hs2 := hb2.size
              have HO2 : Hid (O ++ [DD[k]] = (DD.drop k).reverse) := by
                show _ = _
                rw [HO.out, List.drop_eq_getElem_cons hkl, List.reverse_cons]
              have HOL : (O ++ [DD[k]]).length ≤ 30 := by rw [HO2.out]; simp; omega
              clear hoO
              rw [show (((k + 1 : Nat) : Int) - 1) = (k : Int) by omega]
              go_wp2_with (at_builtin; refine wpList_append_one rfl _ _ 34 rfl W2.heap.size 5 i0 (.int .u8 0) 1 1 Try.underlying34 hi hz0 hz1 hz2 rfl (by decide) u6 O.length _ rfl hoW [.int .u8 (DD[k].toNat : Int)] rfl (by intro u hu; rw [List.mem_singleton] at hu; subst hu; rfl) rfl (by omega) (by decide) hs2 ?_)
              intro v'' w3 hown hbu2 _ _
              have hb3 := hb2.trans hbu2
              have hoO3 : Own fByte w3 W2.heap.size 5 v'' (O ++ [DD[k]]) := Own.push _ rfl hown
              clear hown
              go_wp2
              go_roundw
              case measure => simp [intOf]
              case rel => exact ⟨k, O ++ [DD[k]], by omega, by go_num, HOL, HO2, hoO3, hb3⟩
        · have hoD := ho
          clear ho hoW
          have hDp : 0 < D.length := by have := dig_pos (u := n.natAbs) (by omega); rw [HZ.out] at this; simpa using this
          obtain ⟨oa, oc, rfl⟩ := hoD.addr hDp
          obtain ⟨W2, rfl⟩ : ∃ W, W = wr := ⟨wr, rfl⟩
          go_wp2
          have hBW : Below W2.heap.size W2 (W2.alloc (.cells #[] 5)) := (Below.refl _ _).alloc (Nat.le_refl _) _
          go_loopw [6, 7] (fun v j wr => ∃ (k : Nat) (O : List UInt8), k ≤ D.length ∧ j = .int .i64 ((k : Int) - 1) ∧ O.length ≤ 30 ∧ Hid (O = (D.drop k).reverse) ∧ Own fByte wr W2.heap.size 5 v O ∧ Below W2.heap.size W2 wr) (fun _ j _ => (intOf j + 1).toNat)
          case atStart => exact ⟨D.length, [], Nat.le_refl _, by first | rfl | (simp; done) | go_num, by simp, by show _ = _; simp, Own.lit0m fByte (Nat.le_refl _), hBW⟩
          case round =>
            obtain ⟨k, O, hk, rfl, hO, HO, hoO, hb2⟩ := hrel
            by_cases hk0 : k = 0
            · subst hk0
              have hfin : O = Lib.itoa n := by rw [HO.out, List.drop_zero]; rw [itoa_ne hz, if_neg (by omega), HZ.out]; rfl
              have hcv := hoO.text
              have HF := Lib.hid hfin
              clear hfin
              go_wp2
              go_ret
              exact ⟨by rw [HF.out]; rfl, hb.trans (hb2.mono hb.size)⟩
            · obtain ⟨k, rfl⟩ : ∃ q, k = q + 1 := ⟨k - 1, by omega⟩
              have hkl : k < D.length := by omega
              have hc0 := (hoD.below hb2).cellB (k := k) (x := D[k]) (List.getElem?_eq_getElem hkl)
              have hoW : wr.ownsRow W2.heap.size 5 1 u6 O.length (O.flatMap fByte.enc) := hoO
              have hs2 := hb2.size
              have HO2 : Hid (O ++ [D[k]] = (D.drop k).reverse) := by
                show _ = _
                rw [HO.out, List.drop_eq_getElem_cons hkl, List.reverse_cons]
              have HOL : (O ++ [D[k]]).length ≤ 30 := by rw [HO2.out]; simp; omega
              clear hoO
              rw [show (((k + 1 : Nat) : Int) - 1) = (k : Int) by omega]
              go_wp2_with (at_builtin; refine wpList_append_one rfl _ _ 34 rfl W2.heap.size 5 i0 (.int .u8 0) 1 1 Try.underlying34 hi hz0 hz1 hz2 rfl (by decide) u6 O.length _ rfl hoW [.int .u8 (D[k].toNat : Int)] rfl (by intro u hu; rw [List.mem_singleton] at hu; subst hu; rfl) rfl (by omega) (by decide) hs2 ?_)
              intro v'' w3 hown hbu2 _ _
              have hb3 := hb2.trans hbu2
              have hoO3 : Own fByte w3 W2.heap.size 5 v'' (O ++ [D[k]]) := Own.push _ rfl hown
              clear hown
              go_wp2
              go_roundw
              case measure => simp [intOf]
              case rel => exact ⟨k, O ++ [D[k]], by omega, by go_num, HOL, HO2, hoO3, hb3⟩
      · have e1 : (u == 0) = false := by rw [beq_eq_false_iff_ne]; exact hu
        have hd1 : (u.tdiv 10).natAbs = u.natAbs / 10 := Int.natAbs_tdiv u 10
        have hd2 : -9223372036854775808 ≤ u.tdiv 10 ∧ u.tdiv 10 ≤ 9223372036854775807 := by generalize u.tdiv 10 = t at *; omega
        have HS2 : Hid (dig n.natAbs = dig (u.tdiv 10).natAbs ++ (D ++ [UInt8.ofNat (48 + u.natAbs % 10)]).reverse) := by show _ = _; rw [hd1]; exact dig_push (by omega) HS.out
        have HL : (D ++ [UInt8.ofNat (48 + u.natAbs % 10)]).length ≤ 20 := dig_dlen (by omega) HS2.out
        by_cases hs : u.tmod 10 < 0
        · clear ho
          go_wp2_with (at_builtin; refine wpList_append_one rfl _ _ 34 rfl w.heap.size 5 i0 (.int .u8 0) 1 1 Try.underlying34 hi hz0 hz1 hz2 rfl (by decide) u3 D.length _ rfl hoW [.int .u8 (wrap64 (48 + wrap64 (-u.tmod 10)) % 256)] rfl (by intro u hu; rw [List.mem_singleton] at hu; subst hu; rfl) rfl (by omega) (by decide) hs2 ?_)
          intro v' w1 hown hbu _ _
          have hbu' := hb.trans hbu
          have ev : wrap64 (48 + wrap64 (-u.tmod 10)) % 256 = ((UInt8.ofNat (48 + u.natAbs % 10)).toNat : Int) := digit_neg u hs
          have ho2 : Own fByte w1 w.heap.size 5 v' (D ++ [UInt8.ofNat (48 + u.natAbs % 10)]) := by rw [ev] at hown; exact Own.push _ rfl hown
          clear hown
          go_wp2
          go_roundw
          case measure => show (u.tdiv 10).natAbs < u.natAbs; rw [hd1]; omega
          case rel => exact ⟨u.tdiv 10, D ++ [UInt8.ofNat (48 + u.natAbs % 10)], by go_num, hd2, HL, HS2, ho2, hbu'⟩
        · clear ho
          go_wp2_with (at_builtin; refine wpList_append_one rfl _ _ 34 rfl w.heap.size 5 i0 (.int .u8 0) 1 1 Try.underlying34 hi hz0 hz1 hz2 rfl (by decide) u3 D.length _ rfl hoW [.int .u8 (wrap64 (48 + u.tmod 10) % 256)] rfl (by intro u hu; rw [List.mem_singleton] at hu; subst hu; rfl) rfl (by omega) (by decide) hs2 ?_)
          intro v' w1 hown hbu _ _
          have hbu' := hb.trans hbu
          have ev : wrap64 (48 + u.tmod 10) % 256 = ((UInt8.ofNat (48 + u.natAbs % 10)).toNat : Int) := digit_pos u (by omega)
          have ho2 : Own fByte w1 w.heap.size 5 v' (D ++ [UInt8.ofNat (48 + u.natAbs % 10)]) := by rw [ev] at hown; exact Own.push _ rfl hown
          clear hown
          go_wp2
          go_roundw
          case measure => show (u.tdiv 10).natAbs < u.natAbs; rw [hd1]; omega
          case rel => exact ⟨u.tdiv 10, D ++ [UInt8.ofNat (48 + u.natAbs % 10)], by go_num, hd2, HL, HS2, ho2, hbu'⟩

end Go.Proofs.Ytjfaafoldllppaa

namespace Go.Proofs.Ytjfaafoldllppaa
open Go.RowKit
set_option linter.unusedVariables false

theorem decS_size (n : Int) : (decS n).size = (Lib.itoa n).length := by unfold decS; show (Lib.itoa n).toArray.size = _; simp
theorem itoa_len20 {n : Int} (h0 : -9223372036854775808 ≤ n) (h1 : n ≤ 9223372036854775807) : (Lib.itoa n).length ≤ 21 := by
  by_cases h : n = 0
  · subst h; rw [← decS_size, decS_zero]; decide
  · rw [itoa_ne h, List.length_append]
    have := dig_len 20 n.natAbs (by omega)
    split <;> simp <;> omega
end Go.Proofs.Ytjfaafoldllppaa

namespace Go.Proofs.Ytjfaafoldllppaa
open Go.RowKit
set_option linter.unusedVariables false

def grpNames : List ByteArray := [⟨#[97, 110, 116, 115]⟩, ⟨#[98, 101, 97, 114, 115]⟩, ⟨#[99, 114, 111, 119, 115]⟩, ⟨#[100, 101, 101, 114]⟩, ⟨#[101, 108, 107, 115]⟩]
theorem grpNames_size (k : Nat) (hk : k < grpNames.length) : (grpNames[k]).size ≤ 5 := by
  have : ∀ x ∈ grpNames, x.size ≤ 5 := by decide
  exact this _ (List.getElem_mem hk)
theorem smallDec (k : Int) (h0 : 0 ≤ k) (h1 : k ≤ 100) : ((⟨#[110]⟩ : ByteArray) ++ decS k).size ≤ 30 := by
  rw [ByteArray.size_append, decS_size]
  have := itoa_len20 (n := k) (by omega) (by omega)
  show 1 + _ ≤ _; omega
theorem manyGroup (k : Nat) (h : k ≤ 100) : SmGroup ⟨⟨#[110]⟩ ++ decS k, 1 + (k : Int), 0, 0, 0, 0, 3⟩ := by
  have := smallDec k (by omega) (by omega)
  unfold SmGroup; simp only; omega
set_option maxRecDepth 100000 in
set_option maxHeartbeats 8000000 in
theorem l24Draw_any (n g : Nat) (w : World) (hs : SrcD n g w) (hn : n ≤ 999999970000) :
    Calls Try.prog 40 #[.pointer (some ⟨g, 0, none⟩)] w fun e w' => ∃ (v : Value) (xs : List DGroup) (fp : List Nat), e = .returned v ∧ Sl fGroup.cod w' v xs fp ∧ (∀ b ∈ fp, w.heap.size ≤ b) ∧ fp.Nodup ∧ (∀ x ∈ xs, SmGroup x) ∧ xs.length ≤ 70 ∧ SrcD (n + 1000) g w' ∧ Only [g] w w' := by
  have hg := hs.lt
  have hgB : g < w.heap.size + 1 := by omega
  obtain ⟨i0, hi, hz0, hz1, hz2⟩ := info_parts infoGroupD
  have hB0 : Below w.heap.size w (w.alloc (.cells #[.string ⟨#[97, 110, 116, 115]⟩, .string ⟨#[98, 101, 97, 114, 115]⟩, .string ⟨#[99, 114, 111, 119, 115]⟩, .string ⟨#[100, 101, 101, 114]⟩, .string ⟨#[101, 108, 107, 115]⟩] 9)) := (Below.refl _ _).alloc (Nat.le_refl _) _
  have hB1 : Below (w.heap.size + 1) (w.alloc (.cells #[.string ⟨#[97, 110, 116, 115]⟩, .string ⟨#[98, 101, 97, 114, 115]⟩, .string ⟨#[99, 114, 111, 119, 115]⟩, .string ⟨#[100, 101, 101, 114]⟩, .string ⟨#[101, 108, 107, 115]⟩] 9)) ((w.alloc (.cells #[.string ⟨#[97, 110, 116, 115]⟩, .string ⟨#[98, 101, 97, 114, 115]⟩, .string ⟨#[99, 114, 111, 119, 115]⟩, .string ⟨#[100, 101, 101, 114]⟩, .string ⟨#[101, 108, 107, 115]⟩] 9)).alloc (.cells #[] 43)) := (Below.refl _ _).alloc (by simp) _
  have hnm : Sl fStr.cod ((w.alloc (.cells #[.string ⟨#[97, 110, 116, 115]⟩, .string ⟨#[98, 101, 97, 114, 115]⟩, .string ⟨#[99, 114, 111, 119, 115]⟩, .string ⟨#[100, 101, 101, 114]⟩, .string ⟨#[101, 108, 107, 115]⟩] 9)).alloc (.cells #[] 43)) (.slice (some ⟨w.heap.size, 0, none⟩) 5 5) grpNames [w.heap.size] := (slLit w 9 grpNames _ rfl (by decide) (by decide) (by decide) _ _ rfl rfl).below hB1 (by simp)
  have hown : Own fGroup ((w.alloc (.cells #[.string ⟨#[97, 110, 116, 115]⟩, .string ⟨#[98, 101, 97, 114, 115]⟩, .string ⟨#[99, 114, 111, 119, 115]⟩, .string ⟨#[100, 101, 101, 114]⟩, .string ⟨#[101, 108, 107, 115]⟩] 9)).alloc (.cells #[] 43)) (w.heap.size + 1) 43 (.slice (some ⟨w.heap.size + 1, 0, none⟩) 0 0) [] := by
    have h := Own.lit0m fGroup (w := w.alloc (.cells #[.string ⟨#[97, 110, 116, 115]⟩, .string ⟨#[98, 101, 97, 114, 115]⟩, .string ⟨#[99, 114, 111, 119, 115]⟩, .string ⟨#[100, 101, 101, 114]⟩, .string ⟨#[101, 108, 107, 115]⟩] 9)) (base := w.heap.size + 1) (by simp) (e := 43)
    rw [World.size_alloc] at h
    exact h
  have hO0 : Only [g] w ((w.alloc (.cells #[.string ⟨#[97, 110, 116, 115]⟩, .string ⟨#[98, 101, 97, 114, 115]⟩, .string ⟨#[99, 114, 111, 119, 115]⟩, .string ⟨#[100, 101, 101, 114]⟩, .string ⟨#[101, 108, 107, 115]⟩] 9)).alloc (.cells #[] 43)) := Only.of_below (hB0.trans (hB1.mono (Nat.le_succ _)))
  have hs0 := hs.below (hB0.trans (hB1.mono (Nat.le_succ _)))
  clear hB0 hB1 hs
  go_enter Try.func40, Try.ntmps40
  go_wp2
  go_loopw [4, 5] (fun v kv wr => ∃ (k : Nat) (L : List DGroup), kv = .int .i64 k ∧ k ≤ 5 ∧ L.length ≤ k ∧ Sl fStr.cod wr (.slice (some ⟨w.heap.size, 0, none⟩) 5 5) grpNames [w.heap.size] ∧ Own fGroup wr (w.heap.size + 1) 43 v L ∧ (∀ x ∈ L, SmGroup x) ∧ SrcD (n + 30 * k) g wr ∧ Only [g] w wr) (fun _ kv _ => 5 - (intOf kv).toNat)
  case atStart => exact ⟨0, [], rfl, by omega, by simp, hnm, hown, by simp, hs0, hO0⟩
  case round =>
    clear hnm hown hs0 hO0
    obtain ⟨k, L, rfl, hk, hL, hnm, ho, hsm, hsr, hor⟩ := hrel
    have hnl := hnm.lt w.heap.size (by simp)
    by_cases hlt : k < 5
    · go_wp2_with fail
      refine (one_any _ g 3 _ hsr (by omega) (by omega)).mono ?_
      rintro e w3 ⟨b, rfl, hs3, ho3⟩
      have hor3 := hor.trans ho3
      have hnm3 := hnm.only ho3 (fun b hb => by simp at hb; subst hb; simp; omega)
      have ho3' := ho.only ho3 (fun b hb => by simp at hb; subst hb; exact hgB)
      clear hsr ho hor ho3 hnm
      cases b
      · obtain ⟨bb, off, hA, _, _, hcn, _⟩ := hnm3.cell1 rfl (show k < grpNames.length from hlt) rfl
        injection hA with hA
        injection hA with hA1 hA2 _
        subst hA1 hA2
        have hzn := grpNames_size k hlt
        generalize grpNames[k]'hlt = nm at *
        rw [Nat.zero_add] at hcn
        replace hcn : w3.cell? ⟨w.heap.size, k, none⟩ = some (.string nm) := hcn
        go_wp2_with fail
        refine (l24DrawOne_any _ g nm _ hs3 (by omega) (by omega)).mono ?_
        rintro e w4 ⟨x, rfl, ⟨HX, hq8, hq9⟩, hs4, ho4⟩
        clear hq8 hq9
        have hor4 := hor3.trans ho4
        have hnm4 := hnm3.only ho4 (fun b hb => by simp at hb; subst hb; simp; omega)
        have hsz2 : w.heap.size + 1 ≤ w4.heap.size := by have := hnm4.lt w.heap.size (by simp); omega
        have hoW : w4.ownsRow (w.heap.size + 1) 43 7 u4 L.length (L.flatMap fGroup.enc) := ho3'.only ho4 (fun b hb => by simp at hb; subst hb; exact hgB)
        clear ho3' hor3 hnm3 ho4 hs3 hcn
        unfold agGroup
        go_wp2_with (at_builtin; refine wpList_append_one rfl _ _ 27 rfl (w.heap.size + 1) 43 i0 (.agg #[.string ⟨#[]⟩, .int .i64 0, .int .i64 0, .int .i64 0, .int .i64 0, .int .i64 0, .int .i64 0]) 7 64 Try.underlying27 hi hz0 hz1 hz2 rfl (by decide) u4 L.length _ rfl hoW [.string x.id, .int .i64 x.people, .int .i64 x.guides, .int .i64 x.beacons, .int .i64 x.shovels, .int .i64 x.probes, .int .i64 x.skill] rfl (by intro u hu; simp only [List.mem_cons, List.not_mem_nil, or_false] at hu; rcases hu with rfl | rfl | rfl | rfl | rfl | rfl | rfl <;> rfl) rfl (by omega) (by decide) hsz2 ?_)
        intro v' u hown hbu _ _
        have hoD : Own fGroup u (w.heap.size + 1) 43 v' (L ++ [x]) := Own.push _ (by omega) hown
        clear hown
        have hs5 := hs4.belowB hbu hgB
        have hnm5 := hnm4.below hbu (fun b hb => by simp at hb; subst hb; omega)
        have hor5 := hor4.then (hbu.mono (Nat.le_succ _))
        clear hbu hs4 hnm4 hor4 hoW
        go_wp2
        go_roundw
        case rel => exact ⟨k + 1, _, by go_num, by omega, by rw [List.length_append, List.length_singleton]; omega, hnm5, hoD, fun y hy => by
          rcases List.mem_append.1 hy with hy | hy
          · exact hsm y hy
          · rw [List.mem_singleton] at hy; subst hy; exact HX, hs5.mono (by omega), hor5⟩
        case measure => simp [intOf]; omega
      · go_wp2
        go_roundw
        case rel => exact ⟨k + 1, L, by go_num, by omega, by omega, hnm3, ho3', hsm, hs3.mono (by omega), hor3⟩
        case measure => simp [intOf]; omega
    · go_wp2_with fail
      refine (pick_any _ g 18 _ hsr (by omega) (by omega)).mono ?_
      rintro e w3 ⟨q, rfl, ⟨q0, q1, _⟩, hs3, ho3⟩
      replace hor := hor.trans ho3
      replace ho := ho.only ho3 (fun b hb => by simp at hb; subst hb; exact hgB)
      have hsz2 : w.heap.size + 1 ≤ w3.heap.size := by have := ho3.size; omega
      clear ho3 hsr hnm
      by_cases hq0 : q = 0
      · subst hq0
        go_wp2_with fail
        refine (l24DrawOne_any _ g _ _ hs3 (by omega) (by decide)).mono ?_
        rintro e w4 ⟨x0, rfl, ⟨hx0, hq8, hx1⟩, hs4, ho4⟩
        clear hq8
        go_wp2_with fail
        refine (l24Bend_any _ g x0 _ hs4 (by omega) ⟨hx0, by omega⟩).mono ?_
        rintro e w5 ⟨x, rfl, HX, hs5, ho5⟩
        have hor2 := hor.trans (ho4.trans ho5)
        have hsz5 : w.heap.size + 1 ≤ w5.heap.size := by have := ho4.size; have := ho5.size; omega
        have hoW : w5.ownsRow (w.heap.size + 1) 43 7 u4 L.length (L.flatMap fGroup.enc) := (ho.only ho4 (fun b hb => by simp at hb; subst hb; exact hgB)).only ho5 (fun b hb => by simp at hb; subst hb; exact hgB)
        clear ho hor ho4 ho5 hs4 hs3
        unfold agGroup
        go_wp2_with (at_builtin; refine wpList_append_one rfl _ _ 27 rfl (w.heap.size + 1) 43 i0 (.agg #[.string ⟨#[]⟩, .int .i64 0, .int .i64 0, .int .i64 0, .int .i64 0, .int .i64 0, .int .i64 0]) 7 64 Try.underlying27 hi hz0 hz1 hz2 rfl (by decide) u4 L.length _ rfl hoW [.string x.id, .int .i64 x.people, .int .i64 x.guides, .int .i64 x.beacons, .int .i64 x.shovels, .int .i64 x.probes, .int .i64 x.skill] rfl (by intro u hu; simp only [List.mem_cons, List.not_mem_nil, or_false] at hu; rcases hu with rfl | rfl | rfl | rfl | rfl | rfl | rfl <;> rfl) rfl (by omega) (by decide) hsz5 ?_)
        intro v' u hown hbu _ _
        have hoD : Own fGroup u (w.heap.size + 1) 43 v' (L ++ [x]) := Own.push _ (by omega) hown
        clear hown
        go_wp2
        go_ret
        obtain ⟨fp, hsl, hlo, hnd⟩ := Sl.of_own (n := (L ++ [x]).length) rfl hoD (fun y hy => by
          rcases List.mem_append.1 hy with hy | hy
          · exact (hsm y hy).ok
          · rw [List.mem_singleton] at hy; subst hy; exact HX.ok)
        exact ⟨_, _, fp, rfl, hsl, fun b hb => Nat.le_trans (Nat.le_succ _) (hlo b hb), hnd, fun y hy => by
          rcases List.mem_append.1 hy with hy | hy
          · exact hsm y hy
          · rw [List.mem_singleton] at hy; subst hy; exact HX, by rw [List.length_append, List.length_singleton]; omega, (hs5.belowB hbu hgB).mono (by omega), hor2.then (hbu.mono (Nat.le_succ _))⟩
      · have e0 : (q == 0) = false := by rw [beq_eq_false_iff_ne]; exact hq0
        by_cases hq1 : q = 1
        · subst hq1
          have hBL : Below w3.heap.size w3 (w3.alloc (.cells #[.int .i64 8, .int .i64 9] 2)) := (Below.refl _ _).alloc (Nat.le_refl _) _
          have hgl := hs3.lt
          go_wp2_with fail
          refine (among_any _ g _ [8, 9] [w3.heap.size] _ (hs3.below hBL) (by omega) (slLitI w3 2 [8, 9] _ rfl (by decide) (by decide) (by decide) _ _ rfl rfl) (by simp; omega) (by decide) (by decide)).mono ?_
          rintro e w4 ⟨t, ht, rfl, hs4, ho4⟩
          have hor2 := hor.trans (Only.later hBL ho4)
          have hsz4 : w.heap.size + 1 ≤ w4.heap.size := by have := (Only.later hBL ho4).size; omega
          clear hBL hgl hor ho hs3 ho4
          obtain ⟨M, rfl⟩ : ∃ M : Nat, t = M := ⟨t.toNat, by simp at ht; omega⟩
          have hM : M ≤ 9 := by simp at ht; omega
          have hown : Own fGroup (w4.alloc (.cells #[] 43)) (w.heap.size + 1) 43 (.slice (some ⟨w4.heap.size, 0, none⟩) 0 0) [] := Own.lit0m fGroup hsz4
          have hB4 : Below w4.heap.size w4 (w4.alloc (.cells #[] 43)) := (Below.refl _ _).alloc (Nat.le_refl _) _
          replace hor2 := hor2.then (hB4.mono (Nat.le_trans (Nat.le_succ _) hsz4))
          replace hs4 := hs4.below hB4
          have hsz6 : w.heap.size + 1 ≤ (w4.alloc (.cells #[] 43)).heap.size := by simp; omega
          clear hB4 ht hsm hsz2 hsz4
          go_wp2
          rename World => wo
          go_loopw [4, 7] (fun v kv wr => ∃ (k : Nat) (X : List DGroup), kv = .int .i64 k ∧ k ≤ M ∧ X.length = k ∧ Own fGroup wr (w.heap.size + 1) 43 v X ∧ (∀ x ∈ X, SmGroup x) ∧ SrcD (n + 400) g wr ∧ Only [g] w wr ∧ w.heap.size + 1 ≤ wr.heap.size) (fun _ kv _ => M - (intOf kv).toNat)
          case atStart => exact ⟨0, [], rfl, Nat.zero_le _, rfl, hown, by simp, hs4.mono (by omega), hor2, hsz6⟩
          case round =>
            clear hown hs4 hor2 hsz6
            obtain ⟨k, X, rfl, hk, hX, ho, hsm, hsr, hor, hsz2⟩ := hrel
            by_cases hlt : k < M
            · have hsmk := Lib.hid (manyGroup k (by omega))
              have hk100 : k ≤ 100 := by omega
              go_wp2_with fail
              refine (l01Dec_any _ _ (by omega) (by omega)).mono ?_
              rintro e w5 ⟨rfl, hb5⟩
              have hdz := smallDec k (by omega) (by omega)
              have hdz2 : (decS (k : Int)).size ≤ 25 := by rw [decS_size]; have := itoa_len20 (n := (k : Int)) (by omega) (by omega); omega
              have hor5 := hor.then (hb5.mono hor.size)
              have hs5 := hsr.below hb5
              have hsz5 : w.heap.size + 1 ≤ w5.heap.size := Nat.le_trans hsz2 hb5.size
              have hoW : w5.ownsRow (w.heap.size + 1) 43 7 u4 X.length (X.flatMap fGroup.enc) := ho.below hb5
              clear ho hb5 hor hsr
              go_wp2_with (at_builtin; refine wpList_append_one rfl _ _ 27 rfl (w.heap.size + 1) 43 i0 (.agg #[.string ⟨#[]⟩, .int .i64 0, .int .i64 0, .int .i64 0, .int .i64 0, .int .i64 0, .int .i64 0]) 7 64 Try.underlying27 hi hz0 hz1 hz2 rfl (by decide) u4 X.length _ rfl hoW [.string (⟨#[110]⟩ ++ decS (k : Int)), .int .i64 (1 + (k : Int)), .int .i64 0, .int .i64 0, .int .i64 0, .int .i64 0, .int .i64 3] rfl (by intro u hu; simp only [List.mem_cons, List.not_mem_nil, or_false] at hu; rcases hu with rfl | rfl | rfl | rfl | rfl | rfl | rfl <;> rfl) rfl (by omega) (by decide) hsz5 ?_)
              intro v' u hown hbu _ _
              have hoD : Own fGroup u (w.heap.size + 1) 43 v' (X ++ [⟨⟨#[110]⟩ ++ decS (k : Int), 1 + (k : Int), 0, 0, 0, 0, 3⟩]) := Own.push _ (by omega) hown
              clear hown
              have hs6 := hs5.belowB hbu hgB
              have hor6 := hor5.then (hbu.mono (Nat.le_succ _))
              have hsz6 : w.heap.size + 1 ≤ u.heap.size := Nat.le_trans hsz5 hbu.size
              go_wp2
              go_roundw
              case rel => exact ⟨k + 1, _, by go_num, by omega, by rw [List.length_append, hX, List.length_singleton], hoD, fun y hy => by
                rcases List.mem_append.1 hy with hy | hy
                · exact hsm y hy
                · rw [List.mem_singleton] at hy; subst hy; exact hsmk.out, hs6, hor6, hsz6⟩
              case measure => simp [intOf]; omega
            · obtain ⟨fp, hsl, hlo, hnd⟩ := Sl.of_own (n := X.length) rfl ho (fun y hy => (hsm y hy).ok)
              go_wp2
              go_ret
              exact ⟨_, _, fp, rfl, hsl, fun b hb => Nat.le_trans (Nat.le_succ _) (hlo b hb), hnd, hsm, by omega, hsr.mono (by omega), hor⟩
        · have e1 : (q == 1) = false := by rw [beq_eq_false_iff_ne]; exact hq1
          obtain ⟨fp, hsl, hlo, hnd⟩ := Sl.of_own (n := L.length) rfl ho (fun y hy => (hsm y hy).ok)
          go_wp2
          go_ret
          exact ⟨_, _, fp, rfl, hsl, fun b hb => Nat.le_trans (Nat.le_succ _) (hlo b hb), hnd, hsm, by omega, hs3.mono (by omega), hor⟩

end Go.Proofs.Ytjfaafoldllppaa

namespace Go.Proofs.Ytjfaafoldllppaa
open Go.RowKit
set_option linter.unusedVariables false
set_option linter.unusedSimpArgs false

set_option maxRecDepth 100000 in
set_option maxHeartbeats 2000000 in
theorem l24DrawLevel_any (n g : Nat) (w : World) (hs : SrcD n g w) (hn : n ≤ 999999990000) :
    Calls Try.prog 41 #[.pointer (some ⟨g, 0, none⟩)] w fun e w' => ∃ t : Int, (0 ≤ t ∧ t ≤ 6) ∧ e = .returned (.int .i64 t) ∧ SrcD (n + 2) g w' ∧ Only [g] w w' := by
  have hgl := hs.lt
  have hBL : Below w.heap.size w (w.alloc (.cells #[.int .i64 1, .int .i64 2, .int .i64 3, .int .i64 4, .int .i64 5, .int .i64 2, .int .i64 0, .int .i64 6] 2)) := (Below.refl _ _).alloc (Nat.le_refl _) _
  go_enter Try.func41, Try.ntmps41
  go_wp2_with fail
  refine (among_any _ g _ [1, 2, 3, 4, 5, 2, 0, 6] [w.heap.size] _ (hs.below hBL) (by omega) (slLitI w 2 [1, 2, 3, 4, 5, 2, 0, 6] _ rfl (by decide) (by decide) (by decide) _ _ rfl rfl) (by simp; omega) (by decide) (by decide)).mono ?_
  rintro e w1 ⟨t, ht, rfl, hs1, ho1⟩
  have htb : 0 ≤ t ∧ t ≤ 6 := by simp only [List.mem_cons, List.not_mem_nil, or_false] at ht; omega
  have ho2 := Only.later hBL ho1
  go_wp2
  go_ret
  exact ⟨t, htb, rfl, hs1, ho2⟩
set_option maxRecDepth 100000 in
set_option maxHeartbeats 4000000 in
theorem DrawGoingGroups_any (v : Value) (xs : List UInt8) (fp : List Nat) (w : World) (hx : Sl fByte.cod w v xs fp) :
    Calls Try.prog 15 #[v] w fun e w' => ∃ (y : Value) (ys : List DGroup) (fq : List Nat) (lv : Int), e = .returned (.tuple #[y, .int .i64 lv]) ∧ Sl fGroup.cod w' y ys fq ∧ ys.length ≤ 70 ∧ (0 ≤ lv ∧ lv ≤ 6) ∧ Below w.heap.size w w' := by
  go_enter Try.func15, Try.ntmps15
  go_wp2_with fail
  refine (l00From_any v xs fp _ hx).mono ?_
  rintro e w1 ⟨rfl, hs, hb1⟩
  have hgw := Nat.le_refl w.heap.size
  generalize hg0 : w.heap.size = g at hs hgw ⊢
  have hge : w.heap.size ≤ g := by omega
  clear hg0 hgw
  have hof : ∀ b ∈ [g], w.heap.size ≤ b := by simp; omega
  clear hx
  go_wp2_with fail
  refine (l24Draw_any _ g _ hs (by omega)).mono ?_
  rintro e w2 ⟨y, ys, fq, rfl, hsl, hlo, hnd, hsm, hl, hs2, ho2⟩
  have hg1 := hs.lt
  have hgq : ∀ b ∈ fq, b ∉ [g] := fun b hb => by have := hlo b hb; simp; omega
  obtain ⟨A, cap, rfl, _, _⟩ := hsl.form
  have hB2 : Below w.heap.size w w2 := hb1.trans (ho2.below hb1.size hof)
  clear hs hlo hnd hb1 ho2 hsm
  go_wp2_with fail
  refine (l24DrawLevel_any _ g _ hs2 (by omega)).mono ?_
  rintro e w3 ⟨lv, hlv, rfl, hs3, ho3⟩
  replace hsl := hsl.only ho3 hgq
  replace hB2 := hB2.trans (ho3.below hB2.size hof)
  clear hs2 ho3
  go_wp2
  go_ret2
  exact ⟨_, ys, fq, lv, rfl, hsl, hl, hlv, hB2⟩
set_option maxRecDepth 100000 in
set_option maxHeartbeats 4000000 in
theorem DrawBestPairs_any (v : Value) (xs : List UInt8) (fp : List Nat) (w : World) (hx : Sl fByte.cod w v xs fp) :
    Calls Try.prog 21 #[v] w fun e w' => ∃ (y : Value) (ys : List DGroup) (fq : List Nat) (lv bu : Int), e = .returned (.tuple #[y, .int .i64 lv, .int .i64 bu]) ∧ Sl fGroup.cod w' y ys fq ∧ ys.length ≤ 70 ∧ (0 ≤ lv ∧ lv ≤ 6) ∧ (0 ≤ bu ∧ bu ≤ 20001) ∧ Below w.heap.size w w' := by
  go_enter Try.func21, Try.ntmps21
  go_wp2_with fail
  refine (l00From_any v xs fp _ hx).mono ?_
  rintro e w1 ⟨rfl, hs, hb1⟩
  have hgw := Nat.le_refl w.heap.size
  generalize hg0 : w.heap.size = g at hs hgw ⊢
  have hge : w.heap.size ≤ g := by omega
  clear hg0 hgw
  have hof : ∀ b ∈ [g], w.heap.size ≤ b := by simp; omega
  clear hx
  go_wp2_with fail
  refine (l24Draw_any _ g _ hs (by omega)).mono ?_
  rintro e w2 ⟨y, ys, fq, rfl, hsl, hlo, hnd, hsm, hl, hs2, ho2⟩
  have hg1 := hs.lt
  have hgq : ∀ b ∈ fq, b ∉ [g] := fun b hb => by have := hlo b hb; simp; omega
  obtain ⟨A, cap, rfl, _, _⟩ := hsl.form
  have hB2 : Below w.heap.size w w2 := hb1.trans (ho2.below hb1.size hof)
  clear hs hlo hnd hb1 ho2 hsm
  go_wp2_with fail
  refine (l24DrawLevel_any _ g _ hs2 (by omega)).mono ?_
  rintro e w3 ⟨lv, hlv, rfl, hs3, ho3⟩
  replace hsl := hsl.only ho3 hgq
  replace hB2 := hB2.trans (ho3.below hB2.size hof)
  clear hs2 ho3
  have hgl := hs3.lt
  have hBL : Below w3.heap.size w3 (w3.alloc (.cells #[.int .i64 1, .int .i64 10, .int .i64 40, .int .i64 100, .int .i64 2000, .int .i64 0, .int .i64 20001, .int .i64 400] 2)) := (Below.refl _ _).alloc (Nat.le_refl _) _
  go_wp2_with fail
  refine (among_any _ g _ [1, 10, 40, 100, 2000, 0, 20001, 400] [w3.heap.size] _ (hs3.below hBL) (by omega) (slLitI w3 2 [1, 10, 40, 100, 2000, 0, 20001, 400] _ rfl (by decide) (by decide) (by decide) _ _ rfl rfl) (by simp; omega) (by decide) (by decide)).mono ?_
  rintro e w4 ⟨bu, ht, rfl, hs4, ho4⟩
  have htb : 0 ≤ bu ∧ bu ≤ 20001 := by simp only [List.mem_cons, List.not_mem_nil, or_false] at ht; omega
  have ho5 := Only.later hBL ho4
  replace hsl := hsl.only ho5 hgq
  replace hB2 := hB2.trans (ho5.below hB2.size hof)
  clear ht hs3 ho4 ho5 hBL
  go_wp2
  go_ret3
  exact ⟨_, ys, fq, lv, bu, rfl, hsl, hl, hlv, htb, hB2⟩
end Go.Proofs.Ytjfaafoldllppaa

namespace Go.Proofs.Ytjfaafoldllppaa
open Go.RowKit
set_option linter.unusedVariables false

def groupB (x : DGroup) : Bool := nameB x.id && inB x.people 1 30 && inB x.guides 0 x.people && inB x.beacons 0 30 && inB x.shovels 0 30 && inB x.probes 0 30 && inB x.skill 1 5
def levelB (n : Int) : Bool := inB n 1 5
set_option maxRecDepth 100000 in
set_option maxHeartbeats 400000 in
theorem l17Is_any (a : Int) (w : World) : Calls Try.prog 26 #[.int .i64 a] w fun e w' => e = .returned (.bool (levelB a)) ∧ w = w' := by
  go_enter Try.func26, Try.ntmps26
  go_wp2_with (go_at_call 52; refine (l00InB_any _ _ _ _).mono ?_; rintro e w' ⟨rfl, rfl⟩)
  go_ret
  exact ⟨rfl, rfl⟩
set_option maxRecDepth 100000 in
set_option maxHeartbeats 400000 in
theorem levelOk_any (a : Int) (w : World) : Calls Try.prog 31 #[.int .i64 a] w fun e w' => e = .returned (.bool (levelB a)) ∧ w = w' := by
  go_enter Try.func31, Try.ntmps31
  go_wp2_with (go_at_call 44; refine (withinB_any _ _ _ _).mono ?_; rintro e w' ⟨rfl, rfl⟩)
  go_ret
  exact ⟨rfl, rfl⟩
set_option maxRecDepth 100000 in
set_option maxHeartbeats 4000000 in
theorem l24One_any (pb po : Nat) (x : DGroup) (w : World) (hp : PGroup w pb po x) (hok : x.id.size ≤ 9223372036854775807) :
    Calls Try.prog 48 #[.pointer (some ⟨pb, po, none⟩)] w fun e w' => e = .returned (.bool (groupB x)) ∧ Below w.heap.size w w' := by
  obtain ⟨c0, c1, c2, c3, c4, c5, c6⟩ := hp
  go_enter Try.func48, Try.ntmps48
  go_wp2
  have gc0 := cell_regrown c0
  have gc1 := cell_regrown c1
  have gc2 := cell_regrown c2
  have gc3 := cell_regrown c3
  have gc4 := cell_regrown c4
  have gc5 := cell_regrown c5
  have gc6 := cell_regrown c6
  refine wp_region_mix (C := fun w' => ∃ p : Regrown, w' = Go.Sort.grow (redrawn w p.d) p.os) [true, true, true, true, false, true, true, true, true, true, false, true, true, true, true, true, true, true, true, true, true, false, true, true, true, true, true, true, false, true, true, true, true, true, true, false, true, true, true, true, true, true, false, true, true, true, true, true, true, false, true, true] (by kernel_rfl) (by kernel_rfl) (by kernel_rfl) (fun _ _ d _ _ h => by cases d <;> exact h) (regrown_of_below (Below.drew (Below.refl _ _))) ?_
  have hS0 : Below w.heap.size w w.drew := Below.drew (Below.refl _ _)
  refine wpMix_pure (by kernel_rfl) (fun K hK => ?_); go_big_quiet_op; refine hK _ ?_; clear hK K
  refine wpMix_pure (by kernel_rfl) (fun K hK => ?_); go_big_quiet_op; refine hK _ ?_; clear hK K
  refine wpMix_pure (by kernel_rfl) (fun K hK => ?_); go_big_quiet_op; refine hK _ ?_; clear hK K
  refine wpMix_pure (by kernel_rfl) (fun K hK => ?_); go_big_quiet_op; refine hK _ ?_; clear hK K
  refine wpMix_act (by kernel_rfl) (fun K hK => ?_)
  go_big_op
  refine (l01Name_any _ _ hok).mono ?_
  rintro e w' ⟨rfl, rfl⟩
  refine hK _ _ (regrown_of_below hS0) ?_
  clear hK K
  cases hq4 : nameB x.id
  · skip
    refine wpMix_pure (by kernel_rfl) (fun K hK => ?_); go_big_quiet_op; refine hK _ ?_; clear hK K
    refine wpMix_skip (by kernel_rfl) (fun K hK => ?_)
    simp only [Act.put, List.setIfInBounds_toArray, List.set_cons_zero, List.set_cons_succ]
    refine hK _ ?_; clear hK K
    refine wpMix_skip (by kernel_rfl) (fun K hK => ?_)
    simp only [Act.put, List.setIfInBounds_toArray, List.set_cons_zero, List.set_cons_succ]
    refine hK _ ?_; clear hK K
    refine wpMix_skip (by kernel_rfl) (fun K hK => ?_)
    simp only [Act.put, List.setIfInBounds_toArray, List.set_cons_zero, List.set_cons_succ]
    refine hK _ ?_; clear hK K
    refine wpMix_skip (by kernel_rfl) (fun K hK => ?_)
    simp only [Act.put, List.setIfInBounds_toArray, List.set_cons_zero, List.set_cons_succ]
    refine hK _ ?_; clear hK K
    refine wpMix_skip (by kernel_rfl) (fun K hK => ?_)
    simp only [Act.put, List.setIfInBounds_toArray, List.set_cons_zero, List.set_cons_succ]
    refine hK _ ?_; clear hK K
    refine wpMix_pure (by kernel_rfl) (fun K hK => ?_); go_big_quiet_op; refine hK _ ?_; clear hK K
    refine wpMix_pure (by kernel_rfl) (fun K hK => ?_); go_big_quiet_op; refine hK _ ?_; clear hK K
    refine wpMix_skip (by kernel_rfl) (fun K hK => ?_)
    simp only [Act.put, List.setIfInBounds_toArray, List.set_cons_zero, List.set_cons_succ]
    refine hK _ ?_; clear hK K
    refine wpMix_skip (by kernel_rfl) (fun K hK => ?_)
    simp only [Act.put, List.setIfInBounds_toArray, List.set_cons_zero, List.set_cons_succ]
    refine hK _ ?_; clear hK K
    refine wpMix_skip (by kernel_rfl) (fun K hK => ?_)
    simp only [Act.put, List.setIfInBounds_toArray, List.set_cons_zero, List.set_cons_succ]
    refine hK _ ?_; clear hK K
    refine wpMix_skip (by kernel_rfl) (fun K hK => ?_)
    simp only [Act.put, List.setIfInBounds_toArray, List.set_cons_zero, List.set_cons_succ]
    refine hK _ ?_; clear hK K
    refine wpMix_skip (by kernel_rfl) (fun K hK => ?_)
    simp only [Act.put, List.setIfInBounds_toArray, List.set_cons_zero, List.set_cons_succ]
    refine hK _ ?_; clear hK K
    refine wpMix_skip (by kernel_rfl) (fun K hK => ?_)
    simp only [Act.put, List.setIfInBounds_toArray, List.set_cons_zero, List.set_cons_succ]
    refine hK _ ?_; clear hK K
    refine wpMix_skip (by kernel_rfl) (fun K hK => ?_)
    simp only [Act.put, List.setIfInBounds_toArray, List.set_cons_zero, List.set_cons_succ]
    refine hK _ ?_; clear hK K
    refine wpMix_skip (by kernel_rfl) (fun K hK => ?_)
    simp only [Act.put, List.setIfInBounds_toArray, List.set_cons_zero, List.set_cons_succ]
    refine hK _ ?_; clear hK K
    refine wpMix_skip (by kernel_rfl) (fun K hK => ?_)
    simp only [Act.put, List.setIfInBounds_toArray, List.set_cons_zero, List.set_cons_succ]
    refine hK _ ?_; clear hK K
    refine wpMix_pure (by kernel_rfl) (fun K hK => ?_); go_big_quiet_op; refine hK _ ?_; clear hK K
    refine wpMix_pure (by kernel_rfl) (fun K hK => ?_); go_big_quiet_op; refine hK _ ?_; clear hK K
    refine wpMix_skip (by kernel_rfl) (fun K hK => ?_)
    simp only [Act.put, List.setIfInBounds_toArray, List.set_cons_zero, List.set_cons_succ]
    refine hK _ ?_; clear hK K
    refine wpMix_skip (by kernel_rfl) (fun K hK => ?_)
    simp only [Act.put, List.setIfInBounds_toArray, List.set_cons_zero, List.set_cons_succ]
    refine hK _ ?_; clear hK K
    refine wpMix_skip (by kernel_rfl) (fun K hK => ?_)
    simp only [Act.put, List.setIfInBounds_toArray, List.set_cons_zero, List.set_cons_succ]
    refine hK _ ?_; clear hK K
    refine wpMix_skip (by kernel_rfl) (fun K hK => ?_)
    simp only [Act.put, List.setIfInBounds_toArray, List.set_cons_zero, List.set_cons_succ]
    refine hK _ ?_; clear hK K
    refine wpMix_skip (by kernel_rfl) (fun K hK => ?_)
    simp only [Act.put, List.setIfInBounds_toArray, List.set_cons_zero, List.set_cons_succ]
    refine hK _ ?_; clear hK K
    refine wpMix_pure (by kernel_rfl) (fun K hK => ?_); go_big_quiet_op; refine hK _ ?_; clear hK K
    refine wpMix_pure (by kernel_rfl) (fun K hK => ?_); go_big_quiet_op; refine hK _ ?_; clear hK K
    refine wpMix_skip (by kernel_rfl) (fun K hK => ?_)
    simp only [Act.put, List.setIfInBounds_toArray, List.set_cons_zero, List.set_cons_succ]
    refine hK _ ?_; clear hK K
    refine wpMix_skip (by kernel_rfl) (fun K hK => ?_)
    simp only [Act.put, List.setIfInBounds_toArray, List.set_cons_zero, List.set_cons_succ]
    refine hK _ ?_; clear hK K
    refine wpMix_skip (by kernel_rfl) (fun K hK => ?_)
    simp only [Act.put, List.setIfInBounds_toArray, List.set_cons_zero, List.set_cons_succ]
    refine hK _ ?_; clear hK K
    refine wpMix_skip (by kernel_rfl) (fun K hK => ?_)
    simp only [Act.put, List.setIfInBounds_toArray, List.set_cons_zero, List.set_cons_succ]
    refine hK _ ?_; clear hK K
    refine wpMix_skip (by kernel_rfl) (fun K hK => ?_)
    simp only [Act.put, List.setIfInBounds_toArray, List.set_cons_zero, List.set_cons_succ]
    refine hK _ ?_; clear hK K
    refine wpMix_pure (by kernel_rfl) (fun K hK => ?_); go_big_quiet_op; refine hK _ ?_; clear hK K
    refine wpMix_pure (by kernel_rfl) (fun K hK => ?_); go_big_quiet_op; refine hK _ ?_; clear hK K
    refine wpMix_skip (by kernel_rfl) (fun K hK => ?_)
    simp only [Act.put, List.setIfInBounds_toArray, List.set_cons_zero, List.set_cons_succ]
    refine hK _ ?_; clear hK K
    refine wpMix_skip (by kernel_rfl) (fun K hK => ?_)
    simp only [Act.put, List.setIfInBounds_toArray, List.set_cons_zero, List.set_cons_succ]
    refine hK _ ?_; clear hK K
    refine wpMix_skip (by kernel_rfl) (fun K hK => ?_)
    simp only [Act.put, List.setIfInBounds_toArray, List.set_cons_zero, List.set_cons_succ]
    refine hK _ ?_; clear hK K
    refine wpMix_skip (by kernel_rfl) (fun K hK => ?_)
    simp only [Act.put, List.setIfInBounds_toArray, List.set_cons_zero, List.set_cons_succ]
    refine hK _ ?_; clear hK K
    refine wpMix_skip (by kernel_rfl) (fun K hK => ?_)
    simp only [Act.put, List.setIfInBounds_toArray, List.set_cons_zero, List.set_cons_succ]
    refine hK _ ?_; clear hK K
    refine wpMix_pure (by kernel_rfl) (fun K hK => ?_); go_big_quiet_op; refine hK _ ?_; clear hK K
    refine wpMix_pure (by kernel_rfl) (fun K hK => ?_); go_big_quiet_op; refine hK _ ?_; clear hK K
    refine wpMix_skip (by kernel_rfl) (fun K hK => ?_)
    simp only [Act.put, List.setIfInBounds_toArray, List.set_cons_zero, List.set_cons_succ]
    refine hK _ ?_; clear hK K
    refine wpMix_skip (by kernel_rfl) (fun K hK => ?_)
    simp only [Act.put, List.setIfInBounds_toArray, List.set_cons_zero, List.set_cons_succ]
    refine hK _ ?_; clear hK K
    refine wpMix_skip (by kernel_rfl) (fun K hK => ?_)
    simp only [Act.put, List.setIfInBounds_toArray, List.set_cons_zero, List.set_cons_succ]
    refine hK _ ?_; clear hK K
    refine wpMix_skip (by kernel_rfl) (fun K hK => ?_)
    simp only [Act.put, List.setIfInBounds_toArray, List.set_cons_zero, List.set_cons_succ]
    refine hK _ ?_; clear hK K
    refine wpMix_skip (by kernel_rfl) (fun K hK => ?_)
    simp only [Act.put, List.setIfInBounds_toArray, List.set_cons_zero, List.set_cons_succ]
    refine hK _ ?_; clear hK K
    refine wpMix_pure (by kernel_rfl) (fun K hK => ?_); go_big_quiet_op; refine hK _ ?_; clear hK K
    refine wpMix_pure (by kernel_rfl) (fun K hK => ?_); go_big_quiet_op; refine hK _ ?_; clear hK K
    refine wpMix_nil ?_
    go_wp2
    go_ret
    exact ⟨ret_bool (by simp [groupB, *]), hS0⟩
  · skip
    refine wpMix_pure (by kernel_rfl) (fun K hK => ?_); go_big_quiet_op; refine hK _ ?_; clear hK K
    refine wpMix_pure (by kernel_rfl) (fun K hK => ?_); go_big_quiet_op; refine hK _ ?_; clear hK K
    refine wpMix_pure (by kernel_rfl) (fun K hK => ?_); go_big_quiet_op; refine hK _ ?_; clear hK K
    refine wpMix_pure (by kernel_rfl) (fun K hK => ?_); go_big_quiet_op; refine hK _ ?_; clear hK K
    refine wpMix_pure (by kernel_rfl) (fun K hK => ?_); go_big_quiet_op; refine hK _ ?_; clear hK K
    refine wpMix_act (by kernel_rfl) (fun K hK => ?_)
    go_big_op
    refine (l00InB_any _ _ _ _).mono ?_
    rintro e w' ⟨rfl, rfl⟩
    refine hK _ _ (regrown_of_below hS0) ?_
    clear hK K
    cases hq10 : inB x.people 1 30
    · skip
      refine wpMix_pure (by kernel_rfl) (fun K hK => ?_); go_big_quiet_op; refine hK _ ?_; clear hK K
      refine wpMix_pure (by kernel_rfl) (fun K hK => ?_); go_big_quiet_op; refine hK _ ?_; clear hK K
      refine wpMix_skip (by kernel_rfl) (fun K hK => ?_)
      simp only [Act.put, List.setIfInBounds_toArray, List.set_cons_zero, List.set_cons_succ]
      refine hK _ ?_; clear hK K
      refine wpMix_skip (by kernel_rfl) (fun K hK => ?_)
      simp only [Act.put, List.setIfInBounds_toArray, List.set_cons_zero, List.set_cons_succ]
      refine hK _ ?_; clear hK K
      refine wpMix_skip (by kernel_rfl) (fun K hK => ?_)
      simp only [Act.put, List.setIfInBounds_toArray, List.set_cons_zero, List.set_cons_succ]
      refine hK _ ?_; clear hK K
      refine wpMix_skip (by kernel_rfl) (fun K hK => ?_)
      simp only [Act.put, List.setIfInBounds_toArray, List.set_cons_zero, List.set_cons_succ]
      refine hK _ ?_; clear hK K
      refine wpMix_skip (by kernel_rfl) (fun K hK => ?_)
      simp only [Act.put, List.setIfInBounds_toArray, List.set_cons_zero, List.set_cons_succ]
      refine hK _ ?_; clear hK K
      refine wpMix_skip (by kernel_rfl) (fun K hK => ?_)
      simp only [Act.put, List.setIfInBounds_toArray, List.set_cons_zero, List.set_cons_succ]
      refine hK _ ?_; clear hK K
      refine wpMix_skip (by kernel_rfl) (fun K hK => ?_)
      simp only [Act.put, List.setIfInBounds_toArray, List.set_cons_zero, List.set_cons_succ]
      refine hK _ ?_; clear hK K
      refine wpMix_skip (by kernel_rfl) (fun K hK => ?_)
      simp only [Act.put, List.setIfInBounds_toArray, List.set_cons_zero, List.set_cons_succ]
      refine hK _ ?_; clear hK K
      refine wpMix_skip (by kernel_rfl) (fun K hK => ?_)
      simp only [Act.put, List.setIfInBounds_toArray, List.set_cons_zero, List.set_cons_succ]
      refine hK _ ?_; clear hK K
      refine wpMix_pure (by kernel_rfl) (fun K hK => ?_); go_big_quiet_op; refine hK _ ?_; clear hK K
      refine wpMix_pure (by kernel_rfl) (fun K hK => ?_); go_big_quiet_op; refine hK _ ?_; clear hK K
      refine wpMix_skip (by kernel_rfl) (fun K hK => ?_)
      simp only [Act.put, List.setIfInBounds_toArray, List.set_cons_zero, List.set_cons_succ]
      refine hK _ ?_; clear hK K
      refine wpMix_skip (by kernel_rfl) (fun K hK => ?_)
      simp only [Act.put, List.setIfInBounds_toArray, List.set_cons_zero, List.set_cons_succ]
      refine hK _ ?_; clear hK K
      refine wpMix_skip (by kernel_rfl) (fun K hK => ?_)
      simp only [Act.put, List.setIfInBounds_toArray, List.set_cons_zero, List.set_cons_succ]
      refine hK _ ?_; clear hK K
      refine wpMix_skip (by kernel_rfl) (fun K hK => ?_)
      simp only [Act.put, List.setIfInBounds_toArray, List.set_cons_zero, List.set_cons_succ]
      refine hK _ ?_; clear hK K
      refine wpMix_skip (by kernel_rfl) (fun K hK => ?_)
      simp only [Act.put, List.setIfInBounds_toArray, List.set_cons_zero, List.set_cons_succ]
      refine hK _ ?_; clear hK K
      refine wpMix_pure (by kernel_rfl) (fun K hK => ?_); go_big_quiet_op; refine hK _ ?_; clear hK K
      refine wpMix_pure (by kernel_rfl) (fun K hK => ?_); go_big_quiet_op; refine hK _ ?_; clear hK K
      refine wpMix_skip (by kernel_rfl) (fun K hK => ?_)
      simp only [Act.put, List.setIfInBounds_toArray, List.set_cons_zero, List.set_cons_succ]
      refine hK _ ?_; clear hK K
      refine wpMix_skip (by kernel_rfl) (fun K hK => ?_)
      simp only [Act.put, List.setIfInBounds_toArray, List.set_cons_zero, List.set_cons_succ]
      refine hK _ ?_; clear hK K
      refine wpMix_skip (by kernel_rfl) (fun K hK => ?_)
      simp only [Act.put, List.setIfInBounds_toArray, List.set_cons_zero, List.set_cons_succ]
      refine hK _ ?_; clear hK K
      refine wpMix_skip (by kernel_rfl) (fun K hK => ?_)
      simp only [Act.put, List.setIfInBounds_toArray, List.set_cons_zero, List.set_cons_succ]
      refine hK _ ?_; clear hK K
      refine wpMix_skip (by kernel_rfl) (fun K hK => ?_)
      simp only [Act.put, List.setIfInBounds_toArray, List.set_cons_zero, List.set_cons_succ]
      refine hK _ ?_; clear hK K
      refine wpMix_pure (by kernel_rfl) (fun K hK => ?_); go_big_quiet_op; refine hK _ ?_; clear hK K
      refine wpMix_pure (by kernel_rfl) (fun K hK => ?_); go_big_quiet_op; refine hK _ ?_; clear hK K
      refine wpMix_skip (by kernel_rfl) (fun K hK => ?_)
      simp only [Act.put, List.setIfInBounds_toArray, List.set_cons_zero, List.set_cons_succ]
      refine hK _ ?_; clear hK K
      refine wpMix_skip (by kernel_rfl) (fun K hK => ?_)
      simp only [Act.put, List.setIfInBounds_toArray, List.set_cons_zero, List.set_cons_succ]
      refine hK _ ?_; clear hK K
      refine wpMix_skip (by kernel_rfl) (fun K hK => ?_)
      simp only [Act.put, List.setIfInBounds_toArray, List.set_cons_zero, List.set_cons_succ]
      refine hK _ ?_; clear hK K
      refine wpMix_skip (by kernel_rfl) (fun K hK => ?_)
      simp only [Act.put, List.setIfInBounds_toArray, List.set_cons_zero, List.set_cons_succ]
      refine hK _ ?_; clear hK K
      refine wpMix_skip (by kernel_rfl) (fun K hK => ?_)
      simp only [Act.put, List.setIfInBounds_toArray, List.set_cons_zero, List.set_cons_succ]
      refine hK _ ?_; clear hK K
      refine wpMix_pure (by kernel_rfl) (fun K hK => ?_); go_big_quiet_op; refine hK _ ?_; clear hK K
      refine wpMix_pure (by kernel_rfl) (fun K hK => ?_); go_big_quiet_op; refine hK _ ?_; clear hK K
      refine wpMix_skip (by kernel_rfl) (fun K hK => ?_)
      simp only [Act.put, List.setIfInBounds_toArray, List.set_cons_zero, List.set_cons_succ]
      refine hK _ ?_; clear hK K
      refine wpMix_skip (by kernel_rfl) (fun K hK => ?_)
      simp only [Act.put, List.setIfInBounds_toArray, List.set_cons_zero, List.set_cons_succ]
      refine hK _ ?_; clear hK K
      refine wpMix_skip (by kernel_rfl) (fun K hK => ?_)
      simp only [Act.put, List.setIfInBounds_toArray, List.set_cons_zero, List.set_cons_succ]
      refine hK _ ?_; clear hK K
      refine wpMix_skip (by kernel_rfl) (fun K hK => ?_)
      simp only [Act.put, List.setIfInBounds_toArray, List.set_cons_zero, List.set_cons_succ]
      refine hK _ ?_; clear hK K
      refine wpMix_skip (by kernel_rfl) (fun K hK => ?_)
      simp only [Act.put, List.setIfInBounds_toArray, List.set_cons_zero, List.set_cons_succ]
      refine hK _ ?_; clear hK K
      refine wpMix_pure (by kernel_rfl) (fun K hK => ?_); go_big_quiet_op; refine hK _ ?_; clear hK K
      refine wpMix_pure (by kernel_rfl) (fun K hK => ?_); go_big_quiet_op; refine hK _ ?_; clear hK K
      refine wpMix_nil ?_
      go_wp2
      go_ret
      exact ⟨ret_bool (by simp [groupB, *]), hS0⟩
    · skip
      refine wpMix_pure (by kernel_rfl) (fun K hK => ?_); go_big_quiet_op; refine hK _ ?_; clear hK K
      refine wpMix_pure (by kernel_rfl) (fun K hK => ?_); go_big_quiet_op; refine hK _ ?_; clear hK K
      refine wpMix_pure (by kernel_rfl) (fun K hK => ?_); go_big_quiet_op; refine hK _ ?_; clear hK K
      refine wpMix_pure (by kernel_rfl) (fun K hK => ?_); go_big_quiet_op; refine hK _ ?_; clear hK K
      refine wpMix_pure (by kernel_rfl) (fun K hK => ?_); go_big_quiet_op; refine hK _ ?_; clear hK K
      refine wpMix_pure (by kernel_rfl) (fun K hK => ?_); go_big_quiet_op; refine hK _ ?_; clear hK K
      refine wpMix_pure (by kernel_rfl) (fun K hK => ?_); go_big_quiet_op; refine hK _ ?_; clear hK K
      refine wpMix_pure (by kernel_rfl) (fun K hK => ?_); go_big_quiet_op; refine hK _ ?_; clear hK K
      refine wpMix_pure (by kernel_rfl) (fun K hK => ?_); go_big_quiet_op; refine hK _ ?_; clear hK K
      refine wpMix_pure (by kernel_rfl) (fun K hK => ?_); go_big_quiet_op; refine hK _ ?_; clear hK K
      refine wpMix_act (by kernel_rfl) (fun K hK => ?_)
      go_big_op
      refine (l00InB_any _ _ _ _).mono ?_
      rintro e w' ⟨rfl, rfl⟩
      refine hK _ _ (regrown_of_below hS0) ?_
      clear hK K
      cases hq21 : inB x.guides 0 x.people
      · skip
        refine wpMix_pure (by kernel_rfl) (fun K hK => ?_); go_big_quiet_op; refine hK _ ?_; clear hK K
        refine wpMix_pure (by kernel_rfl) (fun K hK => ?_); go_big_quiet_op; refine hK _ ?_; clear hK K
        refine wpMix_skip (by kernel_rfl) (fun K hK => ?_)
        simp only [Act.put, List.setIfInBounds_toArray, List.set_cons_zero, List.set_cons_succ]
        refine hK _ ?_; clear hK K
        refine wpMix_skip (by kernel_rfl) (fun K hK => ?_)
        simp only [Act.put, List.setIfInBounds_toArray, List.set_cons_zero, List.set_cons_succ]
        refine hK _ ?_; clear hK K
        refine wpMix_skip (by kernel_rfl) (fun K hK => ?_)
        simp only [Act.put, List.setIfInBounds_toArray, List.set_cons_zero, List.set_cons_succ]
        refine hK _ ?_; clear hK K
        refine wpMix_skip (by kernel_rfl) (fun K hK => ?_)
        simp only [Act.put, List.setIfInBounds_toArray, List.set_cons_zero, List.set_cons_succ]
        refine hK _ ?_; clear hK K
        refine wpMix_skip (by kernel_rfl) (fun K hK => ?_)
        simp only [Act.put, List.setIfInBounds_toArray, List.set_cons_zero, List.set_cons_succ]
        refine hK _ ?_; clear hK K
        refine wpMix_pure (by kernel_rfl) (fun K hK => ?_); go_big_quiet_op; refine hK _ ?_; clear hK K
        refine wpMix_pure (by kernel_rfl) (fun K hK => ?_); go_big_quiet_op; refine hK _ ?_; clear hK K
        refine wpMix_skip (by kernel_rfl) (fun K hK => ?_)
        simp only [Act.put, List.setIfInBounds_toArray, List.set_cons_zero, List.set_cons_succ]
        refine hK _ ?_; clear hK K
        refine wpMix_skip (by kernel_rfl) (fun K hK => ?_)
        simp only [Act.put, List.setIfInBounds_toArray, List.set_cons_zero, List.set_cons_succ]
        refine hK _ ?_; clear hK K
        refine wpMix_skip (by kernel_rfl) (fun K hK => ?_)
        simp only [Act.put, List.setIfInBounds_toArray, List.set_cons_zero, List.set_cons_succ]
        refine hK _ ?_; clear hK K
        refine wpMix_skip (by kernel_rfl) (fun K hK => ?_)
        simp only [Act.put, List.setIfInBounds_toArray, List.set_cons_zero, List.set_cons_succ]
        refine hK _ ?_; clear hK K
        refine wpMix_skip (by kernel_rfl) (fun K hK => ?_)
        simp only [Act.put, List.setIfInBounds_toArray, List.set_cons_zero, List.set_cons_succ]
        refine hK _ ?_; clear hK K
        refine wpMix_pure (by kernel_rfl) (fun K hK => ?_); go_big_quiet_op; refine hK _ ?_; clear hK K
        refine wpMix_pure (by kernel_rfl) (fun K hK => ?_); go_big_quiet_op; refine hK _ ?_; clear hK K
        refine wpMix_skip (by kernel_rfl) (fun K hK => ?_)
        simp only [Act.put, List.setIfInBounds_toArray, List.set_cons_zero, List.set_cons_succ]
        refine hK _ ?_; clear hK K
        refine wpMix_skip (by kernel_rfl) (fun K hK => ?_)
        simp only [Act.put, List.setIfInBounds_toArray, List.set_cons_zero, List.set_cons_succ]
        refine hK _ ?_; clear hK K
        refine wpMix_skip (by kernel_rfl) (fun K hK => ?_)
        simp only [Act.put, List.setIfInBounds_toArray, List.set_cons_zero, List.set_cons_succ]
        refine hK _ ?_; clear hK K
        refine wpMix_skip (by kernel_rfl) (fun K hK => ?_)
        simp only [Act.put, List.setIfInBounds_toArray, List.set_cons_zero, List.set_cons_succ]
        refine hK _ ?_; clear hK K
        refine wpMix_skip (by kernel_rfl) (fun K hK => ?_)
        simp only [Act.put, List.setIfInBounds_toArray, List.set_cons_zero, List.set_cons_succ]
        refine hK _ ?_; clear hK K
        refine wpMix_pure (by kernel_rfl) (fun K hK => ?_); go_big_quiet_op; refine hK _ ?_; clear hK K
        refine wpMix_pure (by kernel_rfl) (fun K hK => ?_); go_big_quiet_op; refine hK _ ?_; clear hK K
        refine wpMix_skip (by kernel_rfl) (fun K hK => ?_)
        simp only [Act.put, List.setIfInBounds_toArray, List.set_cons_zero, List.set_cons_succ]
        refine hK _ ?_; clear hK K
        refine wpMix_skip (by kernel_rfl) (fun K hK => ?_)
        simp only [Act.put, List.setIfInBounds_toArray, List.set_cons_zero, List.set_cons_succ]
        refine hK _ ?_; clear hK K
        refine wpMix_skip (by kernel_rfl) (fun K hK => ?_)
        simp only [Act.put, List.setIfInBounds_toArray, List.set_cons_zero, List.set_cons_succ]
        refine hK _ ?_; clear hK K
        refine wpMix_skip (by kernel_rfl) (fun K hK => ?_)
        simp only [Act.put, List.setIfInBounds_toArray, List.set_cons_zero, List.set_cons_succ]
        refine hK _ ?_; clear hK K
        refine wpMix_skip (by kernel_rfl) (fun K hK => ?_)
        simp only [Act.put, List.setIfInBounds_toArray, List.set_cons_zero, List.set_cons_succ]
        refine hK _ ?_; clear hK K
        refine wpMix_pure (by kernel_rfl) (fun K hK => ?_); go_big_quiet_op; refine hK _ ?_; clear hK K
        refine wpMix_pure (by kernel_rfl) (fun K hK => ?_); go_big_quiet_op; refine hK _ ?_; clear hK K
        refine wpMix_nil ?_
        go_wp2
        go_ret
        exact ⟨ret_bool (by simp [groupB, *]), hS0⟩
      · skip
        refine wpMix_pure (by kernel_rfl) (fun K hK => ?_); go_big_quiet_op; refine hK _ ?_; clear hK K
        refine wpMix_pure (by kernel_rfl) (fun K hK => ?_); go_big_quiet_op; refine hK _ ?_; clear hK K
        refine wpMix_pure (by kernel_rfl) (fun K hK => ?_); go_big_quiet_op; refine hK _ ?_; clear hK K
        refine wpMix_pure (by kernel_rfl) (fun K hK => ?_); go_big_quiet_op; refine hK _ ?_; clear hK K
        refine wpMix_pure (by kernel_rfl) (fun K hK => ?_); go_big_quiet_op; refine hK _ ?_; clear hK K
        refine wpMix_pure (by kernel_rfl) (fun K hK => ?_); go_big_quiet_op; refine hK _ ?_; clear hK K
        refine wpMix_act (by kernel_rfl) (fun K hK => ?_)
        go_big_op
        refine (l00InB_any _ _ _ _).mono ?_
        rintro e w' ⟨rfl, rfl⟩
        refine hK _ _ (regrown_of_below hS0) ?_
        clear hK K
        cases hq28 : inB x.beacons 0 30
        · skip
          refine wpMix_pure (by kernel_rfl) (fun K hK => ?_); go_big_quiet_op; refine hK _ ?_; clear hK K
          refine wpMix_pure (by kernel_rfl) (fun K hK => ?_); go_big_quiet_op; refine hK _ ?_; clear hK K
          refine wpMix_skip (by kernel_rfl) (fun K hK => ?_)
          simp only [Act.put, List.setIfInBounds_toArray, List.set_cons_zero, List.set_cons_succ]
          refine hK _ ?_; clear hK K
          refine wpMix_skip (by kernel_rfl) (fun K hK => ?_)
          simp only [Act.put, List.setIfInBounds_toArray, List.set_cons_zero, List.set_cons_succ]
          refine hK _ ?_; clear hK K
          refine wpMix_skip (by kernel_rfl) (fun K hK => ?_)
          simp only [Act.put, List.setIfInBounds_toArray, List.set_cons_zero, List.set_cons_succ]
          refine hK _ ?_; clear hK K
          refine wpMix_skip (by kernel_rfl) (fun K hK => ?_)
          simp only [Act.put, List.setIfInBounds_toArray, List.set_cons_zero, List.set_cons_succ]
          refine hK _ ?_; clear hK K
          refine wpMix_skip (by kernel_rfl) (fun K hK => ?_)
          simp only [Act.put, List.setIfInBounds_toArray, List.set_cons_zero, List.set_cons_succ]
          refine hK _ ?_; clear hK K
          refine wpMix_pure (by kernel_rfl) (fun K hK => ?_); go_big_quiet_op; refine hK _ ?_; clear hK K
          refine wpMix_pure (by kernel_rfl) (fun K hK => ?_); go_big_quiet_op; refine hK _ ?_; clear hK K
          refine wpMix_skip (by kernel_rfl) (fun K hK => ?_)
          simp only [Act.put, List.setIfInBounds_toArray, List.set_cons_zero, List.set_cons_succ]
          refine hK _ ?_; clear hK K
          refine wpMix_skip (by kernel_rfl) (fun K hK => ?_)
          simp only [Act.put, List.setIfInBounds_toArray, List.set_cons_zero, List.set_cons_succ]
          refine hK _ ?_; clear hK K
          refine wpMix_skip (by kernel_rfl) (fun K hK => ?_)
          simp only [Act.put, List.setIfInBounds_toArray, List.set_cons_zero, List.set_cons_succ]
          refine hK _ ?_; clear hK K
          refine wpMix_skip (by kernel_rfl) (fun K hK => ?_)
          simp only [Act.put, List.setIfInBounds_toArray, List.set_cons_zero, List.set_cons_succ]
          refine hK _ ?_; clear hK K
          refine wpMix_skip (by kernel_rfl) (fun K hK => ?_)
          simp only [Act.put, List.setIfInBounds_toArray, List.set_cons_zero, List.set_cons_succ]
          refine hK _ ?_; clear hK K
          refine wpMix_pure (by kernel_rfl) (fun K hK => ?_); go_big_quiet_op; refine hK _ ?_; clear hK K
          refine wpMix_pure (by kernel_rfl) (fun K hK => ?_); go_big_quiet_op; refine hK _ ?_; clear hK K
          refine wpMix_skip (by kernel_rfl) (fun K hK => ?_)
          simp only [Act.put, List.setIfInBounds_toArray, List.set_cons_zero, List.set_cons_succ]
          refine hK _ ?_; clear hK K
          refine wpMix_skip (by kernel_rfl) (fun K hK => ?_)
          simp only [Act.put, List.setIfInBounds_toArray, List.set_cons_zero, List.set_cons_succ]
          refine hK _ ?_; clear hK K
          refine wpMix_skip (by kernel_rfl) (fun K hK => ?_)
          simp only [Act.put, List.setIfInBounds_toArray, List.set_cons_zero, List.set_cons_succ]
          refine hK _ ?_; clear hK K
          refine wpMix_skip (by kernel_rfl) (fun K hK => ?_)
          simp only [Act.put, List.setIfInBounds_toArray, List.set_cons_zero, List.set_cons_succ]
          refine hK _ ?_; clear hK K
          refine wpMix_skip (by kernel_rfl) (fun K hK => ?_)
          simp only [Act.put, List.setIfInBounds_toArray, List.set_cons_zero, List.set_cons_succ]
          refine hK _ ?_; clear hK K
          refine wpMix_pure (by kernel_rfl) (fun K hK => ?_); go_big_quiet_op; refine hK _ ?_; clear hK K
          refine wpMix_pure (by kernel_rfl) (fun K hK => ?_); go_big_quiet_op; refine hK _ ?_; clear hK K
          refine wpMix_nil ?_
          go_wp2
          go_ret
          exact ⟨ret_bool (by simp [groupB, *]), hS0⟩
        · skip
          refine wpMix_pure (by kernel_rfl) (fun K hK => ?_); go_big_quiet_op; refine hK _ ?_; clear hK K
          refine wpMix_pure (by kernel_rfl) (fun K hK => ?_); go_big_quiet_op; refine hK _ ?_; clear hK K
          refine wpMix_pure (by kernel_rfl) (fun K hK => ?_); go_big_quiet_op; refine hK _ ?_; clear hK K
          refine wpMix_pure (by kernel_rfl) (fun K hK => ?_); go_big_quiet_op; refine hK _ ?_; clear hK K
          refine wpMix_pure (by kernel_rfl) (fun K hK => ?_); go_big_quiet_op; refine hK _ ?_; clear hK K
          refine wpMix_pure (by kernel_rfl) (fun K hK => ?_); go_big_quiet_op; refine hK _ ?_; clear hK K
          refine wpMix_act (by kernel_rfl) (fun K hK => ?_)
          go_big_op
          refine (l00InB_any _ _ _ _).mono ?_
          rintro e w' ⟨rfl, rfl⟩
          refine hK _ _ (regrown_of_below hS0) ?_
          clear hK K
          cases hq35 : inB x.shovels 0 30
          · skip
            refine wpMix_pure (by kernel_rfl) (fun K hK => ?_); go_big_quiet_op; refine hK _ ?_; clear hK K
            refine wpMix_pure (by kernel_rfl) (fun K hK => ?_); go_big_quiet_op; refine hK _ ?_; clear hK K
            refine wpMix_skip (by kernel_rfl) (fun K hK => ?_)
            simp only [Act.put, List.setIfInBounds_toArray, List.set_cons_zero, List.set_cons_succ]
            refine hK _ ?_; clear hK K
            refine wpMix_skip (by kernel_rfl) (fun K hK => ?_)
            simp only [Act.put, List.setIfInBounds_toArray, List.set_cons_zero, List.set_cons_succ]
            refine hK _ ?_; clear hK K
            refine wpMix_skip (by kernel_rfl) (fun K hK => ?_)
            simp only [Act.put, List.setIfInBounds_toArray, List.set_cons_zero, List.set_cons_succ]
            refine hK _ ?_; clear hK K
            refine wpMix_skip (by kernel_rfl) (fun K hK => ?_)
            simp only [Act.put, List.setIfInBounds_toArray, List.set_cons_zero, List.set_cons_succ]
            refine hK _ ?_; clear hK K
            refine wpMix_skip (by kernel_rfl) (fun K hK => ?_)
            simp only [Act.put, List.setIfInBounds_toArray, List.set_cons_zero, List.set_cons_succ]
            refine hK _ ?_; clear hK K
            refine wpMix_pure (by kernel_rfl) (fun K hK => ?_); go_big_quiet_op; refine hK _ ?_; clear hK K
            refine wpMix_pure (by kernel_rfl) (fun K hK => ?_); go_big_quiet_op; refine hK _ ?_; clear hK K
            refine wpMix_skip (by kernel_rfl) (fun K hK => ?_)
            simp only [Act.put, List.setIfInBounds_toArray, List.set_cons_zero, List.set_cons_succ]
            refine hK _ ?_; clear hK K
            refine wpMix_skip (by kernel_rfl) (fun K hK => ?_)
            simp only [Act.put, List.setIfInBounds_toArray, List.set_cons_zero, List.set_cons_succ]
            refine hK _ ?_; clear hK K
            refine wpMix_skip (by kernel_rfl) (fun K hK => ?_)
            simp only [Act.put, List.setIfInBounds_toArray, List.set_cons_zero, List.set_cons_succ]
            refine hK _ ?_; clear hK K
            refine wpMix_skip (by kernel_rfl) (fun K hK => ?_)
            simp only [Act.put, List.setIfInBounds_toArray, List.set_cons_zero, List.set_cons_succ]
            refine hK _ ?_; clear hK K
            refine wpMix_skip (by kernel_rfl) (fun K hK => ?_)
            simp only [Act.put, List.setIfInBounds_toArray, List.set_cons_zero, List.set_cons_succ]
            refine hK _ ?_; clear hK K
            refine wpMix_pure (by kernel_rfl) (fun K hK => ?_); go_big_quiet_op; refine hK _ ?_; clear hK K
            refine wpMix_pure (by kernel_rfl) (fun K hK => ?_); go_big_quiet_op; refine hK _ ?_; clear hK K
            refine wpMix_nil ?_
            go_wp2
            go_ret
            exact ⟨ret_bool (by simp [groupB, *]), hS0⟩
          · skip
            refine wpMix_pure (by kernel_rfl) (fun K hK => ?_); go_big_quiet_op; refine hK _ ?_; clear hK K
            refine wpMix_pure (by kernel_rfl) (fun K hK => ?_); go_big_quiet_op; refine hK _ ?_; clear hK K
            refine wpMix_pure (by kernel_rfl) (fun K hK => ?_); go_big_quiet_op; refine hK _ ?_; clear hK K
            refine wpMix_pure (by kernel_rfl) (fun K hK => ?_); go_big_quiet_op; refine hK _ ?_; clear hK K
            refine wpMix_pure (by kernel_rfl) (fun K hK => ?_); go_big_quiet_op; refine hK _ ?_; clear hK K
            refine wpMix_pure (by kernel_rfl) (fun K hK => ?_); go_big_quiet_op; refine hK _ ?_; clear hK K
            refine wpMix_act (by kernel_rfl) (fun K hK => ?_)
            go_big_op
            refine (l00InB_any _ _ _ _).mono ?_
            rintro e w' ⟨rfl, rfl⟩
            refine hK _ _ (regrown_of_below hS0) ?_
            clear hK K
            cases hq42 : inB x.probes 0 30
            · skip
              refine wpMix_pure (by kernel_rfl) (fun K hK => ?_); go_big_quiet_op; refine hK _ ?_; clear hK K
              refine wpMix_pure (by kernel_rfl) (fun K hK => ?_); go_big_quiet_op; refine hK _ ?_; clear hK K
              refine wpMix_skip (by kernel_rfl) (fun K hK => ?_)
              simp only [Act.put, List.setIfInBounds_toArray, List.set_cons_zero, List.set_cons_succ]
              refine hK _ ?_; clear hK K
              refine wpMix_skip (by kernel_rfl) (fun K hK => ?_)
              simp only [Act.put, List.setIfInBounds_toArray, List.set_cons_zero, List.set_cons_succ]
              refine hK _ ?_; clear hK K
              refine wpMix_skip (by kernel_rfl) (fun K hK => ?_)
              simp only [Act.put, List.setIfInBounds_toArray, List.set_cons_zero, List.set_cons_succ]
              refine hK _ ?_; clear hK K
              refine wpMix_skip (by kernel_rfl) (fun K hK => ?_)
              simp only [Act.put, List.setIfInBounds_toArray, List.set_cons_zero, List.set_cons_succ]
              refine hK _ ?_; clear hK K
              refine wpMix_skip (by kernel_rfl) (fun K hK => ?_)
              simp only [Act.put, List.setIfInBounds_toArray, List.set_cons_zero, List.set_cons_succ]
              refine hK _ ?_; clear hK K
              refine wpMix_pure (by kernel_rfl) (fun K hK => ?_); go_big_quiet_op; refine hK _ ?_; clear hK K
              refine wpMix_pure (by kernel_rfl) (fun K hK => ?_); go_big_quiet_op; refine hK _ ?_; clear hK K
              refine wpMix_nil ?_
              go_wp2
              go_ret
              exact ⟨ret_bool (by simp [groupB, *]), hS0⟩
            · skip
              refine wpMix_pure (by kernel_rfl) (fun K hK => ?_); go_big_quiet_op; refine hK _ ?_; clear hK K
              refine wpMix_pure (by kernel_rfl) (fun K hK => ?_); go_big_quiet_op; refine hK _ ?_; clear hK K
              refine wpMix_pure (by kernel_rfl) (fun K hK => ?_); go_big_quiet_op; refine hK _ ?_; clear hK K
              refine wpMix_pure (by kernel_rfl) (fun K hK => ?_); go_big_quiet_op; refine hK _ ?_; clear hK K
              refine wpMix_pure (by kernel_rfl) (fun K hK => ?_); go_big_quiet_op; refine hK _ ?_; clear hK K
              refine wpMix_pure (by kernel_rfl) (fun K hK => ?_); go_big_quiet_op; refine hK _ ?_; clear hK K
              refine wpMix_act (by kernel_rfl) (fun K hK => ?_)
              go_big_op
              refine (l00InB_any _ _ _ _).mono ?_
              rintro e w' ⟨rfl, rfl⟩
              refine hK _ _ (regrown_of_below hS0) ?_
              clear hK K
              cases hq49 : inB x.skill 1 5
              · skip
                refine wpMix_pure (by kernel_rfl) (fun K hK => ?_); go_big_quiet_op; refine hK _ ?_; clear hK K
                refine wpMix_pure (by kernel_rfl) (fun K hK => ?_); go_big_quiet_op; refine hK _ ?_; clear hK K
                refine wpMix_nil ?_
                go_wp2
                go_ret
                exact ⟨ret_bool (by simp [groupB, *]), hS0⟩
              · skip
                refine wpMix_pure (by kernel_rfl) (fun K hK => ?_); go_big_quiet_op; refine hK _ ?_; clear hK K
                refine wpMix_pure (by kernel_rfl) (fun K hK => ?_); go_big_quiet_op; refine hK _ ?_; clear hK K
                refine wpMix_nil ?_
                go_wp2
                go_ret
                exact ⟨ret_bool (by simp [groupB, *]), hS0⟩

def allIn (xs : List Int) (lo hi : Int) : Bool := xs.all fun x => inB x lo hi
set_option maxRecDepth 100000 in
set_option maxHeartbeats 1000000 in
theorem allWithin1_any (x lo hi : Int) (a1 a2 : Addr) (w : World) (h1 : w.cell? a1 = some (.int .i64 lo)) (h2 : w.cell? a2 = some (.int .i64 hi)) :
    Calls Try.prog 80 #[.int .i64 x, .pointer (some a1), .pointer (some a2)] w fun e w' => e = .returned (.bool (!(inB x lo hi))) ∧ w = w' := by
  go_enter Try.func80, Try.ntmps80
  go_wp2_with (go_at_call 44; refine (withinB_any _ _ _ _).mono ?_; rintro e w' ⟨rfl, rfl⟩)
  go_ret
  exact ⟨rfl, rfl⟩

/-- Where the first element outside stands, or -1. -/
def IdxR (xs : List Int) (lo hi : Int) (w : World) (e : Ending) (w' : World) : Prop := ∃ r : Int, e = .returned (.int .i64 r) ∧ (allIn xs lo hi = true → r = -1) ∧ (allIn xs lo hi = false → 0 ≤ r) ∧ w = w'
set_option maxRecDepth 100000 in
set_option maxHeartbeats 1000000 in
theorem indexWithin_any (v : Value) (xs : List Int) (fp : List Nat) (lo hi : Int) (a1 a2 : Addr) (w : World) (hx : Sl fInt.cod w v xs fp) (h1 : w.cell? a1 = some (.int .i64 lo)) (h2 : w.cell? a2 = some (.int .i64 hi)) :
    Calls Try.prog 82 #[v, .func (.func 80) #[] #[.pointer (some a1), .pointer (some a2)]] w fun e w' => IdxR xs lo hi w e w' := by
  obtain ⟨A, cap, rfl, hlen, hcap⟩ := hx.form
  go_enter Try.func82, Try.ntmps82
  go_wp2
  go_loop [8] (fun i => ∃ k : Nat, k ≤ xs.length ∧ i = .int .i64 k ∧ Hid (allIn (xs.take k) lo hi = true)) (fun i => xs.length - (intOf i).toNat)
  case atStart => exact ⟨0, Nat.zero_le _, rfl, rfl⟩
  case round =>
    obtain ⟨k, hk, rfl, HE⟩ := hrel
    by_cases hlt : k < xs.length
    · obtain ⟨b, off, rfl, _, hok, hc, _⟩ := hx.cell1 rfl hlt rfl
      cases hb : inB xs[k] lo hi
      · have HA : Hid (allIn xs lo hi = false) := by
          show allIn xs lo hi = false
          unfold allIn
          rw [List.all_eq_false]
          exact ⟨xs[k], List.getElem_mem hlt, by rw [hb]; simp⟩
        go_wp2_with (go_at_call 80; refine (allWithin1_any _ _ _ _ _ _ h1 h2).mono ?_; rintro e w' ⟨rfl, rfl⟩)
        go_ret
        exact ⟨k, rfl, fun h => by (rw [HA.out] at h; cases h), fun _ => by omega, rfl⟩
      · have HA : Hid (allIn (xs.take (k + 1)) lo hi = true) := by
          show allIn _ lo hi = true
          have h0 := HE.out
          unfold allIn at *
          rw [List.take_succ_eq_append_getElem hlt, List.all_append, h0]
          simp [hb]
        go_wp2_with (go_at_call 80; refine (allWithin1_any _ _ _ _ _ _ h1 h2).mono ?_; rintro e w' ⟨rfl, rfl⟩)
        go_round
        case rel => exact ⟨k + 1, by omega, by go_num, HA⟩
        case measure => simp [intOf]; omega
    · have HA : Hid (allIn xs lo hi = true) := by have := HE.out; rw [List.take_of_length_le (by omega)] at this; exact this
      go_wp2
      go_ret
      exact ⟨-1, rfl, fun _ => rfl, fun h => by (rw [HA.out] at h; cases h), rfl⟩

set_option maxRecDepth 100000 in
set_option maxHeartbeats 1000000 in
theorem containsWithin_any (v : Value) (xs : List Int) (fp : List Nat) (lo hi : Int) (a1 a2 : Addr) (w : World) (hx : Sl fInt.cod w v xs fp) (h1 : w.cell? a1 = some (.int .i64 lo)) (h2 : w.cell? a2 = some (.int .i64 hi)) :
    Calls Try.prog 79 #[v, .func (.func 80) #[] #[.pointer (some a1), .pointer (some a2)]] w fun e w' => e = .returned (.bool (!(allIn xs lo hi))) ∧ w = w' := by
  go_enter Try.func79, Try.ntmps79
  go_wp2_with fail
  refine (indexWithin_any v xs fp lo hi a1 a2 w hx h1 h2).mono ?_
  rintro e w' ⟨r, rfl, hr1, hr2, rfl⟩
  cases hb : allIn xs lo hi
  · have h3 := hr2 hb
    clear hr1 hr2
    go_wp2
    go_ret
    exact ⟨ret_bool (by simp [hb]), rfl⟩
  · have h3 := hr1 hb
    clear hr1 hr2
    subst h3
    go_wp2
    go_ret
    exact ⟨ret_bool (by simp [hb]), rfl⟩

set_option maxRecDepth 100000 in
set_option maxHeartbeats 1000000 in
theorem allWithin_any (v : Value) (xs : List Int) (fp : List Nat) (lo hi : Int) (w : World) (hx : Sl fInt.cod w v xs fp) :
    Calls Try.prog 67 #[v, .int .i64 lo, .int .i64 hi] w fun e w' => e = .returned (.bool (allIn xs lo hi)) ∧ Below w.heap.size w w' := by
  have hmf : ∀ (fn : Fn) (first cap : Array Value) (W : World), (Instr.makeFunc fn first cap).run Try.prog W = .ok (.func fn first cap) W := fun _ _ _ _ => rfl
  have hx2 := (hx.below' ((Below.refl _ _).alloc (Nat.le_refl _) (.cells #[.int .i64 lo] 2))).below' ((Below.refl _ _).alloc (Nat.le_refl _) (.cells #[.int .i64 hi] 2))
  go_enter Try.func67, Try.ntmps67
  go_wp2_with fail
  refine (containsWithin_any v xs fp lo hi _ _ _ hx2 (by simp) (by simp)).mono ?_
  rintro e w' ⟨rfl, rfl⟩
  cases hb : allIn xs lo hi
  all_goals
    go_wp2
    go_ret
    exact ⟨ret_bool (by simp [hb]), (by repeat (first | exact Below.refl _ _ | assumption | refine Below.alloc ?_ (by first | omega | (simp <;> omega)) _ | refine Below.setCell ?_ (by first | (show _ ≤ _; omega) | (simp <;> omega)) _ | refine Below.drew ?_ | refine below_drewN ?_ _))⟩

end Go.Proofs.Ytjfaafoldllppaa
