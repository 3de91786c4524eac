/- Parts of the proof: Td, Te, Fk, Th, Tj, WTests, LawL, Dr, Open, Ob. -/
import Derived.Test.YtfgmikgghpflbaaGreatDoorG05
import Derived.Test.YtfgmikgghpflbaaGreatDoorG03
import Derived.Deep.RegionHeld
import Derived.Deep.CutRange
import Derived.Test.YtfgmikgghpflbaaGreatDoorG01
import Derived.LaidMore
import Derived.Stop.Joined
import Derived.Laws.Tables
import GoSem.PinnedTables
import Derived.Deep.Slices
import Derived.Deep.Fields
import Derived.OpenShut
namespace Go.Proofs.YtfgmikgghpflbaaGreatDoor
open Go.RowKit
set_option linter.unusedVariables false

theorem hit_cellX {w : World} {p : Addr} {x : Value} (h : (w.cell? p).isSome = true) : (w.setCell p x).cell? p = some x := by
  obtain ⟨v, hv⟩ := Option.isSome_iff_exists.1 h
  exact World.cell?_setCell_same w p x hv
def agTest (x : DTest) : Value := .agg #[.int .i64 x.kind, .int .i64 x.score, .int .i64 x.quality, .int .i64 x.depth, .int .i64 x.hour]
/-- A drawn Test: small numbers and short texts. -/
def SmTest (x : DTest) : Prop := (-1000000000 ≤ x.kind ∧ x.kind ≤ 1000000000) ∧ (-1000000000 ≤ x.score ∧ x.score ≤ 1000000000) ∧ (-1000000000 ≤ x.quality ∧ x.quality ≤ 1000000000) ∧ (-1000000000 ≤ x.depth ∧ x.depth ≤ 1000000000) ∧ (-1000000000 ≤ x.hour ∧ x.hour ≤ 1000000000)
theorem SmTest.ok {x : DTest} (h : SmTest x) : fTest.ok x := by
  unfold SmTest at h
  exact ⟨by show _ ∧ _; omega, by show _ ∧ _; omega, by show _ ∧ _; omega, by show _ ∧ _; omega, by show _ ∧ _; omega⟩
structure BxTest (w : World) (g : Nat) : Prop where
  d0 : w.cell? ⟨g, 0, none⟩ = some (.int .i64 0)
  d1 : w.cell? ⟨g, 1, none⟩ = some (.int .i64 0)
  d2 : w.cell? ⟨g, 2, none⟩ = some (.int .i64 0)
  d3 : w.cell? ⟨g, 3, none⟩ = some (.int .i64 0)
  d4 : w.cell? ⟨g, 4, none⟩ = some (.int .i64 0)
  z0 : w.frozen? ⟨g, 0, none⟩ = false
  z1 : w.frozen? ⟨g, 1, none⟩ = false
  z2 : w.frozen? ⟨g, 2, none⟩ = false
  z3 : w.frozen? ⟨g, 3, none⟩ = false
  z4 : w.frozen? ⟨g, 4, none⟩ = false
theorem BxTest.new (w : World) (T : TypeId) : BxTest (w.alloc (.cells #[.int .i64 0, .int .i64 0, .int .i64 0, .int .i64 0, .int .i64 0] T)) w.heap.size := by
  constructor <;> simp
theorem BxTest.keep {w w' : World} {g : Nat} (h : BxTest w g) (hk : w'.heap[g]? = w.heap[g]?) : BxTest w' g := by
  have kc : ∀ j, w'.cell? ⟨g, j, none⟩ = w.cell? ⟨g, j, none⟩ := fun j => World.cell?_of_block (w := w) (a := ⟨g, j, none⟩) hk
  have kf : ∀ j, w'.frozen? ⟨g, j, none⟩ = w.frozen? ⟨g, j, none⟩ := fun j => World.frozen?_of_block (w := w) (a := ⟨g, j, none⟩) hk
  exact ⟨(kc _).trans h.d0, (kc _).trans h.d1, (kc _).trans h.d2, (kc _).trans h.d3, (kc _).trans h.d4, (kf _).trans h.z0, (kf _).trans h.z1, (kf _).trans h.z2, (kf _).trans h.z3, (kf _).trans h.z4⟩
theorem BxTest.lt {w : World} {g : Nat} (h : BxTest w g) : g < w.heap.size := block_lt_of_cell h.d0
theorem BxTest.belowB {w w' : World} {g B : Nat} (h : BxTest w g) (hb : Below B w w') (hg : g < B) : BxTest w' g := h.keep (hb.block g hg)
theorem BxTest.far {V : World} {b g j : Nat} {v : Value} (h : BxTest V b) (hne : b ≠ g) : BxTest (V.setCell ⟨g, j, none⟩ v) b := by
  have k : ∀ i, (V.setCell ⟨g, j, none⟩ v).cell? ⟨b, i, none⟩ = V.cell? ⟨b, i, none⟩ := fun i => World.cell?_setCell_far V ⟨g, j, none⟩ ⟨b, i, none⟩ v (fun e => hne e.symm)
  have f : ∀ i, (V.setCell ⟨g, j, none⟩ v).frozen? ⟨b, i, none⟩ = V.frozen? ⟨b, i, none⟩ := fun i => frozen?_setCell _ _ _ _
  exact ⟨(k _).trans h.d0, (k _).trans h.d1, (k _).trans h.d2, (k _).trans h.d3, (k _).trans h.d4, (f _).trans h.z0, (f _).trans h.z1, (f _).trans h.z2, (f _).trans h.z3, (f _).trans h.z4⟩
/-- A draw under way: the source g, the result's box r, the struct x at b; behind w0 all but g is as it was. -/
structure DrTest (n g r b : Nat) (x : DTest) (w0 w : World) : Prop where
  src : SrcD n g w
  only : Only [g] w0 w
  box : BxTest w r
  pg : PTest w b 0 x
  zf : ∀ j, w.frozen? ⟨b, j, none⟩ = false
  l0 : g < w0.heap.size
  l1 : w0.heap.size ≤ r
  l2 : w0.heap.size ≤ b
  l3 : r ≠ b
theorem DrTest.next {n m g r b : Nat} {x : DTest} {w0 w w' : World} (h : DrTest n g r b x w0 w) (ho : Only [g] w w') (hs : SrcD m g w') : DrTest m g r b x w0 w' := by
  have l0 := h.l0; have l1 := h.l1; have l2 := h.l2; have lb := h.pg.lt; have lr := h.box.lt
  have hbb : w'.heap[b]? = w.heap[b]? := ho.block b lb (by simp; omega)
  have kc : ∀ j, w'.cell? ⟨b, j, none⟩ = w.cell? ⟨b, j, none⟩ := fun j => World.cell?_of_block (w := w) (a := ⟨b, j, none⟩) hbb
  have kf : ∀ j, w'.frozen? ⟨b, j, none⟩ = w.frozen? ⟨b, j, none⟩ := fun j => World.frozen?_of_block (w := w) (a := ⟨b, j, none⟩) hbb
  exact ⟨hs, h.only.trans ho, h.box.keep (ho.block r lr (by simp; omega)), ⟨(kc _).trans h.pg.c0, (kc _).trans h.pg.c1, (kc _).trans h.pg.c2, (kc _).trans h.pg.c3, (kc _).trans h.pg.c4⟩, fun j => (kf j).trans (h.zf j), l0, l1, l2, h.l3⟩
theorem DrTest.grow {n g r b : Nat} {x : DTest} {w0 w w' : World} (h : DrTest n g r b x w0 w) (hb : Below w.heap.size w w') : DrTest n g r b x w0 w' := h.next (Only.of_below hb) (h.src.below hb)
theorem DrTest.mono {n m g r b : Nat} {x : DTest} {w0 w : World} (h : DrTest n g r b x w0 w) (hm : n ≤ m) : DrTest m g r b x w0 w := ⟨h.src.mono hm, h.only, h.box, h.pg, h.zf, h.l0, h.l1, h.l2, h.l3⟩
theorem DrTest.fin {n g r b : Nat} {x : DTest} {w0 w w' : World} (h : DrTest n g r b x w0 w) (hb : Below w0.heap.size w w') : SrcD n g w' ∧ Only [g] w0 w' :=
  ⟨h.src.belowB hb h.l0, h.only.then hb⟩
theorem DrTest.fb {n g r b : Nat} {x : DTest} {w0 w : World} (h : DrTest n g r b x w0 w) (j : Nat) (v : Value) {w' : World} (hb : Below w0.heap.size w w') : Below w0.heap.size w (w'.setCell ⟨r, j, none⟩ v) := hb.setCell (p := ⟨r, j, none⟩) h.l1 v
theorem PTest.keepB {w w' : World} {b : Nat} {x : DTest} (h : PTest w b 0 x) (hk : w'.heap[b]? = w.heap[b]?) : PTest w' b 0 x := by
  have kc : ∀ j, w'.cell? ⟨b, j, none⟩ = w.cell? ⟨b, j, none⟩ := fun j => World.cell?_of_block (w := w) (a := ⟨b, j, none⟩) hk
  exact ⟨(kc _).trans h.c0, (kc _).trans h.c1, (kc _).trans h.c2, (kc _).trans h.c3, (kc _).trans h.c4⟩
theorem PTest.vset0 {V : World} {g : Nat} {x : DTest} (h : PTest V g 0 x) (c : Int) : PTest (V.setCell ⟨g, 0, none⟩ (.int .i64 c)) g 0 ⟨c, x.score, x.quality, x.depth, x.hour⟩ := by
  have nk : ∀ j, j ≠ 0 → (⟨g, 0, none⟩ : Addr) ≠ ⟨g, j, none⟩ := fun j hj e => by injection e with _ e _; exact hj e.symm
  have k : ∀ j, j ≠ 0 → (V.setCell ⟨g, 0, none⟩ (.int .i64 c)).cell? ⟨g, j, none⟩ = V.cell? ⟨g, j, none⟩ := fun j hj => World.cell?_setCell_other _ _ _ _ (nk j hj)
  exact ⟨hit_cellX (by rw [h.c0]; rfl), (k _ (by decide)).trans h.c1, (k _ (by decide)).trans h.c2, (k _ (by decide)).trans h.c3, (k _ (by decide)).trans h.c4⟩
theorem DrTest.set0 {n g r b : Nat} {x : DTest} {w0 V : World} (h : DrTest n g r b x w0 V) (c : Int) : DrTest n g r b ⟨c, x.score, x.quality, x.depth, x.hour⟩ w0 (V.setCell ⟨b, 0, none⟩ (.int .i64 c)) := by
  have hb : Below w0.heap.size V (V.setCell ⟨b, 0, none⟩ (.int .i64 c)) := (Below.refl _ _).setCell (p := ⟨b, 0, none⟩) h.l2 _
  exact ⟨h.src.belowB hb h.l0, h.only.then hb, h.box.far h.l3, h.pg.vset0 c, fun j => (frozen?_setCell _ _ _ _).trans (h.zf j), h.l0, h.l1, h.l2, h.l3⟩
theorem PTest.vset1 {V : World} {g : Nat} {x : DTest} (h : PTest V g 0 x) (c : Int) : PTest (V.setCell ⟨g, 1, none⟩ (.int .i64 c)) g 0 ⟨x.kind, c, x.quality, x.depth, x.hour⟩ := by
  have nk : ∀ j, j ≠ 1 → (⟨g, 1, none⟩ : Addr) ≠ ⟨g, j, none⟩ := fun j hj e => by injection e with _ e _; exact hj e.symm
  have k : ∀ j, j ≠ 1 → (V.setCell ⟨g, 1, none⟩ (.int .i64 c)).cell? ⟨g, j, none⟩ = V.cell? ⟨g, j, none⟩ := fun j hj => World.cell?_setCell_other _ _ _ _ (nk j hj)
  exact ⟨(k _ (by decide)).trans h.c0, hit_cellX (by have := h.c1; rw [show (0 + 1 : Nat) = 1 from rfl] at this; rw [this]; rfl), (k _ (by decide)).trans h.c2, (k _ (by decide)).trans h.c3, (k _ (by decide)).trans h.c4⟩
theorem DrTest.set1 {n g r b : Nat} {x : DTest} {w0 V : World} (h : DrTest n g r b x w0 V) (c : Int) : DrTest n g r b ⟨x.kind, c, x.quality, x.depth, x.hour⟩ w0 (V.setCell ⟨b, 1, none⟩ (.int .i64 c)) := by
  have hb : Below w0.heap.size V (V.setCell ⟨b, 1, none⟩ (.int .i64 c)) := (Below.refl _ _).setCell (p := ⟨b, 1, none⟩) h.l2 _
  exact ⟨h.src.belowB hb h.l0, h.only.then hb, h.box.far h.l3, h.pg.vset1 c, fun j => (frozen?_setCell _ _ _ _).trans (h.zf j), h.l0, h.l1, h.l2, h.l3⟩
theorem PTest.vset2 {V : World} {g : Nat} {x : DTest} (h : PTest V g 0 x) (c : Int) : PTest (V.setCell ⟨g, 2, none⟩ (.int .i64 c)) g 0 ⟨x.kind, x.score, c, x.depth, x.hour⟩ := by
  have nk : ∀ j, j ≠ 2 → (⟨g, 2, none⟩ : Addr) ≠ ⟨g, j, none⟩ := fun j hj e => by injection e with _ e _; exact hj e.symm
  have k : ∀ j, j ≠ 2 → (V.setCell ⟨g, 2, none⟩ (.int .i64 c)).cell? ⟨g, j, none⟩ = V.cell? ⟨g, j, none⟩ := fun j hj => World.cell?_setCell_other _ _ _ _ (nk j hj)
  exact ⟨(k _ (by decide)).trans h.c0, (k _ (by decide)).trans h.c1, hit_cellX (by have := h.c2; rw [show (0 + 2 : Nat) = 2 from rfl] at this; rw [this]; rfl), (k _ (by decide)).trans h.c3, (k _ (by decide)).trans h.c4⟩
theorem DrTest.set2 {n g r b : Nat} {x : DTest} {w0 V : World} (h : DrTest n g r b x w0 V) (c : Int) : DrTest n g r b ⟨x.kind, x.score, c, x.depth, x.hour⟩ w0 (V.setCell ⟨b, 2, none⟩ (.int .i64 c)) := by
  have hb : Below w0.heap.size V (V.setCell ⟨b, 2, none⟩ (.int .i64 c)) := (Below.refl _ _).setCell (p := ⟨b, 2, none⟩) h.l2 _
  exact ⟨h.src.belowB hb h.l0, h.only.then hb, h.box.far h.l3, h.pg.vset2 c, fun j => (frozen?_setCell _ _ _ _).trans (h.zf j), h.l0, h.l1, h.l2, h.l3⟩
theorem PTest.vset3 {V : World} {g : Nat} {x : DTest} (h : PTest V g 0 x) (c : Int) : PTest (V.setCell ⟨g, 3, none⟩ (.int .i64 c)) g 0 ⟨x.kind, x.score, x.quality, c, x.hour⟩ := by
  have nk : ∀ j, j ≠ 3 → (⟨g, 3, none⟩ : Addr) ≠ ⟨g, j, none⟩ := fun j hj e => by injection e with _ e _; exact hj e.symm
  have k : ∀ j, j ≠ 3 → (V.setCell ⟨g, 3, none⟩ (.int .i64 c)).cell? ⟨g, j, none⟩ = V.cell? ⟨g, j, none⟩ := fun j hj => World.cell?_setCell_other _ _ _ _ (nk j hj)
  exact ⟨(k _ (by decide)).trans h.c0, (k _ (by decide)).trans h.c1, (k _ (by decide)).trans h.c2, hit_cellX (by have := h.c3; rw [show (0 + 3 : Nat) = 3 from rfl] at this; rw [this]; rfl), (k _ (by decide)).trans h.c4⟩
theorem DrTest.set3 {n g r b : Nat} {x : DTest} {w0 V : World} (h : DrTest n g r b x w0 V) (c : Int) : DrTest n g r b ⟨x.kind, x.score, x.quality, c, x.hour⟩ w0 (V.setCell ⟨b, 3, none⟩ (.int .i64 c)) := by
  have hb : Below w0.heap.size V (V.setCell ⟨b, 3, none⟩ (.int .i64 c)) := (Below.refl _ _).setCell (p := ⟨b, 3, none⟩) h.l2 _
  exact ⟨h.src.belowB hb h.l0, h.only.then hb, h.box.far h.l3, h.pg.vset3 c, fun j => (frozen?_setCell _ _ _ _).trans (h.zf j), h.l0, h.l1, h.l2, h.l3⟩
theorem PTest.vset4 {V : World} {g : Nat} {x : DTest} (h : PTest V g 0 x) (c : Int) : PTest (V.setCell ⟨g, 4, none⟩ (.int .i64 c)) g 0 ⟨x.kind, x.score, x.quality, x.depth, c⟩ := by
  have nk : ∀ j, j ≠ 4 → (⟨g, 4, none⟩ : Addr) ≠ ⟨g, j, none⟩ := fun j hj e => by injection e with _ e _; exact hj e.symm
  have k : ∀ j, j ≠ 4 → (V.setCell ⟨g, 4, none⟩ (.int .i64 c)).cell? ⟨g, j, none⟩ = V.cell? ⟨g, j, none⟩ := fun j hj => World.cell?_setCell_other _ _ _ _ (nk j hj)
  exact ⟨(k _ (by decide)).trans h.c0, (k _ (by decide)).trans h.c1, (k _ (by decide)).trans h.c2, (k _ (by decide)).trans h.c3, hit_cellX (by have := h.c4; rw [show (0 + 4 : Nat) = 4 from rfl] at this; rw [this]; rfl)⟩
theorem DrTest.set4 {n g r b : Nat} {x : DTest} {w0 V : World} (h : DrTest n g r b x w0 V) (c : Int) : DrTest n g r b ⟨x.kind, x.score, x.quality, x.depth, c⟩ w0 (V.setCell ⟨b, 4, none⟩ (.int .i64 c)) := by
  have hb : Below w0.heap.size V (V.setCell ⟨b, 4, none⟩ (.int .i64 c)) := (Below.refl _ _).setCell (p := ⟨b, 4, none⟩) h.l2 _
  exact ⟨h.src.belowB hb h.l0, h.only.then hb, h.box.far h.l3, h.pg.vset4 c, fun j => (frozen?_setCell _ _ _ _).trans (h.zf j), h.l0, h.l1, h.l2, h.l3⟩
set_option maxRecDepth 100000 in
set_option maxHeartbeats 4000000 in
theorem l08DrawOne_any (n g : Nat) (w : World) (hs : SrcD n g w) (hn : n ≤ 999999980000) :
    Calls Tryz.prog 78 #[.pointer (some ⟨g, 0, none⟩)] w fun e w' => ∃ x : DTest, e = .returned (agTest x) ∧ SmTest x ∧ SrcD (n + 20) g w' ∧ Only [g] w w' := by
  have hg := hs.lt
  go_enter Tryz.func78, Tryz.ntmps78
  have hB0 : Below w.heap.size w (w.alloc (.cells #[.int .i64 0, .int .i64 0, .int .i64 0, .int .i64 0, .int .i64 0] 25)) := (Below.refl _ _).alloc (Nat.le_refl _) _
  go_wp2_with fail
  refine (pick_any _ g 3 _ (hs.below hB0) (by omega) (by omega)).mono ?_
  rintro e w1 ⟨a, rfl, ⟨a0, a1, _⟩, hs1, ho1⟩
  replace a1 := a1 (by omega)
  have hbx1 : BxTest w1 w.heap.size := (BxTest.new w _).keep (ho1.block w.heap.size (by simp) (by simp; omega))
  have hr1 : w.heap.size < w1.heap.size := by have := ho1.size; simp at this; omega
  have hO1 : Only [g] w w1 := Only.later hB0 ho1
  clear hB0 ho1
  go_wp2_with fail
  refine (pick_any _ g 32 _ hs1 (by omega) (by omega)).mono ?_
  rintro e w2 ⟨s, rfl, ⟨s0, s1, _⟩, hs2, ho2⟩
  replace s1 := s1 (by omega)
  have hbx2 : BxTest w2 w.heap.size := hbx1.keep (ho2.block w.heap.size hbx1.lt (by simp; omega))
  have hr2 : w.heap.size < w2.heap.size := hbx2.lt
  have hO2 : Only [g] w w2 := hO1.trans ho2
  clear hbx1 hr1 hO1 hs1 ho2
  go_wp2_with fail
  refine (pick_any _ g 3 _ hs2 (by omega) (by omega)).mono ?_
  rintro e w3 ⟨q, rfl, ⟨q0, q1, _⟩, hs3, ho3⟩
  replace q1 := q1 (by omega)
  have hbx3 : BxTest w3 w.heap.size := hbx2.keep (ho3.block w.heap.size hbx2.lt (by simp; omega))
  have hr3 : w.heap.size < w3.heap.size := hbx3.lt
  have hO3 : Only [g] w w3 := hO2.trans ho3
  clear hbx2 hr2 hO2 hs2 ho3
  have e1 : wrap64 (1 + a) = 1 + a := w64_inD _ (by omega)
  have e3 : wrap64 (1 + q) = 1 + q := w64_inD _ (by omega)
  have hBA : Below w3.heap.size w3 (w3.alloc (.cells #[.int .i64 (1 + a), .int .i64 s, .int .i64 (1 + q), .int .i64 0, .int .i64 0] 25)) := (Below.refl _ _).alloc (Nat.le_refl _) _
  have hD : DrTest (n + 2 + 2 + 2) g w.heap.size w3.heap.size ⟨1 + a, s, 1 + q, 0, 0⟩ w (w3.alloc (.cells #[.int .i64 (1 + a), .int .i64 s, .int .i64 (1 + q), .int .i64 0, .int .i64 0] 25)) := ⟨hs3.below hBA, hO3.then (hBA.mono hO3.size), hbx3.belowB hBA hr3, PTest.box w3 ⟨1 + a, s, 1 + q, 0, 0⟩ _, fun j => World.frozen?_alloc_at _ _ _ _ rfl, hg, Nat.le_refl _, Nat.le_of_lt hr3, Nat.ne_of_lt hr3⟩
  clear hBA hbx3 hs3 hO3
  go_upto_region 2 with fail
  refine at_world (fun W => DrTest (n + 2 + 2 + 2) g w.heap.size w3.heap.size ⟨1 + a, s, 1 + q, 0, 0⟩ w W) hD ?_
  clear hD
  have hbl : w.heap.size ≤ w3.heap.size := Nat.le_of_lt hr3
  clear hr3
  generalize w3.heap.size = b at *
  intro V0 hD
  obtain ⟨x0, x1, x2, x3, x4⟩ := id hD.pg
  by_cases hk : a = 2
  · subst hk
    have hz1 := hD.zf 1
    have hm : 0 ≤ s % 7 ∧ s % 7 < 7 := by omega
    obtain ⟨sc, hsc⟩ : ∃ sc, sc = 1 + s % 7 := ⟨_, rfl⟩
    have e7 : wrap64 (s % 7) = s % 7 := w64_inD _ (by omega)
    have e8 : wrap64 (1 + s % 7) = 1 + s % 7 := w64_inD _ (by omega)
    replace hD := hD.set1 (1 + s % 7)
    go_upto_region 4 with fail
    generalize V0.setCell ⟨b, 1, none⟩ (.int .i64 (1 + s % 7)) = V1 at *
    clear x0 x1 x2 x3 x4 e7 e8
    rw [← hsc] at hD
    have hsc2 : 1 ≤ sc ∧ sc ≤ 7 := by omega
    clear hsc hz1
    go_wp2_with fail
    refine (pick_any _ g 20 _ hD.src (by omega) (by omega)).mono ?_
    rintro e V2 ⟨d, rfl, ⟨d0, d1, _⟩, hsN, hoN⟩
    replace d1 := d1 (by omega)
    replace hD := hD.next hoN hsN
    clear hsN hoN
    have c3 : V2.cell? ⟨b, 3, none⟩ = some (.int .i64 0) := hD.pg.c3
    have z3 := hD.zf 3
    have e5 : wrap64 (5 * d) = 5 * d := w64_inD _ (by omega)
    have e6 : wrap64 (10 + 5 * d) = 10 + 5 * d := w64_inD _ (by omega)
    replace hD := hD.set3 (10 + 5 * d)
    go_wp2_with fail
    generalize V2.setCell ⟨b, 3, none⟩ (.int .i64 (10 + 5 * d)) = V3 at *
    refine (pick_any _ g 60 _ hD.src (by omega) (by omega)).mono ?_
    rintro e V4 ⟨h, rfl, ⟨h0, h1, _⟩, hsN, hoN⟩
    replace h1 := h1 (by omega)
    replace hD := hD.next hoN hsN
    clear hsN hoN c3 z3
    have c4 : V4.cell? ⟨b, 4, none⟩ = some (.int .i64 0) := hD.pg.c4
    have z4 := hD.zf 4
    replace hD := hD.set4 h
    have hDz := hD
    obtain ⟨d0, d1, d2, d3, d4, z0, z1, z2, z3, z4⟩ := hDz.box
    obtain ⟨x0, x1, x2, x3, x4⟩ := id hDz.pg
    go_wp2
    exact bodyPost_ret (v := agTest ⟨1 + 2, sc, 1 + q, 10 + 5 * d, h⟩) (by simp [agTest, results, hit_cellX, d0, d1, d2, d3, d4, Tryz.results78, go_sem]) rfl ⟨_, rfl, by unfold SmTest; simp only; omega, ((hDz.fin (by (repeat (refine Below.setCell ?_ hDz.l1 _)); exact Below.refl _ _)).1).mono (by omega), (hDz.fin (by (repeat (refine Below.setCell ?_ hDz.l1 _)); exact Below.refl _ _)).2⟩
  · have e9 : (1 + a == 3) = false := by rw [beq_eq_false_iff_ne]; omega
    go_wp2_with fail
    refine (pick_any _ g 20 _ hD.src (by omega) (by omega)).mono ?_
    rintro e V2 ⟨d, rfl, ⟨d0, d1, _⟩, hsN, hoN⟩
    replace d1 := d1 (by omega)
    replace hD := hD.next hoN hsN
    clear hsN hoN
    have c3 : V2.cell? ⟨b, 3, none⟩ = some (.int .i64 0) := hD.pg.c3
    have z3 := hD.zf 3
    have e5 : wrap64 (5 * d) = 5 * d := w64_inD _ (by omega)
    have e6 : wrap64 (10 + 5 * d) = 10 + 5 * d := w64_inD _ (by omega)
    replace hD := hD.set3 (10 + 5 * d)
    go_wp2_with fail
    generalize V2.setCell ⟨b, 3, none⟩ (.int .i64 (10 + 5 * d)) = V3 at *
    refine (pick_any _ g 60 _ hD.src (by omega) (by omega)).mono ?_
    rintro e V4 ⟨h, rfl, ⟨h0, h1, _⟩, hsN, hoN⟩
    replace h1 := h1 (by omega)
    replace hD := hD.next hoN hsN
    clear hsN hoN c3 z3
    have c4 : V4.cell? ⟨b, 4, none⟩ = some (.int .i64 0) := hD.pg.c4
    have z4 := hD.zf 4
    replace hD := hD.set4 h
    have hDz := hD
    obtain ⟨d0, d1, d2, d3, d4, z0, z1, z2, z3, z4⟩ := hDz.box
    obtain ⟨x0, x1, x2, x3, x4⟩ := id hDz.pg
    go_wp2
    exact bodyPost_ret (v := agTest ⟨1 + a, s, 1 + q, 10 + 5 * d, h⟩) (by simp [agTest, results, hit_cellX, d0, d1, d2, d3, d4, Tryz.results78, go_sem]) rfl ⟨_, rfl, by unfold SmTest; simp only; omega, ((hDz.fin (by (repeat (refine Below.setCell ?_ hDz.l1 _)); exact Below.refl _ _)).1).mono (by omega), (hDz.fin (by (repeat (refine Below.setCell ?_ hDz.l1 _)); exact Below.refl _ _)).2⟩
set_option maxRecDepth 100000 in
set_option maxHeartbeats 4000000 in
theorem l08Bend_any (n g : Nat) (y : DTest) (w : World) (hs : SrcD n g w) (hn : n ≤ 999999980000) (hy : SmTest y) :
    Calls Tryz.prog 77 #[.pointer (some ⟨g, 0, none⟩), agTest y] w fun e w' => ∃ x : DTest, e = .returned (agTest x) ∧ SmTest x ∧ SrcD (n + 20) g w' ∧ Only [g] w w' := by
  have hg := hs.lt
  have hB0 : Below w.heap.size w (w.alloc (.cells #[.int .i64 y.kind, .int .i64 y.score, .int .i64 y.quality, .int .i64 y.depth, .int .i64 y.hour] 25)) := (Below.refl _ _).alloc (Nat.le_refl _) _
  have hB1 : Below (w.heap.size + 1) (w.alloc (.cells #[.int .i64 y.kind, .int .i64 y.score, .int .i64 y.quality, .int .i64 y.depth, .int .i64 y.hour] 25)) ((w.alloc (.cells #[.int .i64 y.kind, .int .i64 y.score, .int .i64 y.quality, .int .i64 y.depth, .int .i64 y.hour] 25)).alloc (.cells #[.int .i64 0, .int .i64 0, .int .i64 0, .int .i64 0, .int .i64 0] 25)) := (Below.refl _ _).alloc (by simp) _
  have hD : DrTest n g (w.heap.size + 1) w.heap.size y w ((w.alloc (.cells #[.int .i64 y.kind, .int .i64 y.score, .int .i64 y.quality, .int .i64 y.depth, .int .i64 y.hour] 25)).alloc (.cells #[.int .i64 0, .int .i64 0, .int .i64 0, .int .i64 0, .int .i64 0] 25)) := by
    refine ⟨hs.below (hB0.trans (hB1.mono (Nat.le_succ _))), Only.of_below (hB0.trans (hB1.mono (Nat.le_succ _))), ?_, (PTest.box w y _).below hB1 (Nat.lt_succ_self _), fun j => ?_, hg, Nat.le_succ _, Nat.le_refl _, by omega⟩
    · have h := BxTest.new (w.alloc (.cells #[.int .i64 y.kind, .int .i64 y.score, .int .i64 y.quality, .int .i64 y.depth, .int .i64 y.hour] 25)) 25
      rw [World.size_alloc] at h; exact h
    · rw [hB1.frozen (p := ⟨w.heap.size, j, none⟩) (Nat.lt_succ_self _)]; exact World.frozen?_alloc_at _ _ _ _ rfl
  clear hB0 hB1
  unfold agTest
  go_enter Tryz.func77, Tryz.ntmps77
  go_upto_region 1 with fail
  refine at_world (fun W => DrTest n g (w.heap.size + 1) w.heap.size y w W) hD ?_
  clear hD hs
  generalize w.heap.size + 1 = r at *
  generalize hbw : w.heap.size = b at *
  intro V0 hD
  clear hbw hg
  go_wp2_with fail
  refine (pick_any _ g 18 _ hD.src (by omega) (by omega)).mono ?_
  rintro e V1 ⟨q, rfl, ⟨q0, q1, _⟩, hsN, hoN⟩
  replace hD := hD.next hoN hsN
  clear hsN hoN V0
  by_cases h0 : q = 0
  · subst h0
    have hBL : Below V1.heap.size V1 (V1.alloc (.cells #[.int .i64 0, .int .i64 4] 2)) := (Below.refl _ _).alloc (Nat.le_refl _) _
    have hgl := hD.src.lt
    go_wp2_with fail
    refine (among_any _ g _ [0, 4] [V1.heap.size] _ (hD.src.below hBL) (by omega) (slLitI V1 2 [0, 4] _ rfl (by decide) (by decide) (by decide) _ _ rfl rfl) (by simp; omega) (by decide) (by decide)).mono ?_
    rintro e V2 ⟨t, ht, rfl, hsN, hoN⟩
    replace hD := (hD.grow hBL).next hoN hsN
    have htb : -1000000000 ≤ t ∧ t ≤ 1000000000 := by simp at ht; omega
    clear hsN hoN hBL hgl ht
    have cK : V2.cell? ⟨b, 0, none⟩ = some (.int .i64 y.kind) := hD.pg.c0
    have zK := hD.zf 0
    replace hD := hD.set0 t
    have hDz := hD
    obtain ⟨d0, d1, d2, d3, d4, z0, z1, z2, z3, z4⟩ := hDz.box
    obtain ⟨x0, x1, x2, x3, x4⟩ := id hDz.pg
    go_wp2
    exact bodyPost_ret (v := agTest ⟨t, y.score, y.quality, y.depth, y.hour⟩) (by simp [agTest, results, hit_cellX, d0, d1, d2, d3, d4, Tryz.results77, go_sem]) rfl ⟨_, rfl, by unfold SmTest at *; simp only; omega, ((hDz.fin (by (repeat (refine Below.setCell ?_ hDz.l1 _)); exact Below.refl _ _)).1).mono (by omega), (hDz.fin (by (repeat (refine Below.setCell ?_ hDz.l1 _)); exact Below.refl _ _)).2⟩
  · have e0 : (q == 0) = false := by rw [beq_eq_false_iff_ne]; exact h0
    by_cases h1 : q = 1
    · subst h1
      have hBL : Below V1.heap.size V1 (V1.alloc (.cells #[.int .i64 (-1), .int .i64 0, .int .i64 7, .int .i64 8, .int .i64 31, .int .i64 32] 2)) := (Below.refl _ _).alloc (Nat.le_refl _) _
      have hgl := hD.src.lt
      go_wp2_with fail
      refine (among_any _ g _ [-1, 0, 7, 8, 31, 32] [V1.heap.size] _ (hD.src.below hBL) (by omega) (slLitI V1 2 [-1, 0, 7, 8, 31, 32] _ rfl (by decide) (by decide) (by decide) _ _ rfl rfl) (by simp; omega) (by decide) (by decide)).mono ?_
      rintro e V2 ⟨t, ht, rfl, hsN, hoN⟩
      replace hD := (hD.grow hBL).next hoN hsN
      have htb : -1000000000 ≤ t ∧ t ≤ 1000000000 := by simp at ht; omega
      clear hsN hoN hBL hgl ht
      have cK : V2.cell? ⟨b, 1, none⟩ = some (.int .i64 y.score) := hD.pg.c1
      have zK := hD.zf 1
      replace hD := hD.set1 t
      have hDz := hD
      obtain ⟨d0, d1, d2, d3, d4, z0, z1, z2, z3, z4⟩ := hDz.box
      obtain ⟨x0, x1, x2, x3, x4⟩ := id hDz.pg
      go_wp2
      exact bodyPost_ret (v := agTest ⟨y.kind, t, y.quality, y.depth, y.hour⟩) (by simp [agTest, results, hit_cellX, d0, d1, d2, d3, d4, Tryz.results77, go_sem]) rfl ⟨_, rfl, by unfold SmTest at *; simp only; omega, ((hDz.fin (by (repeat (refine Below.setCell ?_ hDz.l1 _)); exact Below.refl _ _)).1).mono (by omega), (hDz.fin (by (repeat (refine Below.setCell ?_ hDz.l1 _)); exact Below.refl _ _)).2⟩
    · have e1 : (q == 1) = false := by rw [beq_eq_false_iff_ne]; exact h1
      by_cases h2 : q = 2
      · subst h2
        have hBL : Below V1.heap.size V1 (V1.alloc (.cells #[.int .i64 0, .int .i64 4] 2)) := (Below.refl _ _).alloc (Nat.le_refl _) _
        have hgl := hD.src.lt
        go_wp2_with fail
        refine (among_any _ g _ [0, 4] [V1.heap.size] _ (hD.src.below hBL) (by omega) (slLitI V1 2 [0, 4] _ rfl (by decide) (by decide) (by decide) _ _ rfl rfl) (by simp; omega) (by decide) (by decide)).mono ?_
        rintro e V2 ⟨t, ht, rfl, hsN, hoN⟩
        replace hD := (hD.grow hBL).next hoN hsN
        have htb : -1000000000 ≤ t ∧ t ≤ 1000000000 := by simp at ht; omega
        clear hsN hoN hBL hgl ht
        have cK : V2.cell? ⟨b, 2, none⟩ = some (.int .i64 y.quality) := hD.pg.c2
        have zK := hD.zf 2
        replace hD := hD.set2 t
        have hDz := hD
        obtain ⟨d0, d1, d2, d3, d4, z0, z1, z2, z3, z4⟩ := hDz.box
        obtain ⟨x0, x1, x2, x3, x4⟩ := id hDz.pg
        go_wp2
        exact bodyPost_ret (v := agTest ⟨y.kind, y.score, t, y.depth, y.hour⟩) (by simp [agTest, results, hit_cellX, d0, d1, d2, d3, d4, Tryz.results77, go_sem]) rfl ⟨_, rfl, by unfold SmTest at *; simp only; omega, ((hDz.fin (by (repeat (refine Below.setCell ?_ hDz.l1 _)); exact Below.refl _ _)).1).mono (by omega), (hDz.fin (by (repeat (refine Below.setCell ?_ hDz.l1 _)); exact Below.refl _ _)).2⟩
      · have e2 : (q == 2) = false := by rw [beq_eq_false_iff_ne]; exact h2
        by_cases h3 : q = 3
        · subst h3
          have hBL : Below V1.heap.size V1 (V1.alloc (.cells #[.int .i64 0, .int .i64 1, .int .i64 300, .int .i64 301] 2)) := (Below.refl _ _).alloc (Nat.le_refl _) _
          have hgl := hD.src.lt
          go_wp2_with fail
          refine (among_any _ g _ [0, 1, 300, 301] [V1.heap.size] _ (hD.src.below hBL) (by omega) (slLitI V1 2 [0, 1, 300, 301] _ rfl (by decide) (by decide) (by decide) _ _ rfl rfl) (by simp; omega) (by decide) (by decide)).mono ?_
          rintro e V2 ⟨t, ht, rfl, hsN, hoN⟩
          replace hD := (hD.grow hBL).next hoN hsN
          have htb : -1000000000 ≤ t ∧ t ≤ 1000000000 := by simp at ht; omega
          clear hsN hoN hBL hgl ht
          have cK : V2.cell? ⟨b, 3, none⟩ = some (.int .i64 y.depth) := hD.pg.c3
          have zK := hD.zf 3
          replace hD := hD.set3 t
          have hDz := hD
          obtain ⟨d0, d1, d2, d3, d4, z0, z1, z2, z3, z4⟩ := hDz.box
          obtain ⟨x0, x1, x2, x3, x4⟩ := id hDz.pg
          go_wp2
          exact bodyPost_ret (v := agTest ⟨y.kind, y.score, y.quality, t, y.hour⟩) (by simp [agTest, results, hit_cellX, d0, d1, d2, d3, d4, Tryz.results77, go_sem]) rfl ⟨_, rfl, by unfold SmTest at *; simp only; omega, ((hDz.fin (by (repeat (refine Below.setCell ?_ hDz.l1 _)); exact Below.refl _ _)).1).mono (by omega), (hDz.fin (by (repeat (refine Below.setCell ?_ hDz.l1 _)); exact Below.refl _ _)).2⟩
        · have e3 : (q == 3) = false := by rw [beq_eq_false_iff_ne]; exact h3
          by_cases h4 : q = 4
          · subst h4
            have hBL : Below V1.heap.size V1 (V1.alloc (.cells #[.int .i64 (-1), .int .i64 0, .int .i64 100000, .int .i64 100001] 2)) := (Below.refl _ _).alloc (Nat.le_refl _) _
            have hgl := hD.src.lt
            go_wp2_with fail
            refine (among_any _ g _ [-1, 0, 100000, 100001] [V1.heap.size] _ (hD.src.below hBL) (by omega) (slLitI V1 2 [-1, 0, 100000, 100001] _ rfl (by decide) (by decide) (by decide) _ _ rfl rfl) (by simp; omega) (by decide) (by decide)).mono ?_
            rintro e V2 ⟨t, ht, rfl, hsN, hoN⟩
            replace hD := (hD.grow hBL).next hoN hsN
            have htb : -1000000000 ≤ t ∧ t ≤ 1000000000 := by simp at ht; omega
            clear hsN hoN hBL hgl ht
            have cK : V2.cell? ⟨b, 4, none⟩ = some (.int .i64 y.hour) := hD.pg.c4
            have zK := hD.zf 4
            replace hD := hD.set4 t
            have hDz := hD
            obtain ⟨d0, d1, d2, d3, d4, z0, z1, z2, z3, z4⟩ := hDz.box
            obtain ⟨x0, x1, x2, x3, x4⟩ := id hDz.pg
            go_wp2
            exact bodyPost_ret (v := agTest ⟨y.kind, y.score, y.quality, y.depth, t⟩) (by simp [agTest, results, hit_cellX, d0, d1, d2, d3, d4, Tryz.results77, go_sem]) rfl ⟨_, rfl, by unfold SmTest at *; simp only; omega, ((hDz.fin (by (repeat (refine Below.setCell ?_ hDz.l1 _)); exact Below.refl _ _)).1).mono (by omega), (hDz.fin (by (repeat (refine Below.setCell ?_ hDz.l1 _)); exact Below.refl _ _)).2⟩
          · have e4 : (q == 4) = false := by rw [beq_eq_false_iff_ne]; exact h4
            have hDz := hD
            obtain ⟨d0, d1, d2, d3, d4, z0, z1, z2, z3, z4⟩ := hDz.box
            obtain ⟨x0, x1, x2, x3, x4⟩ := id hDz.pg
            go_wp2
            exact bodyPost_ret (v := agTest y) (by simp [agTest, results, hit_cellX, d0, d1, d2, d3, d4, Tryz.results77, go_sem]) rfl ⟨_, rfl, hy, ((hDz.fin (by (repeat (refine Below.setCell ?_ hDz.l1 _)); exact Below.refl _ _)).1).mono (by omega), (hDz.fin (by (repeat (refine Below.setCell ?_ hDz.l1 _)); exact Below.refl _ _)).2⟩

end Go.Proofs.YtfgmikgghpflbaaGreatDoor

namespace Go.Proofs.YtfgmikgghpflbaaGreatDoor
open Go.RowKit
set_option linter.unusedVariables false

theorem infoTestD : (Tryz.prog.info? 25).map (fun i => (i.zero, i.size, i.bytes)) = some (some (.agg #[.int .i64 0, .int .i64 0, .int .i64 0, .int .i64 0, .int .i64 0]), 5, 40) := by kernel_rfl
theorem testK (k : Nat) (h : k ≤ 100) : SmTest ⟨1 + (k : Int) % 2, 2 * ((k : Int) % 16), 2, 10 + (k : Int), k⟩ := by
  unfold SmTest; simp only; omega
set_option maxRecDepth 100000 in
set_option maxHeartbeats 8000000 in
theorem l08Draw_any (n g : Nat) (w : World) (hs : SrcD n g w) (hn : n ≤ 999999970000) :
    Calls Tryz.prog 84 #[.pointer (some ⟨g, 0, none⟩)] w fun e w' => ∃ (v : Value) (xs : List DTest) (fp : List Nat), e = .returned v ∧ Sl fTest.cod w' v xs fp ∧ (∀ b ∈ fp, w.heap.size ≤ b) ∧ fp.Nodup ∧ (∀ x ∈ xs, SmTest x) ∧ xs.length ≤ 70 ∧ SrcD (n + 1000) g w' ∧ Only [g] w w' := by
  have hg := hs.lt
  obtain ⟨i0, hi, hz0, hz1, hz2⟩ := info_parts infoTestD
  have hB0 : Below w.heap.size w (w.alloc (.cells #[] 25)) := (Below.refl _ _).alloc (Nat.le_refl _) _
  go_enter Tryz.func84, Tryz.ntmps84
  go_wp2_with fail
  refine (pick_any _ g 10 _ (hs.below hB0) (by omega) (by omega)).mono ?_
  rintro e w1 ⟨h0, rfl, ⟨h00, h01, _⟩, hs1, ho1⟩
  replace h01 := h01 (by omega)
  have hown : Own fTest w1 w.heap.size 25 (.slice (some ⟨w.heap.size, 0, none⟩) 0 0) [] := (Own.lit0 fTest w _).only ho1 (fun b hb => by simp at hb; subst hb; exact hg)
  have hO1 : Only [g] w w1 := Only.later hB0 ho1
  clear hB0 ho1 hs
  go_wp2_with fail
  refine (pick_any _ g 9 _ hs1 (by omega) (by omega)).mono ?_
  rintro e w2 ⟨q, rfl, ⟨q0, q1, _⟩, hs2, ho2⟩
  replace q1 := q1 (by omega)
  obtain ⟨j0, rfl⟩ : ∃ j : Nat, q = j := ⟨q.toNat, by omega⟩
  replace hown := hown.only ho2 (fun b hb => by simp at hb; subst hb; exact hg)
  replace hO1 := hO1.trans ho2
  clear ho2 hs1
  go_wp2
  go_loopw [3, 4, 5] (fun v hv kv wr => ∃ (j : Nat) (L : List DTest) (h : Int), kv = .int .i64 j ∧ j + L.length ≤ 8 ∧ hv = .int .i64 h ∧ Hid (0 ≤ h ∧ h ≤ 10 + 8 * (L.length : Int)) ∧ Own fTest wr w.heap.size 25 v L ∧ (∀ x ∈ L, SmTest x) ∧ SrcD (n + 4 + 30 * L.length) g wr ∧ Only [g] w wr) (fun _ _ kv _ => (intOf kv).toNat)
  case atStart => exact ⟨j0, [], h0, rfl, by rw [List.length_nil]; omega, rfl, Lib.hid ⟨h00, by rw [List.length_nil]; omega⟩, hown, by simp, hs2, hO1⟩
  case round =>
    clear hown hs2 hO1 q0 q1 h00 h01
    obtain ⟨j, L, h, rfl, hj, rfl, HH, ho, hsm, hsr, hor⟩ := hrel
    cases j with
    | zero =>
      go_wp2_with fail
      refine (pick_any _ g 20 _ hsr (by omega) (by omega)).mono ?_
      rintro e w3 ⟨q, rfl, ⟨q0, q1, _⟩, hs3, ho3⟩
      replace q1 := q1 (by omega)
      replace hor := hor.trans ho3
      replace ho := ho.only ho3 (fun b hb => by simp at hb; subst hb; exact hg)
      clear ho3 hsr
      by_cases hq0 : q = 0
      · subst hq0
        go_wp2_with fail
        refine (l08DrawOne_any _ g _ hs3 (by omega)).mono ?_
        rintro e w4 ⟨x0, rfl, hx0, hs4, ho4⟩
        go_wp2_with fail
        refine (l08Bend_any _ g x0 _ hs4 (by omega) hx0).mono ?_
        rintro e w5 ⟨x, rfl, hx, hs5, ho5⟩
        have hor2 := hor.trans (ho4.trans ho5)
        have hsz2 := hor2.size
        have hoW : w5.ownsRow w.heap.size 25 5 u3 L.length (L.flatMap fTest.enc) := (ho.only ho4 (fun b hb => by simp at hb; subst hb; exact hg)).only ho5 (fun b hb => by simp at hb; subst hb; exact hg)
        clear ho hor ho4 ho5 hs4
        unfold agTest
        go_wp2_with (at_builtin; refine wpList_append_one rfl _ _ 32 rfl w.heap.size 25 i0 (.agg #[.int .i64 0, .int .i64 0, .int .i64 0, .int .i64 0, .int .i64 0]) 5 40 Tryz.underlying32 hi hz0 hz1 hz2 rfl (by decide) u3 L.length _ rfl hoW [.int .i64 x.kind, .int .i64 x.score, .int .i64 x.quality, .int .i64 x.depth, .int .i64 x.hour] rfl (by intro u hu; simp at hu; rcases hu with rfl | rfl | rfl | rfl | rfl <;> rfl) rfl (by omega) (by decide) hsz2 ?_)
        intro v' u hown hbu _ _
        have hoD : Own fTest u w.heap.size 25 v' (L ++ [x]) := Own.push _ (by omega) hown
        clear hown
        go_wp2
        go_ret
        obtain ⟨fp, hsl, hlo, hnd⟩ := Sl.of_own (n := (L ++ [x]).length) rfl hoD (fun y hy => by
          rcases List.mem_append.1 hy with hy | hy
          · exact (hsm y hy).ok
          · rw [List.mem_singleton] at hy; subst hy; exact hx.ok)
        exact ⟨_, _, fp, rfl, hsl, hlo, hnd, fun y hy => by
          rcases List.mem_append.1 hy with hy | hy
          · exact hsm y hy
          · rw [List.mem_singleton] at hy; subst hy; exact hx, by rw [List.length_append, List.length_singleton]; omega, (hs5.belowB hbu hg).mono (by omega), hor2.then hbu⟩
      · have e0 : (q == 0) = false := by rw [beq_eq_false_iff_ne]; exact hq0
        by_cases hq1 : q = 1
        · subst hq1
          have hBL : Below w3.heap.size w3 (w3.alloc (.cells #[.int .i64 16, .int .i64 17] 2)) := (Below.refl _ _).alloc (Nat.le_refl _) _
          have hgl := hs3.lt
          go_wp2_with fail
          refine (among_any _ g _ [16, 17] [w3.heap.size] _ (hs3.below hBL) (by omega) (slLitI w3 2 [16, 17] _ rfl (by decide) (by decide) (by decide) _ _ rfl rfl) (by simp; omega) (by decide) (by decide)).mono ?_
          rintro e w4 ⟨t, ht, rfl, hs4, ho4⟩
          have hor2 := hor.trans (Only.later hBL ho4)
          have hsz2 := hor2.size
          clear hBL hgl hor ho hs3 ho4
          obtain ⟨M, rfl⟩ : ∃ M : Nat, t = M := ⟨t.toNat, by simp at ht; omega⟩
          have hM : M ≤ 17 := by simp at ht; omega
          have hown : Own fTest (w4.alloc (.cells #[] 25)) w.heap.size 25 (.slice (some ⟨w4.heap.size, 0, none⟩) 0 0) [] := Own.lit0m fTest hsz2
          have hB4 : Below w4.heap.size w4 (w4.alloc (.cells #[] 25)) := (Below.refl _ _).alloc (Nat.le_refl _) _
          replace hor2 := hor2.then (hB4.mono hsz2)
          replace hs4 := hs4.below hB4
          clear hB4 ht hsm hsz2
          go_wp2
          rename World => wo
          go_loopw [3, 8] (fun v kv wr => ∃ (k : Nat) (X : List DTest), kv = .int .i64 k ∧ k ≤ M ∧ X.length = k ∧ Own fTest wr w.heap.size 25 v X ∧ (∀ x ∈ X, SmTest x) ∧ SrcD (n + 400) g wr ∧ Only [g] w wr) (fun _ kv _ => M - (intOf kv).toNat)
          case atStart => exact ⟨0, [], rfl, Nat.zero_le _, rfl, hown, by simp, hs4.mono (by omega), hor2⟩
          case round =>
            clear hown hs4 hor2
            obtain ⟨k, X, rfl, hk, hX, ho, hsm, hsr, hor⟩ := hrel
            by_cases hlt : k < M
            · have hsz2 := hor.size
              have hsmk := Lib.hid (testK k (by omega))
              have hk100 : k ≤ 100 := by omega
              have hoW : wr.ownsRow w.heap.size 25 5 u3 X.length (X.flatMap fTest.enc) := ho
              clear ho
              go_wp2_with (at_builtin; refine wpList_append_one rfl _ _ 32 rfl w.heap.size 25 i0 (.agg #[.int .i64 0, .int .i64 0, .int .i64 0, .int .i64 0, .int .i64 0]) 5 40 Tryz.underlying32 hi hz0 hz1 hz2 rfl (by decide) u3 X.length _ rfl hoW [.int .i64 (1 + (k : Int) % 2), .int .i64 (2 * ((k : Int) % 16)), .int .i64 2, .int .i64 (10 + (k : Int)), .int .i64 k] rfl (by intro u hu; simp at hu; rcases hu with rfl | rfl | rfl | rfl | rfl <;> rfl) rfl (by omega) (by decide) hsz2 ?_)
              intro v' u hown hbu _ _
              have hoD : Own fTest u w.heap.size 25 v' (X ++ [⟨1 + (k : Int) % 2, 2 * ((k : Int) % 16), 2, 10 + (k : Int), k⟩]) := Own.push _ (by omega) hown
              clear hown
              have hs5 := hsr.belowB hbu hg
              have hor5 := hor.then hbu
              go_wp2
              go_roundw
              case rel => exact ⟨k + 1, _, by go_num, by omega, by rw [List.length_append, hX, List.length_singleton], hoD, fun y hy => by
                rcases List.mem_append.1 hy with hy | hy
                · exact hsm y hy
                · rw [List.mem_singleton] at hy; subst hy; exact hsmk.out, hs5, hor5⟩
              case measure => simp [intOf]; omega
            · obtain ⟨fp, hsl, hlo, hnd⟩ := Sl.of_own (n := X.length) rfl ho (fun y hy => (hsm y hy).ok)
              go_wp2
              go_ret
              exact ⟨_, _, fp, rfl, hsl, hlo, hnd, hsm, by omega, hsr.mono (by omega), hor⟩
        · have e1 : (q == 1) = false := by rw [beq_eq_false_iff_ne]; exact hq1
          obtain ⟨fp, hsl, hlo, hnd⟩ := Sl.of_own (n := L.length) rfl ho (fun y hy => (hsm y hy).ok)
          go_wp2
          go_ret
          exact ⟨_, _, fp, rfl, hsl, hlo, hnd, hsm, by omega, hs3.mono (by omega), hor⟩
    | succ j =>
      go_wp2_with fail
      refine (l08DrawOne_any _ g _ hsr (by omega)).mono ?_
      rintro e w3 ⟨x, rfl, hx, hs3, ho3⟩
      have hB3 : Below w3.heap.size w3 (w3.alloc (.cells #[.int .i64 x.kind, .int .i64 x.score, .int .i64 x.quality, .int .i64 x.depth, .int .i64 h] 25)) := (Below.refl _ _).alloc (Nat.le_refl _) _
      have hp := PTest.box w3 ⟨x.kind, x.score, x.quality, x.depth, h⟩ 25
      have hg3 : g < w3.heap.size := hs3.lt
      unfold agTest
      go_wp2_with fail
      refine (pick_any _ g 8 _ (hs3.below hB3) (by omega) (by omega)).mono ?_
      rintro e w4 ⟨q, rfl, ⟨q0, q1, _⟩, hs4, ho4⟩
      replace q1 := q1 (by omega)
      have hp4 : PTest w4 w3.heap.size 0 ⟨x.kind, x.score, x.quality, x.depth, h⟩ := hp.keepB (ho4.block w3.heap.size hp.lt (by simp; omega))
      have hO4 := (ho3.trans (Only.of_below hB3)).trans ho4
      have hor4 := hor.trans hO4
      have hsz2 := hor4.size
      have hoW : w4.ownsRow w.heap.size 25 5 u3 L.length (L.flatMap fTest.enc) := ho.only hO4 (fun b hb => by simp at hb; subst hb; exact hg)
      have hh := HH.out
      have hx5 : SmTest ⟨x.kind, x.score, x.quality, x.depth, h⟩ := by unfold SmTest at *; simp only; omega
      replace hx5 := Lib.hid hx5
      clear hp hB3 ho3 ho4 hO4 ho hs3 hsr hor hx
      obtain ⟨x0, x1, x2, x3, x4⟩ := hp4
      go_wp2_with (at_builtin; refine wpList_append_one rfl _ _ 32 rfl w.heap.size 25 i0 (.agg #[.int .i64 0, .int .i64 0, .int .i64 0, .int .i64 0, .int .i64 0]) 5 40 Tryz.underlying32 hi hz0 hz1 hz2 rfl (by decide) u3 L.length _ rfl hoW [.int .i64 x.kind, .int .i64 x.score, .int .i64 x.quality, .int .i64 x.depth, .int .i64 h] rfl (by intro u hu; simp at hu; rcases hu with rfl | rfl | rfl | rfl | rfl <;> rfl) rfl (by omega) (by decide) hsz2 ?_)
      intro v' u hown hbu _ _
      have hoD : Own fTest u w.heap.size 25 v' (L ++ [⟨x.kind, x.score, x.quality, x.depth, h⟩]) := Own.push _ (by omega) hown
      clear hown
      have hs5 := hs4.belowB hbu hg
      have hor5 := hor4.then hbu
      clear hbu hs4 hor4 x0 x1 x2 x3 x4 hoW
      go_wp2
      go_roundw
      case rel => exact ⟨j, _, h + q, by go_num, by rw [List.length_append, List.length_singleton]; omega, rfl, Lib.hid ⟨by omega, by rw [List.length_append, List.length_singleton]; omega⟩, hoD, fun y hy => by
          rcases List.mem_append.1 hy with hy | hy
          · exact hsm y hy
          · rw [List.mem_singleton] at hy; subst hy; exact hx5.out, hs5.mono (by rw [List.length_append, List.length_singleton]; omega), hor5⟩
      case measure => simp [intOf]

end Go.Proofs.YtfgmikgghpflbaaGreatDoor

namespace Go.Proofs.YtfgmikgghpflbaaGreatDoor
open Go.RowKit
section
variable {P : Program} {ops : Array Oper} {Q : Exit → Act → World → Prop} {md : Region.Mode} {C : World → Prop}

def mixF (md : Region.Mode) (ops : Array Oper) (i : Nat) (is1 : List Nat) (ks1 : List Bool) (j : Nat) (is2 : List Nat) (ks2 : List Bool) : List Nat → Array Bool → Bool
  | [], listed => (Region.ready md ops listed == [i, j]) && mixB md ops is1 ks1 (listed.setIfInBounds i true) && mixB md ops is2 ks2 (listed.setIfInBounds j true)
  | p :: ps, listed => (Region.ready md ops listed).contains p && Region.free md ops listed p && ((ops[p]?).map valueOnly).getD false && mixF md ops i is1 ks1 j is2 ks2 ps (listed.setIfInBounds p true)
def wpFork (P : Program) (ops : Array Oper) (Q : Exit → Act → World → Prop) (C : World → Prop) (ks1 : List Bool) (l1 : List Oper) (ks2 : List Bool) (l2 : List Oper) : List Oper → Act → World → Prop
  | [], a, w => wpMix P ops Q C (false :: ks1) l1 a w ∧ wpMix P ops Q C (false :: ks2) l2 a w
  | o :: lp, a, w => if Region.wanted o (yielded ops a.tmps) then o.quiet P a C (fun a' => wpFork P ops Q C ks1 l1 ks2 l2 lp a' w) else wpFork P ops Q C ks1 l1 ks2 l2 lp (a.put o.dst undef) w

theorem wpOp_of_mix (hs : Region.noSelect ops = true) (hQ : ∀ (c : _) (a : Act) (d : Option Tmp) (v : Value) (w : World), Q (.panic c) (a.put d v) w → Q (.panic c) a w)
    {i : Nat} {is : List Nat} {ks : List Bool} {listed : Array Bool} {a : Act} {w : World} (hi : i < ops.size) (his : ∀ x ∈ is, x < ops.size) (hB : mixB md ops is ks (listed.setIfInBounds i true) = true) (hC : C w)
    (h : wpMix P ops Q C (false :: ks) ((i :: is).map fun i => ops.getD i default) a w) :
    wpOp P ops Q i (fun a' w' => C w' ∧ wpAnyH P md ops Q C is.length (listed.setIfInBounds i true) a' w') a w := by
  have ho : ops[i]? = some (ops.getD i default) := by simp [hi]
  have hl : ∀ j : Nat, (is.map fun i => ops.getD i default)[j]? = (is[j]?).bind (fun i => ops[i]?) := fun j => by
    rw [List.getElem?_map]
    cases hj : is[j]? with
    | none => rfl
    | some x => have := his x (List.mem_of_getElem? hj); simp [this]
  rw [List.map_cons] at h
  simp only [wpMix] at h
  unfold wpOp
  simp only [ho]
  by_cases hw : Region.wanted (ops.getD i default) (yielded ops a.tmps) = true
  · rw [if_pos hw] at h ⊢
    exact .inl (Oper.wp_mono (fun a' w' hh => ⟨hh.1, wpAnyH_of_mix hs hQ is ks _ _ a' w' hl (by simp) hB hh.1 hh.2⟩) h)
  · rw [if_neg hw] at h ⊢
    exact ⟨hC, wpAnyH_of_mix hs hQ is ks _ _ _ w hl (by simp) hB hC h⟩

theorem wpAnyH_of_fork (hs : Region.noSelect ops = true) (hQ : ∀ (c : _) (a : Act) (d : Option Tmp) (v : Value) (w : World), Q (.panic c) (a.put d v) w → Q (.panic c) a w)
    {i : Nat} {is1 : List Nat} {ks1 : List Bool} {j : Nat} {is2 : List Nat} {ks2 : List Bool} (hi : i < ops.size) (hj : j < ops.size) (h1 : ∀ x ∈ is1, x < ops.size) (h2 : ∀ x ∈ is2, x < ops.size) (hlen : is1.length = is2.length) :
    ∀ (ps : List Nat) (listed : Array Bool) (a : Act) (w : World), (∀ x ∈ ps, x < ops.size) → mixF md ops i is1 ks1 j is2 ks2 ps listed = true → C w →
      wpFork P ops Q C ks1 ((i :: is1).map fun i => ops.getD i default) ks2 ((j :: is2).map fun i => ops.getD i default) (ps.map fun i => ops.getD i default) a w → wpAnyH P md ops Q C (ps.length + (is1.length + 1)) listed a w := by
  intro ps
  induction ps with
  | nil =>
    intro listed a w _ hB hC h
    simp only [mixF, Bool.and_eq_true, beq_iff_eq] at hB
    obtain ⟨⟨hr, hb1⟩, hb2⟩ := hB
    simp only [List.map_nil, wpFork] at h
    rw [List.length_nil, Nat.zero_add]
    refine wpAnyH_all hr (by simp) (fun x hx => ?_)
    rcases List.mem_cons.1 hx with rfl | hx
    · exact wpOp_of_mix hs hQ hi h1 hb1 hC h.1
    · rw [List.mem_singleton] at hx; subst hx
      rw [hlen]
      exact wpOp_of_mix hs hQ hj h2 hb2 hC h.2
  | cons p ps ih =>
    intro listed a w hps hB hC h
    have hp : p < ops.size := hps p (by simp)
    have ho : ops[p]? = some (ops.getD p default) := by simp [hp]
    simp only [mixF, Bool.and_eq_true, ho, Option.map_some, Option.getD_some] at hB
    obtain ⟨⟨⟨hr, hf⟩, hv⟩, hB'⟩ := hB
    rw [show ((p :: ps).map fun i => ops.getD i default) = ops.getD p default :: ps.map (fun i => ops.getD i default) from rfl] at h
    simp only [wpFork] at h
    rw [List.length_cons, show ps.length + 1 + (is1.length + 1) = (ps.length + (is1.length + 1)) + 1 by omega]
    by_cases hw : Region.wanted (ops.getD p default) (yielded ops a.tmps) = true
    · rw [if_pos hw] at h
      obtain ⟨v, q1, q2⟩ := yieldsIf_of_quiet hv h
      exact wpAnyH_take ho hs hf hr (fun c a w => hQ c a _ _ w) (.inl ⟨hw, q1⟩) hC (ih _ _ w (fun x hx => hps x (by simp [hx])) hB' hC q2)
    · rw [if_neg hw] at h
      exact wpAnyH_take ho hs hf hr (fun c a w => hQ c a _ _ w) (.inr ⟨by simpa using hw, rfl⟩) hC (ih _ _ w (fun x hx => hps x (by simp [hx])) hB' hC h)

structure Fork (P : Program) (ops : Array Oper) (Q : Exit → Act → World → Prop) (C : World → Prop) (ks1 : List Bool) (l1 : List Oper) (ks2 : List Bool) (l2 : List Oper) (lp : List Oper) (a : Act) (w : World) : Prop where
  out : wpFork P ops Q C ks1 l1 ks2 l2 lp a w
theorem wp_region_fork {id : Nat} {l : List Oper} {a : Act} {w : World} (ps : List Nat) (i : Nat) (is1 : List Nat) (ks1 : List Bool) (j : Nat) (is2 : List Nat) (ks2 : List Bool) (hm : P.follows .mixedOrders = true) (hs : Region.noSelect l.toArray = true)
    (hB : (((i :: j :: (ps ++ is1 ++ is2)).all (fun x => decide (x < l.length))) && decide (is1.length = is2.length) && decide (ps.length + (is1.length + 1) = l.length) && mixF .any l.toArray i is1 ks1 j is2 ks2 ps (Array.replicate l.length false)) = true)
    (hQ : ∀ (c : _) (a : Act) (d : Option Tmp) (v : Value) (w : World), Q (.panic c) (a.put d v) w → Q (.panic c) a w) (hC : C w.drew)
    (h : Fork P l.toArray Q C ks1 ((i :: is1).map fun i => l.getD i default) ks2 ((j :: is2).map fun i => l.getD i default) (ps.map fun i => l.getD i default) a w.drew) : (Code.region id l.toArray true).wp P Q a w := by
  simp only [Bool.and_eq_true, decide_eq_true_eq, List.all_eq_true] at hB
  obtain ⟨⟨⟨h1, h2⟩, h3⟩, h4⟩ := hB
  refine wp_region_held (S := C) hm ?_
  have hg : (fun i => l.toArray.getD i default) = (fun i => l.getD i default) := by funext x; simp [Array.getD_eq_getD_getElem?, List.getD_eq_getElem?_getD]
  have := wpAnyH_of_fork (md := .any) (ops := l.toArray) hs hQ (i := i) (is1 := is1) (ks1 := ks1) (j := j) (is2 := is2) (ks2 := ks2) (by simpa using h1 i (by simp)) (by simpa using h1 j (by simp))
    (fun x hx => by simpa using h1 x (by simp [hx])) (fun x hx => by simpa using h1 x (by simp [hx])) h2 ps (Array.replicate l.length false) a w.drew (fun x hx => by simpa using h1 x (by simp [hx])) h4 hC (by rw [hg]; exact h.out)
  rw [h3] at this
  simpa using this
theorem wpFork_pure {ks1 ks2 : List Bool} {l1 l2 : List Oper} {o : Oper} {l : List Oper} {a : Act} {w : World} (hw : Region.wanted o (yielded ops a.tmps) = true)
    (h : ∀ K : Act → Prop, (∀ a', Fork P ops Q C ks1 l1 ks2 l2 l a' w → K a') → o.quiet P a C K) : Fork P ops Q C ks1 l1 ks2 l2 (o :: l) a w := by
  refine ⟨?_⟩
  simp only [wpFork]; rw [if_pos hw]; exact h _ fun _ h => h.out
theorem wpFork_split {ks1 ks2 : List Bool} {l1 l2 : List Oper} {a : Act} {w : World} (h1 : Mix P ops Q C (false :: ks1) l1 a w) (h2 : Mix P ops Q C (false :: ks2) l2 a w) : Fork P ops Q C ks1 l1 ks2 l2 [] a w := ⟨⟨h1.out, h2.out⟩⟩
end
end Go.Proofs.YtfgmikgghpflbaaGreatDoor

namespace Go.Proofs.YtfgmikgghpflbaaGreatDoor
open Go.RowKit
set_option linter.unusedVariables false

theorem mean_rec {xs : List DTest} {h d : Int} (hc : recC xs h d ≠ 0) : meanC xs h d = recC xs h d ∧ meanF xs h d = 0 := by
  have e : meanC xs h d = recC xs h d := by unfold meanC; rw [if_neg hc]
  exact ⟨e, by unfold meanF; rw [e, if_neg hc]⟩
theorem mean_nil {xs : List DTest} {h d : Int} (hc : recC xs h d = 0) (hl : (recF xs h d).length = 0) : meanC xs h d = 3 ∧ meanF xs h d = 0 := by
  have e : meanC xs h d = 3 := by unfold meanC; rw [if_pos hc, if_pos hl]
  exact ⟨e, by unfold meanF; rw [e]; rfl⟩
theorem mean_zero {xs : List DTest} {h d : Int} (hc : recC xs h d = 0) (hl : ¬ (recF xs h d).length = 0) : meanC xs h d = 0 := by unfold meanC; rw [if_pos hc, if_neg hl]
set_option maxRecDepth 100000 in
set_option maxHeartbeats 4000000 in
theorem MeanClass_any (v : Value) (xs : List DTest) (fp : List Nat) (h d : Int) (w : World) (hx : Sl fTest.cod w v xs fp) :
    Calls Tryz.prog 15 #[v, .int .i64 h, .int .i64 d] w fun e w' => e = .returned (.tuple #[.int .i64 (meanF xs h d), .int .i64 (meanC xs h d)]) ∧ Below w.heap.size w w' := by
  obtain ⟨A, cap, rfl, hlen, hcap⟩ := hx.form
  go_enter Tryz.func15, Tryz.ntmps15
  go_wp2_with fail
  refine (RecentTests_any _ xs fp h d _ hx).mono ?_
  rintro e w1 ⟨y, rfl, ⟨⟨fr, hr, _, _⟩, hb1⟩⟩
  have hx1 := hx.below' hb1
  obtain ⟨Ar, cr, rfl, _, _⟩ := hr.form
  by_cases hc : recC xs h d = 0
  · by_cases hl : (recF xs h d).length = 0
    · have HE := Lib.hid (mean_nil hc hl)
      have hnil := List.eq_nil_of_length_eq_zero hl
      rw [hc, hnil]
      clear hc hl hr hnil
      go_wp2
      go_ret2
      exact ⟨by rw [HE.out.1, HE.out.2]; rfl, hb1⟩
    · have HZ := mean_zero hc hl
      obtain ⟨_, HM⟩ := mean_of HZ
      have HE := Lib.hid HZ
      have hmem := HM.mem
      have hval := Lib.hid HM.mean
      have hok := HM.ok
      have hlen16 := testsB_len hok
      have hle := HM.le
      have hpos := HM.pos
      rw [hc]
      clear hc HZ HM
      generalize recF xs h d = L at *
      have e0 : ((L.length : Int) == 0) = false := by rw [beq_eq_false_iff_ne]; omega
      clear hl
      go_wp2
      go_loopw [10, 30] (fun t i wr => ∃ k : Nat, k ≤ L.length ∧ i = .int .i64 k ∧ t = .int .i64 (sumI xs L k) ∧ Below w1.heap.size w1 wr) (fun _ i _ => L.length - (intOf i).toNat)
      case atStart => exact ⟨0, Nat.zero_le _, rfl, rfl, Below.refl _ _⟩
      case round =>
        obtain ⟨k, hk, rfl, rfl, hb⟩ := hrel
        have hin := sumI_in xs L k hk
        by_cases hlt : k < L.length
        · obtain ⟨b, off, rfl, _, _, hcL, _⟩ := (hr.below' hb).cell1 rfl hlt rfl
          obtain ⟨m, hm, hml, _⟩ := hmem _ (List.getElem_mem hlt)
          have HS : Hid (sumI xs L (k + 1) = sumI xs L k + clsF xs[m]) := by
            show _ = _
            rw [sumI_step hlt, hm, show ((m : Int)).toNat = m from rfl, getD_of_lt hml]
          rw [hm] at hcL
          have hvm := testsB_one hok hml
          obtain ⟨b2, off2, rfl, _, _, hp⟩ := PTest.elem (hx1.below' hb) hml
          obtain ⟨c0, c1, c2, c3, c4⟩ := id hp
          have hml16 : m < 16 := by omega
          have hci := clsF_in xs[m]
          clear hm
          replace hcL : wr.cell? ⟨b, off + k, none⟩ = some (.int .i64 (m : Int)) := hcL
          go_wp2_with fail
          refine (class_any xs[m] _ hvm).mono ?_
          rintro e w3 ⟨rfl, hb3⟩
          have hb4 := hb.trans (hb3.mono hb.size)
          generalize sumI xs L k = S0 at *
          generalize clsF xs[m] = C0 at *
          clear c0 c1 c2 c3 c4 hp hcL hb3
          go_wp2
          go_roundw
          case rel => exact ⟨k + 1, by omega, by go_num, by rw [HS.out], hb4⟩
          case measure => simp [intOf]; omega
        · obtain rfl : k = L.length := by omega
          go_wp2_with fail
          refine (divRound_any _ _ _ (by omega) (by omega)).mono ?_
          rintro e w3 ⟨rfl, hb3⟩
          go_wp2
          go_ret2
          exact ⟨by rw [HE.out, hval.out]; rfl, hb1.trans ((hb.trans (hb3.mono hb.size)).mono hb1.size)⟩
  · have HE := Lib.hid (mean_rec hc)
    have e1 : (recC xs h d != 0) = true := by simp [hc]
    generalize recC xs h d = rc at *
    clear hc
    go_wp2
    go_ret2
    exact ⟨by rw [HE.out.1, HE.out.2]; rfl, hb1⟩
def nameT (k : Int) : ByteArray := if k = 1 then ⟨#[99, 111, 108, 117, 109, 110]⟩ else if k = 2 then ⟨#[101, 120, 116, 101, 110, 100, 101, 100]⟩ else if k = 3 then ⟨#[98, 108, 111, 99, 107]⟩ else ⟨#[]⟩
theorem nameT_size (k : Int) : (nameT k).size ≤ 8 := by unfold nameT; (repeat' split) <;> decide
theorem nameT_noblank (k : Int) : ∀ b ∈ (nameT k).data.toList, b ≠ 32 := by unfold nameT; (repeat' split) <;> decide
theorem nameT_beq {a b : Int} (ha : a = 1 ∨ a = 2 ∨ a = 3) (hb : b = 1 ∨ b = 2 ∨ b = 3) : ((nameT a).toList == (nameT b).toList) = decide (a = b) := by
  rcases ha with rfl | rfl | rfl <;> rcases hb with rfl | rfl | rfl <;> simp [nameT, ByteArray.toList_eq]
set_option maxRecDepth 100000 in
set_option maxHeartbeats 400000 in
theorem TestName_any (k : Int) (w : World) : Calls Tryz.prog 82 #[.int .i64 k] w fun e w' => e = .returned (.string (nameT k)) ∧ w = w' := by
  by_cases h1 : k = 1
  · subst h1
    go_enter Tryz.func82, Tryz.ntmps82
    go_wp2
    go_ret
    exact ⟨rfl, rfl⟩
  · have e1 : (k == 1) = false := by rw [beq_eq_false_iff_ne]; exact h1
    by_cases h2 : k = 2
    · subst h2
      go_enter Tryz.func82, Tryz.ntmps82
      go_wp2
      go_ret
      exact ⟨rfl, rfl⟩
    · have e2 : (k == 2) = false := by rw [beq_eq_false_iff_ne]; exact h2
      by_cases h3 : k = 3
      · subst h3
        go_enter Tryz.func82, Tryz.ntmps82
        go_wp2
        go_ret
        exact ⟨rfl, rfl⟩
      · have e3 : (k == 3) = false := by rw [beq_eq_false_iff_ne]; exact h3
        have HN : Hid (nameT k = ⟨#[]⟩) := by show _ = _; unfold nameT; rw [if_neg h1, if_neg h2, if_neg h3]
        clear h1 h2 h3
        go_enter Tryz.func82, Tryz.ntmps82
        go_wp2
        go_ret
        exact ⟨ret_str HN.out.symm, rfl⟩
def testT (x : DTest) : ByteArray := widT (nameT x.kind) [x.score, x.quality, x.depth, x.hour]
theorem test_fits {x : DTest} (h : testB x = true) : fitsL [x.score, x.quality, x.depth, x.hour] = true := by
  obtain ⟨_, h1, h2, h3, h4⟩ := testB_parts h
  refine fitsL_of (by show 4 ≤ 64; decide) (fun y hy => ?_)
  simp only [List.mem_cons, List.not_mem_nil, or_false] at hy
  omega
set_option maxRecDepth 100000 in
set_option maxHeartbeats 4000000 in
theorem TestText_any (x : DTest) (w : World) (hv : testB x = true) (hok : fTest.ok x) (ht : Tab10 w) :
    Calls Tryz.prog 13 #[.agg #[.int .i64 x.kind, .int .i64 x.score, .int .i64 x.quality, .int .i64 x.depth, .int .i64 x.hour]] w fun e w' => e = .returned (.string (testT x)) ∧ Below w.heap.size w w' := by
  have hp := PTest.box w x 25
  have hB0 : Below w.heap.size w (w.alloc (.cells #[.int .i64 x.kind, .int .i64 x.score, .int .i64 x.quality, .int .i64 x.depth, .int .i64 x.hour] 25)) := (Below.refl _ _).alloc (Nat.le_refl _) _
  have hl4 : Hid (∀ y ∈ [x.score, x.quality, x.depth, x.hour], fInt.ok y) := fun y hy => by
    obtain ⟨o0, o1, o2, o3, o4⟩ := hok
    simp only [List.mem_cons, List.not_mem_nil, or_false] at hy
    rcases hy with rfl | rfl | rfl | rfl <;> assumption
  have hns := nameT_size x.kind
  have HT := Lib.hid (show testT x = nameT x.kind ++ ⟨#[32]⟩ ++ listT [x.score, x.quality, x.depth, x.hour] from rfl)
  generalize testT x = R at *
  go_enter Tryz.func13, Tryz.ntmps13
  go_wp2_with fail
  refine (validTest_any x _ hok).mono ?_
  rintro e w1 ⟨rfl, hb1⟩
  rw [hv]
  have hp1 := hp.below' hb1
  have hB1 := hB0.trans (hb1.mono hB0.size)
  have ht1 := ht.below hB1
  obtain ⟨c0, c1, c2, c3, c4⟩ := hp1
  clear hp hb1 hB0 hv hok
  go_wp2
  have gc0 := cell_regrown c0
  have gc1 := cell_regrown c1
  have gc2 := cell_regrown c2
  have gc3 := cell_regrown c3
  have gc4 := cell_regrown c4
  refine wp_region_fork (C := fun w' => ∃ p : Regrown, w' = Go.Sort.grow (redrawn w1 p.d) p.os) [0, 1, 3, 4, 5, 6, 7, 8, 9, 10] 2 [11, 12, 13] [false, false, true] 11 [2, 12, 13] [false, false, true] (by kernel_rfl) (by kernel_rfl) (by kernel_rfl) (fun _ _ d _ _ h => by cases d <;> exact h) (regrown_of_below (Below.drew (Below.refl _ _))) ?_
  simp only [List.map_cons, List.map_nil, List.getD_cons_zero, List.getD_cons_succ]
  have hS0 : Below (w1.heap.size) w1 w1.drew := Below.drew (Below.refl _ _)
  refine wpFork_pure (by kernel_rfl) (fun K hK => ?_)
  go_big_quiet_op
  refine hK _ ?_; clear hK K
  refine wpFork_pure (by kernel_rfl) (fun K hK => ?_)
  go_big_quiet_op
  refine hK _ ?_; clear hK K
  refine wpFork_pure (by kernel_rfl) (fun K hK => ?_)
  go_big_quiet_op
  refine hK _ ?_; clear hK K
  refine wpFork_pure (by kernel_rfl) (fun K hK => ?_)
  go_big_quiet_op
  refine hK _ ?_; clear hK K
  refine wpFork_pure (by kernel_rfl) (fun K hK => ?_)
  go_big_quiet_op
  refine hK _ ?_; clear hK K
  refine wpFork_pure (by kernel_rfl) (fun K hK => ?_)
  go_big_quiet_op
  refine hK _ ?_; clear hK K
  refine wpFork_pure (by kernel_rfl) (fun K hK => ?_)
  go_big_quiet_op
  refine hK _ ?_; clear hK K
  refine wpFork_pure (by kernel_rfl) (fun K hK => ?_)
  go_big_quiet_op
  refine hK _ ?_; clear hK K
  refine wpFork_pure (by kernel_rfl) (fun K hK => ?_)
  go_big_quiet_op
  refine hK _ ?_; clear hK K
  refine wpFork_pure (by kernel_rfl) (fun K hK => ?_)
  go_big_quiet_op
  refine hK _ ?_; clear hK K
  refine wpFork_split ?_ ?_
  · skip
    refine wpMix_act (by kernel_rfl) (fun K hK => ?_)
    go_big_op
    refine (TestName_any _ _).mono ?_
    rintro e w' ⟨rfl, rfl⟩
    refine hK _ _ (regrown_of_below hS0) ?_
    clear hK K
    refine wpMix_act (by kernel_rfl) (fun K hK => ?_)
    go_big_op
    refine hK _ _ (regrown_of_below (hS0.alloc hS0.size _)) ?_
    clear hK K
    refine mix_world (fun N => Below (w1.heap.size) w1 N ∧ Sl fInt.cod N (.slice (some ⟨w1.drew.heap.size, 0, none⟩) 4 4) [x.score, x.quality, x.depth, x.hour] [w1.drew.heap.size]) ⟨hS0.alloc hS0.size _, Sl.lit2 (E := fInt) w1.drew [x.score, x.quality, x.depth, x.hour] _ _ rfl hl4.out (by show 0 < 4; decide) (by show 4 ≤ _; decide)⟩ ?_
    rintro wr2 ⟨hbr2S, hbr2F⟩
    refine wpMix_act (by kernel_rfl) (fun K hK => ?_)
    go_big_op
    refine (withId_any _ _ [x.score, x.quality, x.depth, x.hour] _ _ (by first | exact hbr1F | exact hbr2F | exact hbr3F | exact hbr4F | exact hbr5F | exact hbr6F) (by show 4 ≤ _; decide) (by omega) (ht1.below hbr2S)).mono ?_
    rintro e wr3 ⟨rfl, hbr3⟩
    have hbr3S : Below (w1.heap.size) w1 wr3 := hbr2S.trans (hbr3.mono hbr2S.size)
    refine hK _ _ (regrown_of_below hbr3S) ?_
    clear hK K
    refine wpMix_pure (by kernel_rfl) (fun K hK => ?_); go_big_quiet_op; refine hK _ ?_; clear hK K
    refine wpMix_nil ?_
    have hS := hbr3S
    have hB9 := hB1.trans (hS.mono hB1.size)
    go_wp2
    go_ret
    exact ⟨ret_str HT.out.symm, hB9⟩
  · skip
    refine wpMix_act (by kernel_rfl) (fun K hK => ?_)
    go_big_op
    refine hK _ _ (regrown_of_below (hS0.alloc hS0.size _)) ?_
    clear hK K
    refine mix_world (fun N => Below (w1.heap.size) w1 N ∧ Sl fInt.cod N (.slice (some ⟨w1.drew.heap.size, 0, none⟩) 4 4) [x.score, x.quality, x.depth, x.hour] [w1.drew.heap.size]) ⟨hS0.alloc hS0.size _, Sl.lit2 (E := fInt) w1.drew [x.score, x.quality, x.depth, x.hour] _ _ rfl hl4.out (by show 0 < 4; decide) (by show 4 ≤ _; decide)⟩ ?_
    rintro wr4 ⟨hbr4S, hbr4F⟩
    refine wpMix_act (by kernel_rfl) (fun K hK => ?_)
    go_big_op
    refine (TestName_any _ _).mono ?_
    rintro e w' ⟨rfl, rfl⟩
    refine hK _ _ (regrown_of_below hbr4S) ?_
    clear hK K
    refine wpMix_act (by kernel_rfl) (fun K hK => ?_)
    go_big_op
    refine (withId_any _ _ [x.score, x.quality, x.depth, x.hour] _ _ (by first | exact hbr1F | exact hbr2F | exact hbr3F | exact hbr4F | exact hbr5F | exact hbr6F) (by show 4 ≤ _; decide) (by omega) (ht1.below hbr4S)).mono ?_
    rintro e wr6 ⟨rfl, hbr6⟩
    have hbr6S : Below (w1.heap.size) w1 wr6 := hbr4S.trans (hbr6.mono hbr4S.size)
    refine hK _ _ (regrown_of_below hbr6S) ?_
    clear hK K
    refine wpMix_pure (by kernel_rfl) (fun K hK => ?_); go_big_quiet_op; refine hK _ ?_; clear hK K
    refine wpMix_nil ?_
    have hS := hbr6S
    have hB9 := hB1.trans (hS.mono hB1.size)
    go_wp2
    go_ret
    exact ⟨ret_str HT.out.symm, hB9⟩
set_option maxRecDepth 100000 in
set_option maxHeartbeats 8000000 in
theorem ReadTest_of (x : DTest) (w : World) (hv : testB x = true) (hok : fTest.ok x) (m : Int) (hm : w.cell? ⟨0, 0, none⟩ = some (.int .i64 m)) (ht : RdTabs w) :
    Calls Tryz.prog 12 #[.string (testT x)] w fun e w' => e = .returned (.tuple #[agTest x, .bool true]) ∧ Below w.heap.size w w' := by
  obtain ⟨hk, _, _, _, _⟩ := testB_parts hv
  go_enter Tryz.func12, Tryz.ntmps12
  go_wp2_with fail
  refine (readWithId_of (nameT x.kind) [x.score, x.quality, x.depth, x.hour] 4 _ (nameT_noblank _) (by have := nameT_size x.kind; omega) (test_fits hv) rfl m (cell_below ((Below.refl _ _).alloc (Nat.le_refl _) _) hm) (ht.below ((Below.refl _ _).alloc (Nat.le_refl _) _))).mono ?_
  rintro e w1 ⟨v1, rfl, ⟨⟨fpy, hsy, hlo, _⟩, hb1⟩⟩
  have hX1 : BxTest w1 w.heap.size := (BxTest.new w _).belowB hb1 (by simp)
  have hB1 : Below w.heap.size w w1 := ((Below.refl _ _).alloc (Nat.le_refl _) _).trans (hb1.mono (by simp))
  have hg1 : w.heap.size < w1.heap.size := hX1.lt
  clear hb1
  obtain ⟨A2, cap2, rfl, hle2, _⟩ := hsy.form
  obtain ⟨g2, o2, rfl, _, _, n0, _⟩ := hsy.cell1 rfl (k := 0) (by simp) rfl
  obtain ⟨g3, o3, hA2, _, _, n1, _⟩ := hsy.cell1 rfl (k := 1) (by simp) rfl
  injection hA2 with hA2; injection hA2 with ha1 ha2 _; subst ha1 ha2
  obtain ⟨g3, o3, hA2, _, _, n2, _⟩ := hsy.cell1 rfl (k := 2) (by simp) rfl
  injection hA2 with hA2; injection hA2 with ha1 ha2 _; subst ha1 ha2
  obtain ⟨g3, o3, hA2, _, _, n3, _⟩ := hsy.cell1 rfl (k := 3) (by simp) rfl
  injection hA2 with hA2; injection hA2 with ha1 ha2 _; subst ha1 ha2
  replace n0 : w1.cell? ⟨g2, o2, none⟩ = some (.int .i64 x.score) := by simpa using n0
  replace n1 : w1.cell? ⟨g2, o2 + 1, none⟩ = some (.int .i64 x.quality) := n1
  replace n2 : w1.cell? ⟨g2, o2 + 2, none⟩ = some (.int .i64 x.depth) := n2
  replace n3 : w1.cell? ⟨g2, o2 + 3, none⟩ = some (.int .i64 x.hour) := n3
  have e3 : (([x.score, x.quality, x.depth, x.hour] : List Int).length : Int) = 4 := rfl
  have e3' : ([x.score, x.quality, x.depth, x.hour] : List Int).length = 4 := rfl
  clear hsy hlo
  go_wp2
  have gn0 := cell_regrown n0
  have gn1 := cell_regrown n1
  have gn2 := cell_regrown n2
  have gn3 := cell_regrown n3
  refine wp_region_mix (C := fun w' => ∃ p : Regrown, w' = Go.Sort.grow (redrawn w1 p.d) p.os) [true, true, true, true, true, true, true, true, true, true, true, true, true, false, false] (by kernel_rfl) (by kernel_rfl) (by kernel_rfl) (fun _ _ d _ _ h => by cases d <;> exact h) (regrown_of_below (Below.drew (Below.refl _ _))) ?_
  have hS0 : Below (w1.heap.size) w1 w1.drew := Below.drew (Below.refl _ _)
  refine wpMix_pure (by kernel_rfl) (fun K hK => ?_); go_big_quiet_op; refine hK _ ?_; clear hK K
  refine wpMix_pure (by kernel_rfl) (fun K hK => ?_); go_big_quiet_op; refine hK _ ?_; clear hK K
  refine wpMix_pure (by kernel_rfl) (fun K hK => ?_); go_big_quiet_op; refine hK _ ?_; clear hK K
  refine wpMix_pure (by kernel_rfl) (fun K hK => ?_); go_big_quiet_op; refine hK _ ?_; clear hK K
  refine wpMix_pure (by kernel_rfl) (fun K hK => ?_); go_big_quiet_op; refine hK _ ?_; clear hK K
  refine wpMix_pure (by kernel_rfl) (fun K hK => ?_); go_big_quiet_op; refine hK _ ?_; clear hK K
  refine wpMix_pure (by kernel_rfl) (fun K hK => ?_); go_big_quiet_op; refine hK _ ?_; clear hK K
  refine wpMix_pure (by kernel_rfl) (fun K hK => ?_); go_big_quiet_op; refine hK _ ?_; clear hK K
  refine wpMix_pure (by kernel_rfl) (fun K hK => ?_); go_big_quiet_op; refine hK _ ?_; clear hK K
  refine wpMix_pure (by kernel_rfl) (fun K hK => ?_); go_big_quiet_op; refine hK _ ?_; clear hK K
  refine wpMix_pure (by kernel_rfl) (fun K hK => ?_); go_big_quiet_op; refine hK _ ?_; clear hK K
  refine wpMix_pure (by kernel_rfl) (fun K hK => ?_); go_big_quiet_op; refine hK _ ?_; clear hK K
  refine wpMix_pure (by kernel_rfl) (fun K hK => ?_); go_big_quiet_op; refine hK _ ?_; clear hK K
  refine wpMix_act (by kernel_rfl) (fun K hK => ?_)
  go_big_op
  refine hK _ _ (regrown_of_below (by first | exact hS0.alloc hS0.size _ | exact Below.drew ((Below.refl _ _).alloc (Nat.le_refl _) _) | exact (Below.drew (Below.refl _ _)).alloc (Nat.le_refl _) _)) ?_
  clear hK K
  refine wpMix_act (by kernel_rfl) (fun K hK => ?_)
  go_big_op
  refine hK _ _ (regrown_of_below (by first | exact hS0.alloc hS0.size _ | exact Below.drew ((Below.refl _ _).alloc (Nat.le_refl _) _) | exact (Below.drew (Below.refl _ _)).alloc (Nat.le_refl _) _)) ?_
  clear hK K
  refine wpMix_nil ?_
  have hBx : Below w1.heap.size w1 (w1.alloc (.cells #[.int .i64 0, .int .i64 x.score, .int .i64 x.quality, .int .i64 x.depth, .int .i64 x.hour] 25)).drew := Below.drew ((Below.refl _ _).alloc (Nat.le_refl _) _)
  have hBV := hB1.trans (hBx.mono hB1.size)
  have hXV := hX1.belowB hBx hg1
  have hpx : PTest (w1.alloc (.cells #[.int .i64 0, .int .i64 x.score, .int .i64 x.quality, .int .i64 x.depth, .int .i64 x.hour] 25)).drew w1.heap.size 0 ⟨0, x.score, x.quality, x.depth, x.hour⟩ := (PTest.box w1 ⟨0, x.score, x.quality, x.depth, x.hour⟩ _).below' (Below.drew (Below.refl _ _))
  have hzx : ∀ j, (w1.alloc (.cells #[.int .i64 0, .int .i64 x.score, .int .i64 x.quality, .int .i64 x.depth, .int .i64 x.hour] 25)).drew.frozen? ⟨w1.heap.size, j, none⟩ = false := fun j => World.frozen?_alloc_at _ _ _ _ rfl
  clear hX1 n0 n1 n2 n3 gn0 gn1 gn2 gn3 hBx hS0
  generalize (w1.alloc (.cells #[.int .i64 0, .int .i64 x.score, .int .i64 x.quality, .int .i64 x.depth, .int .i64 x.hour] 25)).drew = V at *
  generalize w1.heap.size = b at *
  go_wp2
  go_loopw [8] (fun i wr => ∃ j : Nat, 1 ≤ j ∧ j ≤ 4 ∧ i = .int .i64 j ∧ PTest wr b 0 ⟨if x.kind < j then x.kind else 0, x.score, x.quality, x.depth, x.hour⟩ ∧ (∀ j, wr.frozen? ⟨b, j, none⟩ = false) ∧ BxTest wr w.heap.size ∧ Below w.heap.size w wr) (fun i _ => 4 - (intOf i).toNat)
  case atStart => exact ⟨1, by omega, by omega, rfl, by rw [if_neg (by omega)]; exact hpx, hzx, hXV, hBV⟩
  case round =>
    clear hpx hzx hXV hBV
    obtain ⟨j, hj1, hj4, rfl, hp, hz, hX, hb⟩ := hrel
    by_cases hlt : j ≤ 3
    · have hjk : (j : Int) = 1 ∨ (j : Int) = 2 ∨ (j : Int) = 3 := by omega
      have hbe := nameT_beq hjk hk
      by_cases hjx : (j : Int) = x.kind
      · rw [decide_eq_true hjx] at hbe
        rw [if_neg (by omega)] at hp
        obtain ⟨x0, x1, x2, x3, x4⟩ := id hp
        have z0 := hz 0
        have hp' := hp.vset0 x.kind
        have hX' := hX.far (g := b) (j := 0) (v := .int .i64 x.kind) (by omega)
        have hz' : ∀ i, (wr.setCell ⟨b, 0, none⟩ (.int .i64 x.kind)).frozen? ⟨b, i, none⟩ = false := fun i => (frozen?_setCell _ _ _ _).trans (hz i)
        have hb' : Below w.heap.size w (wr.setCell ⟨b, 0, none⟩ (.int .i64 x.kind)) := hb.setCell (by show _ ≤ b; omega) _
        have HP := Lib.hid hp'
        have HX := Lib.hid hX'
        have HZ := Lib.hid hz'
        clear hp hp' hX hX' hz hz'
        replace hb' := Lib.hid hb'
        go_wp2_with fail
        refine (TestName_any _ _).mono ?_
        rintro e w' ⟨rfl, rfl⟩
        go_wp2
        go_roundw
        case rel => exact ⟨j + 1, by omega, by omega, by go_num, by rw [if_pos (by omega)]; exact HP.out, HZ.out, HX.out, hb'.out⟩
        case measure => simp [intOf]; omega
      · rw [decide_eq_false hjx] at hbe
        have hif : (if x.kind < (j : Int) then x.kind else 0) = (if x.kind < ((j + 1 : Nat) : Int) then x.kind else 0) := by
          by_cases h : x.kind < (j : Int)
          · rw [if_pos h, if_pos (by omega)]
          · rw [if_neg h, if_neg (by omega)]
        rw [hif] at hp
        have HP := Lib.hid hp
        clear hp hif
        go_wp2_with fail
        refine (TestName_any _ _).mono ?_
        rintro e w' ⟨rfl, rfl⟩
        go_wp2
        go_roundw
        case rel => exact ⟨j + 1, by omega, by omega, by go_num, HP.out, hz, hX, hb⟩
        case measure => simp [intOf]; omega
    · obtain rfl : j = 4 := by omega
      rw [if_pos (by omega)] at hp
      obtain ⟨x0, x1, x2, x3, x4⟩ := id hp
      go_wp2_with fail
      refine (TestText_any x _ hv hok (ht.below hb).tab).mono ?_
      rintro e U ⟨rfl, hbU⟩
      have hBU := hb.trans (hbU.mono hb.size)
      have hXU := hX.belowB hbU hX.lt
      have hpU := hp.below' hbU
      have hXlt := hX.lt
      clear hX hp x0 x1 x2 x3 x4 hz
      obtain ⟨d0, d1, d2, d3, d4, z0, z1, z2, z3, z4⟩ := hXU
      obtain ⟨x0, x1, x2, x3, x4⟩ := hpU
      have e9 : ((testT x).toList == (testT x).toList) = true := beq_self_eq_true _
      have e10 : ((testT x).toList != (testT x).toList) = false := by unfold bne; rw [e9]; rfl
      generalize testT x = s at *
      have hrr := Nat.le_refl w.heap.size
      go_wp2
      exact bodyPost_ret (v := .tuple #[agTest x, .bool true]) (by simp [agTest, results, hit_cellX, d0, d1, d2, d3, d4, Tryz.results12, go_sem]) rfl ⟨rfl, by (repeat (refine Below.setCell ?_ hrr _)); exact hBU⟩

end Go.Proofs.YtfgmikgghpflbaaGreatDoor

namespace Go.Proofs.YtfgmikgghpflbaaGreatDoor
open Go.RowKit
set_option linter.unusedVariables false

set_option maxRecDepth 100000 in
set_option maxHeartbeats 2000000 in
theorem l04DrawHour_any (n g : Nat) (w : World) (hs : SrcD n g w) (hn : n ≤ 999999980000) :
    Calls Tryz.prog 85 #[.pointer (some ⟨g, 0, none⟩)] w fun e w' => ∃ r : Int, e = .returned (.int .i64 r) ∧ (-1000000000 ≤ r ∧ r ≤ 1000000000) ∧ SrcD (n + 4) g w' ∧ Only [g] w w' := by
  go_enter Tryz.func85, Tryz.ntmps85
  go_wp2_with fail
  refine (one_any _ g 10 _ hs (by omega) (by omega)).mono ?_
  rintro e w1 ⟨b, rfl, hs1, ho1⟩
  cases b
  · go_wp2_with fail
    refine (pick_any _ g 45 _ hs1 (by omega) (by omega)).mono ?_
    rintro e w2 ⟨q, rfl, ⟨q0, q1, _⟩, hs2, ho2⟩
    replace q1 := q1 (by omega)
    go_wp2
    go_ret
    exact ⟨q, rfl, by omega, hs2, ho1.trans ho2⟩
  · skip
    have hBL : Below w1.heap.size w1 (w1.alloc (.cells #[.int .i64 (-1), .int .i64 0, .int .i64 100000, .int .i64 100001] 2)) := (Below.refl _ _).alloc (Nat.le_refl _) _
    have hgl := hs1.lt
    go_wp2_with fail
    refine (among_any _ g _ [-1, 0, 100000, 100001] [w1.heap.size] _ (hs1.below hBL) (by omega) (slLitI w1 2 [-1, 0, 100000, 100001] _ rfl (by decide) (by decide) (by decide) _ _ rfl rfl) (by simp; omega) (by decide) (by decide)).mono ?_
    rintro e w2 ⟨t, ht, rfl, hs2, ho2⟩
    have htb : -1000000000 ≤ t ∧ t ≤ 1000000000 := by simp at ht; omega
    go_wp2
    go_ret
    exact ⟨t, rfl, htb, hs2, ho1.trans (Only.later hBL ho2)⟩
set_option maxRecDepth 100000 in
set_option maxHeartbeats 2000000 in
theorem l08DrawNear_any (n g : Nat) (w : World) (hs : SrcD n g w) (hn : n ≤ 999999980000) :
    Calls Tryz.prog 86 #[.pointer (some ⟨g, 0, none⟩)] w fun e w' => ∃ r : Int, e = .returned (.int .i64 r) ∧ (-1000000000 ≤ r ∧ r ≤ 1000000000) ∧ SrcD (n + 2) g w' ∧ Only [g] w w' := by
  go_enter Tryz.func86, Tryz.ntmps86
  have hBL : Below w.heap.size w (w.alloc (.cells #[.int .i64 0, .int .i64 5, .int .i64 10, .int .i64 20, .int .i64 300, .int .i64 301, .int .i64 (-1), .int .i64 48] 2)) := (Below.refl _ _).alloc (Nat.le_refl _) _
  have hgl := hs.lt
  go_wp2_with fail
  refine (among_any _ g _ [0, 5, 10, 20, 300, 301, -1, 48] [w.heap.size] _ (hs.below hBL) (by omega) (slLitI w 2 [0, 5, 10, 20, 300, 301, -1, 48] _ rfl (by decide) (by decide) (by decide) _ _ rfl rfl) (by simp; omega) (by decide) (by decide)).mono ?_
  rintro e w2 ⟨t, ht, rfl, hs2, ho2⟩
  have htb : -1000000000 ≤ t ∧ t ≤ 1000000000 := by simp at ht; omega
  go_wp2
  go_ret
  exact ⟨t, rfl, htb, hs2, Only.later hBL ho2⟩
set_option maxRecDepth 100000 in
set_option maxHeartbeats 4000000 in
theorem DrawClassOf_any (v : Value) (xs : List UInt8) (fp : List Nat) (w : World) (hx : Sl fByte.cod w v xs fp) :
    Calls Tryz.prog 10 #[v] w fun e w' => ∃ x : DTest, e = .returned (agTest x) ∧ SmTest x ∧ Below w.heap.size w w' := by
  have hB0 : Below w.heap.size w (w.alloc (.cells #[.int .i64 0, .int .i64 0, .int .i64 0, .int .i64 0, .int .i64 0] 25)) := (Below.refl _ _).alloc (Nat.le_refl _) _
  go_enter Tryz.func10, Tryz.ntmps10
  go_wp2_with fail
  refine (l00From_any v xs fp _ (hx.below' hB0)).mono ?_
  rintro e w1 ⟨rfl, hs, hb1⟩
  have hbx := (BxTest.new w 25).belowB hb1 (by simp)
  have hB1 := hB0.trans (hb1.mono (by simp))
  have hgw : w.heap.size ≤ (w.alloc (.cells #[.int .i64 0, .int .i64 0, .int .i64 0, .int .i64 0, .int .i64 0] 25)).heap.size := by simp
  have hgne : w.heap.size ≠ (w.alloc (.cells #[.int .i64 0, .int .i64 0, .int .i64 0, .int .i64 0, .int .i64 0] 25)).heap.size := by simp
  generalize (w.alloc (.cells #[.int .i64 0, .int .i64 0, .int .i64 0, .int .i64 0, .int .i64 0] 25)).heap.size = g at *
  clear hB0 hb1 hx
  go_wp2_with fail
  refine (l08DrawOne_any _ g _ hs (by omega)).mono ?_
  rintro e w2 ⟨x0, rfl, hSm0, hsN, hoN⟩
  replace hbx := hbx.keep (hoN.block w.heap.size hbx.lt (by simp; omega))
  replace hB1 := hB1.trans (hoN.below (show w.heap.size ≤ _ from hB1.size) (by intro b hb; simp at hb; subst hb; exact hgw))
  clear hs hoN
  have hs := hsN
  clear hsN
  go_wp2_with fail
  refine (l08Bend_any _ g x0 _ hs (by omega) hSm0).mono ?_
  rintro e w2 ⟨x, rfl, hSm, hsN, hoN⟩
  replace hbx := hbx.keep (hoN.block w.heap.size hbx.lt (by simp; omega))
  replace hB1 := hB1.trans (hoN.below (show w.heap.size ≤ _ from hB1.size) (by intro b hb; simp at hb; subst hb; exact hgw))
  clear hs hoN
  have hs := hsN
  clear hsN
  obtain ⟨d0, d1, d2, d3, d4, z0, z1, z2, z3, z4⟩ := hbx
  have hrr := Nat.le_refl w.heap.size
  unfold agTest
  go_wp2
  exact bodyPost_ret (v := agTest x) (by simp [agTest, results, hit_cellX, d0, d1, d2, d3, d4, Tryz.results10, go_sem]) rfl ⟨_, rfl, hSm, by (repeat (refine Below.setCell ?_ hrr _)); exact hB1⟩
set_option maxRecDepth 100000 in
set_option maxHeartbeats 4000000 in
theorem DrawMeanClass_any (v : Value) (xs : List UInt8) (fp : List Nat) (w : World) (hx : Sl fByte.cod w v xs fp) :
    Calls Tryz.prog 14 #[v] w fun e w' => ∃ (y : Value) (ys : List DTest) (h d : Int) (fq : List Nat), e = .returned (.tuple #[y, .int .i64 h, .int .i64 d]) ∧ Sl fTest.cod w' y ys fq ∧ (∀ x ∈ ys, SmTest x) ∧ ys.length ≤ 70 ∧ (-1000000000 ≤ h ∧ h ≤ 1000000000) ∧ (-1000000000 ≤ d ∧ d ≤ 1000000000) ∧ Below w.heap.size w w' := by
  go_enter Tryz.func14, Tryz.ntmps14
  go_wp2_with fail
  refine (l00From_any v xs fp _ hx).mono ?_
  rintro e w1 ⟨rfl, hs1, hb1⟩
  obtain ⟨g, hG⟩ : ∃ g, g = w.heap.size := ⟨_, rfl⟩
  have hof : ∀ b ∈ [g], w.heap.size ≤ b := by simp [hG]
  have hgl : g < w1.heap.size := by rw [hG]; exact hs1.lt
  have hsz := hb1.size
  simp only [← hG] at hs1 ⊢
  clear hG hx
  go_wp2_with fail
  refine (l08Draw_any _ g _ hs1 (by omega)).mono ?_
  rintro e w2 ⟨y, ys, fq, rfl, hsl, hlo, hnd, hsm, hl, hs2, ho2⟩
  have hgq : ∀ b ∈ fq, b ∉ [g] := fun b hb => by have := hlo b hb; simp; omega
  obtain ⟨A, cap, rfl, _, _⟩ := hsl.form
  go_wp2_with fail
  refine (l04DrawHour_any _ g _ hs2 (by omega)).mono ?_
  rintro e w3 ⟨h, rfl, hh, hs3, ho3⟩
  go_wp2_with fail
  refine (l08DrawNear_any _ g _ hs3 (by omega)).mono ?_
  rintro e w4 ⟨d, rfl, hd, hs4, ho4⟩
  go_wp2
  go_ret3
  have ho := (ho2.trans (ho3.trans ho4))
  exact ⟨_, ys, h, d, fq, rfl, hsl.only (ho3.trans ho4) hgq, hsm, hl, hh, hd, hb1.trans (ho.below hsz hof)⟩

end Go.Proofs.YtfgmikgghpflbaaGreatDoor

namespace Go.Proofs.YtfgmikgghpflbaaGreatDoor
open Go.RowKit
set_option linter.unusedVariables false

theorem meanF_bad {xs : List DTest} {h d : Int} (hc : ¬ meanC xs h d = 0) : meanF xs h d = 0 := by unfold meanF; rw [if_neg hc]
set_option maxRecDepth 100000 in
set_option maxHeartbeats 8000000 in
theorem walkTests (v0 : Value) (xs0 : List UInt8) (fp0 : List Nat) (v1 : Value) (xs1 : List UInt8) (fp1 : List Nat) (w : World) (hx0 : Sl fByte.cod w v0 xs0 fp0) (hx1 : Sl fByte.cod w v1 xs1 fp1) (hsh : w.ShapedOpen Tryz.prog) (hrd : RdTabs w) :
    Calls Tryz.prog 3 #[v0, v1] w fun e w' => YesR w e w' := by
  obtain ⟨mx, hm⟩ := maxLen_cell hsh
  clear hsh
  go_enter Tryz.func3, Tryz.ntmps3
  go_wp2_with fail
  refine (b10Long_any _ _ _ _ hx0).mono ?_
  rintro e w' ⟨rfl, rfl⟩
  cases hl0 : decide (1048576 < xs0.length)
  case true =>
    go_wp2
    go_ret
    exact ⟨rfl, Below.refl _ _⟩
  clear hl0
  go_wp2_with fail
  refine (b10Long_any _ _ _ _ hx1).mono ?_
  rintro e w' ⟨rfl, rfl⟩
  cases hl1 : decide (1048576 < xs1.length)
  case true =>
    go_wp2
    go_ret
    exact ⟨rfl, Below.refl _ _⟩
  clear hl1
  go_wp2_with fail
  refine (DrawClassOf_any _ _ _ _ hx0).mono ?_
  rintro e w1 ⟨x, rfl, hsm, hb1⟩
  have hokx := hsm.ok
  clear hx0
  have hAl : Below w1.heap.size w1 (w1.alloc (.cells #[.int .i64 x.kind, .int .i64 x.score, .int .i64 x.quality, .int .i64 x.depth, .int .i64 x.hour] 25)) := (Below.refl _ _).alloc (Nat.le_refl _) _
  have hp2 := PTest.box w1 x 25
  unfold agTest
  go_wp2_with fail
  refine (ClassOf_any x _ hokx).mono ?_
  rintro e w2 ⟨rfl, hbN⟩
  replace hp2 := hp2.below' hbN
  replace hbN : Below w1.heap.size w1 w2 := hAl.trans (hbN.mono (by simp))
  have hB2 := hb1.trans (hbN.mono hb1.size)
  replace hx1 := hx1.below' hB2
  replace hrd := hrd.below hB2
  replace hm := cell_below hB2 hm
  clear hAl hbN hb1
  generalize w1.heap.size = bx at *
  clear w1
  go_upto_if 43 with fail
  go_cut [6, 7, 8, 9, 10, 11, 12, 13, 14, 15] from 29 (fun _ _ _ _ _ _ _ _ _ _ wx => Below w2.heap.size w2 wx)
  case first =>
    by_cases hv : testB x = true
    rotate_left
    · have hc1 : cofC x = 1 := by unfold cofC; rw [if_neg hv]
      rw [hc1]
      clear hc1
      go_wp2
      go_meet
      case rel => exact Below.refl _ _
    have hc0 : cofC x = 0 := by unfold cofC; rw [if_pos hv]
    have hf0 : cofF x = clsF x := by unfold cofF; rw [if_pos hv]
    rw [hc0, hf0]
    clear hc0 hf0
    have hin := clsF_in x
    obtain ⟨hk, hs0, hq0, hd0, hh0⟩ := testB_parts hv
    clear hk
    have hbx := Below.refl w2.heap.size w2
    obtain ⟨c0, c1, c2, c3, c4⟩ := id hp2
    have hAlfy : Below w2.heap.size w2 (w2.alloc (.cells #[.int .i64 x.kind, .int .i64 (x.score + 1), .int .i64 x.quality, .int .i64 x.depth, .int .i64 x.hour] 25)) := (Below.refl _ _).alloc (Nat.le_refl _) _
    go_wp2_with fail
    refine (ClassOf_any ⟨x.kind, x.score + 1, x.quality, x.depth, x.hour⟩ _ (by obtain ⟨o0, o1, o2, o3, o4⟩ := hokx; exact ⟨o0, by show _ ∧ _; simp only; omega, by show _ ∧ _; simp only; omega, o3, o4⟩)).mono ?_
    rintro e w3 ⟨rfl, hbN⟩
    replace hbN : Below w2.heap.size w2 w3 := hAlfy.trans (hbN.mono (by simp))
    have hlfy : cofC ⟨x.kind, x.score + 1, x.quality, x.depth, x.hour⟩ = 0 → ¬ cofF ⟨x.kind, x.score + 1, x.quality, x.depth, x.hour⟩ < clsF x := fun h => by
      have hv2 : testB ⟨x.kind, x.score + 1, x.quality, x.depth, x.hour⟩ = true := by
        cases ht : testB ⟨x.kind, x.score + 1, x.quality, x.depth, x.hour⟩
        · unfold cofC at h; rw [ht] at h; cases h
        · rfl
      have := clsF_score x
      unfold cofF; rw [hv2, if_pos rfl]
      try simp only at this
      omega
    generalize cofC ⟨x.kind, x.score + 1, x.quality, x.depth, x.hour⟩ = cy at *
    generalize cofF ⟨x.kind, x.score + 1, x.quality, x.depth, x.hour⟩ = fy at *
    replace hp2 := hp2.below' hbN
    replace hB2 := hB2.trans (hbN.mono hB2.size)
    replace hbx := hbx.trans (hbN.mono hbx.size)
    replace hrd := hrd.below hbN
    replace hm := cell_below hbN hm
    clear c0 c1 c2 c3 c4 hAlfy hbN
    obtain ⟨c0, c1, c2, c3, c4⟩ := id hp2
    have hAlfz : Below w3.heap.size w3 (w3.alloc (.cells #[.int .i64 x.kind, .int .i64 x.score, .int .i64 (x.quality + 1), .int .i64 x.depth, .int .i64 x.hour] 25)) := (Below.refl _ _).alloc (Nat.le_refl _) _
    go_wp2_with fail
    refine (ClassOf_any ⟨x.kind, x.score, x.quality + 1, x.depth, x.hour⟩ _ (by obtain ⟨o0, o1, o2, o3, o4⟩ := hokx; exact ⟨o0, by show _ ∧ _; simp only; omega, by show _ ∧ _; simp only; omega, o3, o4⟩)).mono ?_
    rintro e w4 ⟨rfl, hbN⟩
    replace hbN : Below w3.heap.size w3 w4 := hAlfz.trans (hbN.mono (by simp))
    have hlfz : cofC ⟨x.kind, x.score, x.quality + 1, x.depth, x.hour⟩ = 0 → ¬ cofF ⟨x.kind, x.score, x.quality + 1, x.depth, x.hour⟩ < clsF x := fun h => by
      have hv2 : testB ⟨x.kind, x.score, x.quality + 1, x.depth, x.hour⟩ = true := by
        cases ht : testB ⟨x.kind, x.score, x.quality + 1, x.depth, x.hour⟩
        · unfold cofC at h; rw [ht] at h; cases h
        · rfl
      have := clsF_quality x
      unfold cofF; rw [hv2, if_pos rfl]
      try simp only at this
      omega
    generalize cofC ⟨x.kind, x.score, x.quality + 1, x.depth, x.hour⟩ = cz at *
    generalize cofF ⟨x.kind, x.score, x.quality + 1, x.depth, x.hour⟩ = fz at *
    replace hp2 := hp2.below' hbN
    replace hB2 := hB2.trans (hbN.mono hB2.size)
    replace hbx := hbx.trans (hbN.mono hbx.size)
    replace hrd := hrd.below hbN
    replace hm := cell_below hbN hm
    clear c0 c1 c2 c3 c4 hAlfz hbN
    obtain ⟨c0, c1, c2, c3, c4⟩ := id hp2
    generalize clsF x = C at *
    go_wp2_with fail
    refine (TestText_any x _ hv hokx hrd.tab).mono ?_
    rintro e w5 ⟨rfl, hbN⟩
    replace hp2 := hp2.below' hbN
    replace hbx := hbx.trans (hbN.mono hbx.size)
    replace hrd := hrd.below hbN
    replace hm := cell_below hbN hm
    clear c0 c1 c2 c3 c4 hbN
    go_wp2_with fail
    refine (ReadTest_of x _ hv hokx mx hm hrd).mono ?_
    rintro e w6 ⟨rfl, hbN⟩
    replace hp2 := hp2.below' hbN
    replace hbx := hbx.trans (hbN.mono hbx.size)
    clear hbN hm hrd hv hokx hsm hx1 hB2
    have hbx9 : Below w2.heap.size w2 (w6.alloc (.cells #[.int .i64 x.kind, .int .i64 x.score, .int .i64 x.quality, .int .i64 x.depth, .int .i64 x.hour] 25)) := hbx.alloc hbx.size _
    obtain ⟨c0, c1, c2, c3, c4⟩ := hp2.below' ((Below.refl _ _).alloc (Nat.le_refl _) (.cells #[.int .i64 x.kind, .int .i64 x.score, .int .i64 x.quality, .int .i64 x.depth, .int .i64 x.hour] 25))
    have hbl := hp2.lt
    clear hp2 hbx
    unfold agTest
    by_cases hcy : cy = 0
    · have ey : (cy == 0) = true := by rw [hcy]; rfl
      have ely : decide (fy < C) = false := decide_eq_false (by have := hlfy hcy; omega)
      have ely2 : C ≤ fy := by have := hlfy hcy; omega
      by_cases hcz : cz = 0
      · have ez : (cz == 0) = true := by rw [hcz]; rfl
        have elz : decide (fz < C) = false := decide_eq_false (by have := hlfz hcz; omega)
        have elz2 : C ≤ fz := by have := hlfz hcz; omega
        clear hlfy hlfz hcz hcy
        go_wp2
        go_meet
        case rel => exact hbx9
      · have ez : (cz == 0) = false := by rw [beq_eq_false_iff_ne]; exact hcz
        clear hlfy hlfz hcz hcy
        go_wp2
        go_meet
        case rel => exact hbx9
    · have ey : (cy == 0) = false := by rw [beq_eq_false_iff_ne]; exact hcy
      by_cases hcz : cz = 0
      · have ez : (cz == 0) = true := by rw [hcz]; rfl
        have elz : decide (fz < C) = false := decide_eq_false (by have := hlfz hcz; omega)
        have elz2 : C ≤ fz := by have := hlfz hcz; omega
        clear hlfy hlfz hcz hcy
        go_wp2
        go_meet
        case rel => exact hbx9
      · have ez : (cz == 0) = false := by rw [beq_eq_false_iff_ne]; exact hcz
        clear hlfy hlfz hcz hcy
        go_wp2
        go_meet
        case rel => exact hbx9
  case rest =>
    have hB3 := hB2.trans (hcut.mono hB2.size)
    replace hx1 := hx1.below' hcut
    clear hcut hB2 hp2 hrd hm hokx hsm
    go_wp2_with fail
    refine (DrawMeanClass_any _ _ _ _ hx1).mono ?_
    rintro e w4 ⟨y, ys, h, d, fq, rfl, hys, hsm, hyl, hh, hd, hb4⟩
    obtain ⟨A, cap, rfl, _, _⟩ := hys.form
    have hB4 := hB3.trans (hb4.mono hB3.size)
    clear hx1 hB3 hb4
    go_wp2_with fail
    refine (MeanClass_any _ ys fq h d _ hys).mono ?_
    rintro e w5 ⟨rfl, hb5⟩
    replace hys := hys.below' hb5
    have hB5 := hB4.trans (hb5.mono hB4.size)
    clear hB4 hb5
    go_wp2_with fail
    refine (WorstClass_any _ ys fq _ hys).mono ?_
    rintro e w6 ⟨rfl, hb6⟩
    replace hys := hys.below' hb6
    have hB6 := hB5.trans (hb6.mono hB5.size)
    clear hB5 hb6
    by_cases hc : meanC ys h d = 0
    rotate_left
    · have hF := meanF_bad hc
      rw [hF]
      have e1 : (meanC ys h d != 0) = true := by simp [hc]
      generalize meanC ys h d = mc at *
      clear hc hF
      go_wp2
      go_ret
      exact ⟨rfl, hB6⟩
    obtain ⟨hrc, HM⟩ := mean_of hc
    have hwc := wrs_ok HM.ok (by have := HM.pos; have := HM.le; omega)
    rw [hc, hwc.1, hwc.2]
    clear hc hwc
    have hlen16 := testsB_len HM.ok
    have hle := HM.le
    have hpos := HM.pos
    have hwst := HM.worst
    have hmost := HM.most
    have hnear := HM.near
    have hris := HM.rises
    have hmem := HM.mem
    have hok := HM.ok
    have hwi := wrsF_in ys ys.length (Nat.le_refl _)
    clear HM
    generalize meanF ys h d = M at *
    generalize wrsF ys ys.length = W0 at *
    go_wp2_with fail
    refine (RecentTests_any _ ys fq h d _ hys).mono ?_
    rintro e w7 ⟨yr, rfl, ⟨⟨fr, hr, _, _⟩, hb7⟩⟩
    rw [hrc]
    clear hrc
    replace hys := hys.below' hb7
    have hB7 := hB6.trans (hb7.mono hB6.size)
    clear hB6 hb7
    obtain ⟨Ar, cr, rfl, _, _⟩ := hr.form
    generalize recF ys h d = L at *
    have e0 : ((L.length : Int) == 0) = false := by rw [beq_eq_false_iff_ne]; omega
    go_wp2_with fail
    refine (b10Rises_any _ _ _ _ _ hr).mono ?_
    rintro e w8 ⟨rfl, hb8⟩
    rw [hris]
    clear hris
    replace hys := hys.below' hb8
    replace hr := hr.below' hb8
    have hB8 := hB7.trans (hb8.mono hB7.size)
    clear hB7 hb8 e0
    go_wp2
    go_loopw [25, 26] (fun t i wr => ∃ k : Nat, k ≤ L.length ∧ i = .int .i64 k ∧ t = .int .i64 (sumI ys L k) ∧ Below w8.heap.size w8 wr) (fun _ i _ => L.length - (intOf i).toNat)
    case atStart => exact ⟨0, Nat.zero_le _, rfl, rfl, Below.refl _ _⟩
    case round =>
      obtain ⟨k, hk, rfl, rfl, hb⟩ := hrel
      have hin := sumI_in ys L k hk
      by_cases hlt : k < L.length
      · obtain ⟨b, off, rfl, _, _, hcL, _⟩ := (hr.below' hb).cell1 rfl hlt rfl
        obtain ⟨m, hm, hml, hh1, hh2⟩ := hmem _ (List.getElem_mem hlt)
        rw [getD_of_lt hml] at hh1 hh2
        have HS : Hid (sumI ys L (k + 1) = sumI ys L k + clsF ys[m]) := by
          show _ = _
          rw [sumI_step hlt, hm, show ((m : Int)).toNat = m from rfl, getD_of_lt hml]
        rw [hm] at hcL
        have hvm := testsB_one hok hml
        obtain ⟨b2, off2, rfl, _, hokm, hp⟩ := PTest.elem (hys.below' hb) hml
        obtain ⟨c0, c1, c2, c3, c4⟩ := id hp
        have hml16 : m < 16 := by omega
        have hci := clsF_in ys[m]
        have hf1 : cofF ys[m] = clsF ys[m] := by unfold cofF; rw [if_pos hvm]
        have hf2 : cofC ys[m] = 0 := by unfold cofC; rw [if_pos hvm]
        clear hm hvm
        replace hcL : wr.cell? ⟨b, off + k, none⟩ = some (.int .i64 (m : Int)) := hcL
        have hgb := block_lt_of_cell hcL
        go_wp2_with fail
        refine (specClassOf_any ys[m] _ hokm).mono ?_
        rintro e w9 ⟨rfl, hb9⟩
        rw [hf1, hf2]
        have hb10 := hb.trans (hb9.mono hb.size)
        replace hcL := (hb9.cell (p := ⟨b, off + k, none⟩) hgb).trans hcL
        replace hp := hp.below' hb9
        clear c0 c1 c2 c3 c4 hf1 hf2 hb9
        obtain ⟨c0, c1, c2, c3, c4⟩ := hp
        generalize sumI ys L k = S0 at *
        generalize clsF ys[m] = C0 at *
        go_wp2
        go_roundw
        case rel => exact ⟨k + 1, by omega, by go_num, by rw [HS.out], hb10⟩
        case measure => simp [intOf]; omega
      · obtain rfl : k = L.length := by omega
        have hmul : 0 ≤ M * (L.length : Int) ∧ M * (L.length : Int) ≤ 6400 := by
          have h1 : M * (L.length : Int) ≤ 400 * (L.length : Int) := Int.mul_le_mul_of_nonneg_right (by omega) (by omega)
          have h2 : 0 * (L.length : Int) ≤ M * (L.length : Int) := Int.mul_le_mul_of_nonneg_right (by omega) (by omega)
          omega
        generalize hML : M * (L.length : Int) = ML at *
        generalize sumI ys L L.length = S0 at *
        go_wp2_with fail
        refine (b10Abs_any _ _ (by omega)).mono ?_
        rintro e w' ⟨rfl, rfl⟩
        have hab : 0 ≤ absF (ML - 100 * S0) := by unfold absF; omega
        have hfin : absF (ML - 100 * S0) * 2 ≤ (L.length : Int) := by omega
        generalize absF (ML - 100 * S0) = Q at *
        go_wp2
        go_ret
        exact ⟨rfl, hB8.trans (hb.mono hB8.size)⟩
end Go.Proofs.YtfgmikgghpflbaaGreatDoor

namespace Go.Proofs.YtfgmikgghpflbaaGreatDoor
open Go.RowKit Go.WideShapes Go.ChangeShapes Go.ChangeAt

set_option maxRecDepth 100000 in
theorem law_liftedL {F : FuncId} {fn : Func} {s : ChangeSpec} (laid : List (String × DataW Unit)) (os : Os) (started : os.Started) (H : Type) (enc : TypeId × Value → H)
    (hfn : Tryz.checked.prog.funcs[F]? = some fn) (noInit : Tryz.checked.prog.inits.idxOf? F = none)
    (witness : ∃ (w : World) (tape : Tape) (i : Input), w.os = os ∧ (w.forCall tape i).Shaped Tryz.checked.prog ∧ i.vars = [] ∧ Input.okWide Tryz.checked.prog (w.forCall tape i) .any w.heap.size F i ∧
      ((s.pre enc Tryz.checked.prog fn [] false (w.forCall tape i).memory i.args ∧ laidMetH Tryz.checked.prog laid (w.forCall tape i).memory) ∧ sizedMet enc Tryz.checked.prog fn (OpenSpec.ofChange s) false (w.forCall tape i).memory i.args) ∧ ({} : Assume).holds Tryz.checked.prog (lone (Frame.enter Tryz.checked.prog F i.args .normal) [] (w.forCall tape i)))
    (hs : s.vars = []) (hres : fn.resultTypes = #[4]) (hread : ∀ t ∈ fn.params.toList, Tryz.prog.readableRec t = true ∧ t < Tryz.prog.types.size)
    (hspec : ∀ ds : List (DataW H), ds.length = fn.params.toList.length → s.fn H ds = { results := [.lit (.bool true)], args := ds })
    (walk : ∀ (W : World) (args : Array Value) (ds : List (DataW H)) (p : List MemPlace), W.ShapedOpen Tryz.prog → laidMetH Tryz.prog laid W → (∀ (j : Nat) t v, fn.params[j]? = some t → args[j]? = some v → ∃ base, Value.okWide Tryz.prog W .any base t v) →
      DataW.TrodAll enc Tryz.prog W 0 (fun _ => true) true fn.params.toList args.toList ds p → W.noneFrozen p → Calls Tryz.prog F args W fun e W' => e = .returned (.bool true) ∧ Below W.heap.size W W') :
    ReturnsInHanded {} Tryz.checked os F .any (fun w args => (s.pre enc Tryz.checked.prog fn [] false w args ∧ laidMetH Tryz.checked.prog laid w) ∧ sizedMet enc Tryz.checked.prog fn (OpenSpec.ofChange s) false w args) (s.post enc Tryz.checked.prog fn false true false false) := by
  refine returnsInHanded_of_calls (C := Tryz.checked) Tryz.own started noInit witness ?_
  intro w tape i _ hsh _ hok hpre hholds
  obtain ⟨_, _, _, fn', hfn', _, _, _, _, hval⟩ := hok
  have e : fn' = fn := Option.some.inj (hfn'.symm.trans hfn)
  subst e
  obtain ⟨⟨⟨ds, gs, before, hw, hc⟩, hx⟩, hz⟩ := hpre
  have hW := DataW.Whole.of_heap (w' := w.forCall tape i) (by rfl) hw
  have hX : laidMetH Tryz.prog laid (w.forCall tape i) := laidMetH.of_heap (by rfl) hx
  generalize w.forCall tape i = W at *
  have hW' := hW
  obtain ⟨p, q, hA, hV, hpq, hfz, hnd⟩ := hW
  rw [hs] at hV
  obtain ⟨rfl, rfl⟩ := trodVars_none hV
  rw [List.append_nil] at hpq
  subst hpq
  refine (walk W i.args ds _ hsh hX (fun j t v h1 h2 => ⟨w.heap.size, hval j t v h1 h2⟩) hA hfz).mono fun e W' ⟨he, hb⟩ => ?_
  subst he
  have hsp : s.fn H (ds ++ []) = { results := [.lit (.bool true)], args := ds } := by
    rw [List.append_nil]; exact hspec ds (trodAll_len _ _ _ _ hA)
  have hlt := fun x hx => hW'.lt x hx
  refine ChangeSpec.post_blind (W := W) ?_
  refine post_of_below (pa := before) (pv := []) hW' (fun b sp hd => ?_) (fun sp h => ?_) (fun sp h => ?_) (by simp) hb ?_
  · rw [hsp, hres]; exact trodAll_mk1 (shut_bool Tryz.underlying4 _)
  · rw [hsp]; exact trodAll_below Tryz.laidOut hb _ _ _ _ hread hA hlt h
  · rw [hsp, hs]; rfl
  · rw [hres]; exact fun j t r h1 h2 => ok_one (f := fn') hres rfl (okWide_bool_mk Tryz.underlying4 _) j t r (by rw [hres]; exact h1) (by rw [hres]; exact h2)
end Go.Proofs.YtfgmikgghpflbaaGreatDoor

namespace Go.Proofs.YtfgmikgghpflbaaGreatDoor
noncomputable def doorWorld (os : Os) : World := (World.doorLaid Tryz.prog 72 os).setRow 2 (Go.Pinned.utf8FirstZ.map (fun z : Nat => Value.int .u8 (z : Int))).toArray
end Go.Proofs.YtfgmikgghpflbaaGreatDoor

namespace Go.Proofs.YtfgmikgghpflbaaGreatDoor
open Go.RowKit Go.WideShapes Go.ChangeShapes Go.ChangeAt Go.Deep

/-- Whatever the form's reader reads at type t reads by E. -/
def Opens {α : Type} (t : TypeId) (E : Cod α) : Prop :=
  ∀ {H : Type} {enc : TypeId × Value → H} {w : World} {n : Nat} {cs : List Value} {x : DataW H × List MemPlace},
    DataW.trod enc Tryz.prog w 0 (fun _ => true) true n t cs = some x → w.noneFrozen x.2 → ∃ y fp, E.rd w cs y fp

theorem opens_int {t : TypeId} (ht : Tryz.prog.underlying t = some (.int .i64)) : Opens t fInt.cod := by
  intro H enc w n cs x h _
  obtain ⟨k, rfl, rfl, wk⟩ := DataW.trod_int ht h
  refine ⟨k, [], rfl, ?_, rfl⟩
  exact bounds_i64 wk
theorem opens_str {t : TypeId} (ht : Tryz.prog.underlying t = some .string) : Opens t fStr.cod := by
  intro H enc w n cs x h _
  obtain ⟨s, rfl, rfl, hs⟩ := DataW.trod_string ht h
  exact ⟨s, [], rfl, by unfold maxLen at hs; exact hs, rfl⟩
theorem opens_bool {t : TypeId} (ht : Tryz.prog.underlying t = some .bool) : Opens t fBool.cod := by
  intro H enc w n cs x h _
  obtain ⟨s, rfl, rfl⟩ := DataW.trod_bool ht h
  exact ⟨s, [], rfl, trivial, rfl⟩

theorem add_none (b off x y : Nat) : ((⟨b, off, none⟩ : Addr).add x).add y = ⟨b, off + x + y, none⟩ := by
  unfold Addr.add
  by_cases hx : x = 0 <;> by_cases hy : y = 0 <;> simp [hx, hy]

theorem opens_slice {α : Type} {E : Cod α} {t e : TypeId} (ht : Tryz.prog.underlying t = some (.slice e)) (hn : Tryz.prog.cellsOf e = E.n) (he : Opens e E) : Opens t E.slice := by
  intro H enc w n cs x h hfz
  rcases open_slice ht h with ⟨rfl, rfl⟩ | ⟨a, len, cap, m, n', D, Pl, rfl, hb, hl, hm, hmm, hx, hi⟩
  · exact ⟨[], [], _, rfl, none, 0, rfl, by simp, by simp [maxLen], .inl ⟨rfl, rfl⟩⟩
  · simp only [if_true] at hmm
    subst hmm
    rcases Nat.eq_zero_or_pos len with h0 | h0
    · subst h0
      exact ⟨[], [], _, rfl, some a, m, rfl, by simp, hm, .inl ⟨rfl, rfl⟩⟩
    · rw [hn] at hi
      have hspot : a = ⟨a.block, a.off, none⟩ := by
        obtain ⟨cs', hc, _⟩ := hi 0 (by omega)
        obtain ⟨_, hcl, hat⟩ := World.cells?_some hc
        have h1 := hat 0 E.pos
        have hps := E.pos
        rw [List.getElem?_eq_getElem (by omega)] at h1
        have h2 : w.cell? a = some cs'[0] := by simpa [Addr.add] using h1
        have := World.cell?_spot h2
        cases a; simp_all
      have hel : ∀ i : Fin len, ∃ p : α × List Nat × List Value, (∀ j, j < E.n → w.cell? ⟨a.block, a.off + i.1 * E.n + j, none⟩ = p.2.2[j]?) ∧ (∀ j, j < E.n → w.frozen? ⟨a.block, a.off + i.1 * E.n + j, none⟩ = false) ∧ E.rd w p.2.2 p.1 p.2.1 := by
        intro ⟨i, hil⟩
        obtain ⟨cs', hc, htr⟩ := hi i (by omega)
        obtain ⟨_, hcl, hat⟩ := World.cells?_some hc
        have hsub : ∀ pl ∈ Pl i, pl ∈ x.2 := by
          intro pl hpl
          rw [hx]
          exact List.mem_append_right _ (List.mem_flatMap.2 ⟨i, by simp; omega, hpl⟩)
        obtain ⟨y, fp, hy⟩ := he htr (fun b off hmem => hfz b off (hsub _ hmem))
        refine ⟨⟨y, fp, cs'⟩, fun j hj => ?_, fun j hj => ?_, hy⟩
        · have := hat j hj
          rw [hspot, add_none] at this
          exact this
        · refine hfz _ _ ?_
          rw [hx]
          refine List.mem_append_left _ ?_
          unfold MemPlace.row
          refine List.mem_map.2 ⟨i * E.n + j, ?_, by rw [Nat.add_assoc]⟩
          rw [List.mem_range, hn]
          have : (i + 1) * E.n ≤ m * E.n := Nat.mul_le_mul_right _ (by omega)
          rw [Nat.succ_mul] at this
          omega
      obtain ⟨f, hf⟩ := Classical.axiomOfChoice hel
      have hblk : a.block < w.heap.size := by
        obtain ⟨h1, _, h3⟩ := hf ⟨0, h0⟩
        have h1 := h1 0 E.pos
        have h4 := E.len h3
        have hps := E.pos
        rw [List.getElem?_eq_getElem (by omega)] at h1
        exact block_lt_of_cell (a := ⟨a.block, _, none⟩) h1
      refine ⟨List.ofFn fun i => (f i).1, a.block :: (List.range len).flatMap fun i => if h : i < len then (f ⟨i, h⟩).2.1 else [], _, rfl, some a, m, by simp, by simpa using hl, hm,
        .inr ⟨a.block, a.off, _, by rw [← hspot], hblk, by rw [List.length_ofFn], fun i hil => ?_⟩⟩
      rw [List.length_ofFn] at hil
      obtain ⟨h1, h2, h3⟩ := hf ⟨i, hil⟩
      refine ⟨(f ⟨i, hil⟩).2.2, h1, h2, ?_⟩
      simpa [hil] using h3

/-- A struct of fields of one cell each. -/
theorem opens_fields {t : TypeId} {fs : Array Field} (ht : Tryz.prog.underlying t = some (.struct fs)) (hone : oneCellFields Tryz.prog fs = true) (hC : Tryz.prog.cellsOf t = fs.size)
    {H : Type} {enc : TypeId × Value → H} {w : World} {n : Nat} {cs : List Value} {x : DataW H × List MemPlace} (h : DataW.trod enc Tryz.prog w 0 (fun _ => true) true n t cs = some x) (hfz : w.noneFrozen x.2) :
    cs.length = fs.size ∧ ∀ (j : Nat) (f : Field), fs[j]? = some f → ∃ (v : Value) (m : Nat) (y : DataW H × List MemPlace), cs[j]? = some v ∧ DataW.trod enc Tryz.prog w 0 (fun _ => true) true m f.type [v] = some y ∧ w.noneFrozen y.2 := by
  obtain ⟨xs, n', rfl, hx, hl, hxl, hf⟩ := DataW.trod_struct ht h
  refine ⟨hl.trans hC, fun j f hj => ?_⟩
  have hjl : j < fs.size := (Array.getElem?_eq_some_iff.1 hj).1
  obtain ⟨ho, hk⟩ := hone_of hone j f hj
  have h1 := hf j f hj
  rw [ho, hk] at h1
  have hcl : j < cs.length := by rw [hl, hC]; exact hjl
  have e1 : (cs.drop j).take 1 = [cs[j]] := by
    rw [List.drop_eq_getElem_cons hcl]; rfl
  rw [e1, List.getElem?_eq_getElem (by omega)] at h1
  refine ⟨cs[j], n', xs[j], List.getElem?_eq_getElem hcl, h1, fun b off hm => hfz b off ?_⟩
  rw [hx]
  exact List.mem_flatMap.2 ⟨xs[j], List.getElem_mem _, hm⟩

/-- An argument that came in: its value reads. -/
theorem Opens.arg {α : Type} {t : TypeId} {E : Cod α} (ho : Opens t E) {H : Type} {enc : TypeId × Value → H} {w : World} {v : Value} {d : DataW H} {ps : List MemPlace}
    (h : DataW.Trod enc Tryz.prog w 0 (fun _ => true) true t v d ps) (hfz : w.noneFrozen ps) : ∃ y fp, E.rd w v.cells.toList y fp := by
  obtain ⟨n, hn⟩ := h
  exact ho hn hfz
theorem Opens.sl {α : Type} {t : TypeId} {E : Cod α} (ho : Opens t E.slice) {H : Type} {enc : TypeId × Value → H} {w : World} {v : Value} {d : DataW H} {ps : List MemPlace}
    (h : DataW.Trod enc Tryz.prog w 0 (fun _ => true) true t v d ps) (hfz : w.noneFrozen ps) {A : Option Addr} {len cap : Nat} (hv : v = .slice A len cap) : ∃ y fp, Sl E w v y fp := by
  obtain ⟨y, fp, u, hu, hs⟩ := ho.arg h hfz
  subst hv
  simp [Value.cells] at hu
  subst hu
  exact ⟨y, fp, hs⟩

end Go.Proofs.YtfgmikgghpflbaaGreatDoor

namespace Go.Proofs.YtfgmikgghpflbaaGreatDoor
open Go.RowKit Go.WideShapes Go.ChangeShapes Go.ChangeAt Go.Deep

set_option maxRecDepth 100000 in
set_option maxHeartbeats 400000 in
theorem opens_byte {t : TypeId} (ht : Tryz.prog.underlying t = some (.int .u8)) : Opens t fByte.cod := by
  intro H enc w n cs x h _
  obtain ⟨k, rfl, rfl, wk⟩ := DataW.trod_int ht h
  have hk : 0 ≤ k ∧ k ≤ 255 := by
    have h1 : IntKind.u8.min = 0 := by decide
    have h2 : IntKind.u8.max = 255 := by decide
    have := wk
    simp [Lit.wf, h1, h2] at this
    omega
  refine ⟨UInt8.ofNat k.toNat, [], ?_, trivial, rfl⟩
  show _ = [Value.int .u8 _]
  rw [UInt8.toNat_ofNat']
  congr 2
  omega
end Go.Proofs.YtfgmikgghpflbaaGreatDoor
