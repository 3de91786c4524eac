/- Parts of the proof: Ia, BsIncident, InIncident, AdIncident, Pz, Ib, Ic, Rge, Ju, Jq. -/
import Derived.Test.YtgnbhcgagdfaiaaGreatDoorG08
import Derived.Test.YtgnbhcgagdfaiaaGreatDoorG03
import Derived.Test.YtgnbhcgagdfaiaaGreatDoorG02
import Derived.Deep.RegionHeld
import Derived.Deep.CutRange
import Derived.Test.YtgnbhcgagdfaiaaGreatDoorG07
import Derived.Test.YtgnbhcgagdfaiaaGreatDoorG04
import Derived.Test.YtgnbhcgagdfaiaaGreatDoorG01
import Derived.Sort.LotA
import Derived.Sort.OwnSortedInts
namespace Go.Proofs.YtgnbhcgagdfaiaaGreatDoor
open Go.RowKit
set_option linter.unusedVariables false

theorem hit_cellX {w : World} {p : Addr} {x : Value} (h : (w.cell? p).isSome = true) : (w.setCell p x).cell? p = some x := by
  obtain ⟨v, hv⟩ := Option.isSome_iff_exists.1 h
  exact World.cell?_setCell_same w p x hv
def agIncident (x : DIncident) : Value := .agg #[.int .i64 x.day, .string x.place, .string x.cause, .int .i64 x.level, .int .i64 x.caught, .int .i64 x.buried]
/-- A drawn Incident: small numbers and short texts. -/
def SmIncident (x : DIncident) : Prop := (-1000000000 ≤ x.day ∧ x.day ≤ 1000000000) ∧ x.place.size ≤ 100 ∧ x.cause.size ≤ 100 ∧ (-1000000000 ≤ x.level ∧ x.level ≤ 1000000000) ∧ (-1000000000 ≤ x.caught ∧ x.caught ≤ 1000000000) ∧ (-1000000000 ≤ x.buried ∧ x.buried ≤ 1000000000)
theorem SmIncident.ok {x : DIncident} (h : SmIncident x) : fIncident.ok x := by
  unfold SmIncident at h
  exact ⟨by show _ ∧ _; omega, by show _ ≤ _; omega, by show _ ≤ _; omega, by show _ ∧ _; omega, by show _ ∧ _; omega, by show _ ∧ _; omega⟩
structure BxIncident (w : World) (g : Nat) : Prop where
  d0 : w.cell? ⟨g, 0, none⟩ = some (.int .i64 0)
  d1 : w.cell? ⟨g, 1, none⟩ = some (.string ⟨#[]⟩)
  d2 : w.cell? ⟨g, 2, none⟩ = some (.string ⟨#[]⟩)
  d3 : w.cell? ⟨g, 3, none⟩ = some (.int .i64 0)
  d4 : w.cell? ⟨g, 4, none⟩ = some (.int .i64 0)
  d5 : w.cell? ⟨g, 5, none⟩ = some (.int .i64 0)
  z0 : w.frozen? ⟨g, 0, none⟩ = false
  z1 : w.frozen? ⟨g, 1, none⟩ = false
  z2 : w.frozen? ⟨g, 2, none⟩ = false
  z3 : w.frozen? ⟨g, 3, none⟩ = false
  z4 : w.frozen? ⟨g, 4, none⟩ = false
  z5 : w.frozen? ⟨g, 5, none⟩ = false
theorem BxIncident.new (w : World) (T : TypeId) : BxIncident (w.alloc (.cells #[.int .i64 0, .string ⟨#[]⟩, .string ⟨#[]⟩, .int .i64 0, .int .i64 0, .int .i64 0] T)) w.heap.size := by
  constructor <;> simp
theorem BxIncident.keep {w w' : World} {g : Nat} (h : BxIncident w g) (hk : w'.heap[g]? = w.heap[g]?) : BxIncident w' g := by
  have kc : ∀ j, w'.cell? ⟨g, j, none⟩ = w.cell? ⟨g, j, none⟩ := fun j => World.cell?_of_block (w := w) (a := ⟨g, j, none⟩) hk
  have kf : ∀ j, w'.frozen? ⟨g, j, none⟩ = w.frozen? ⟨g, j, none⟩ := fun j => World.frozen?_of_block (w := w) (a := ⟨g, j, none⟩) hk
  exact ⟨(kc _).trans h.d0, (kc _).trans h.d1, (kc _).trans h.d2, (kc _).trans h.d3, (kc _).trans h.d4, (kc _).trans h.d5, (kf _).trans h.z0, (kf _).trans h.z1, (kf _).trans h.z2, (kf _).trans h.z3, (kf _).trans h.z4, (kf _).trans h.z5⟩
theorem BxIncident.lt {w : World} {g : Nat} (h : BxIncident w g) : g < w.heap.size := block_lt_of_cell h.d0
theorem BxIncident.belowB {w w' : World} {g B : Nat} (h : BxIncident w g) (hb : Below B w w') (hg : g < B) : BxIncident w' g := h.keep (hb.block g hg)
theorem BxIncident.far {V : World} {b g j : Nat} {v : Value} (h : BxIncident V b) (hne : b ≠ g) : BxIncident (V.setCell ⟨g, j, none⟩ v) b := by
  have k : ∀ i, (V.setCell ⟨g, j, none⟩ v).cell? ⟨b, i, none⟩ = V.cell? ⟨b, i, none⟩ := fun i => World.cell?_setCell_far V ⟨g, j, none⟩ ⟨b, i, none⟩ v (fun e => hne e.symm)
  have f : ∀ i, (V.setCell ⟨g, j, none⟩ v).frozen? ⟨b, i, none⟩ = V.frozen? ⟨b, i, none⟩ := fun i => frozen?_setCell _ _ _ _
  exact ⟨(k _).trans h.d0, (k _).trans h.d1, (k _).trans h.d2, (k _).trans h.d3, (k _).trans h.d4, (k _).trans h.d5, (f _).trans h.z0, (f _).trans h.z1, (f _).trans h.z2, (f _).trans h.z3, (f _).trans h.z4, (f _).trans h.z5⟩
/-- A draw under way: the source g, the result's box r, the struct x at b; behind w0 all but g is as it was. -/
structure DrIncident (n g r b : Nat) (x : DIncident) (w0 w : World) : Prop where
  src : SrcD n g w
  only : Only [g] w0 w
  box : BxIncident w r
  pg : PIncident w b 0 x
  zf : ∀ j, w.frozen? ⟨b, j, none⟩ = false
  l0 : g < w0.heap.size
  l1 : w0.heap.size ≤ r
  l2 : w0.heap.size ≤ b
  l3 : r ≠ b
theorem DrIncident.next {n m g r b : Nat} {x : DIncident} {w0 w w' : World} (h : DrIncident n g r b x w0 w) (ho : Only [g] w w') (hs : SrcD m g w') : DrIncident m g r b x w0 w' := by
  have l0 := h.l0; have l1 := h.l1; have l2 := h.l2; have lb := h.pg.lt; have lr := h.box.lt
  have hbb : w'.heap[b]? = w.heap[b]? := ho.block b lb (by simp; omega)
  have kc : ∀ j, w'.cell? ⟨b, j, none⟩ = w.cell? ⟨b, j, none⟩ := fun j => World.cell?_of_block (w := w) (a := ⟨b, j, none⟩) hbb
  have kf : ∀ j, w'.frozen? ⟨b, j, none⟩ = w.frozen? ⟨b, j, none⟩ := fun j => World.frozen?_of_block (w := w) (a := ⟨b, j, none⟩) hbb
  exact ⟨hs, h.only.trans ho, h.box.keep (ho.block r lr (by simp; omega)), ⟨(kc _).trans h.pg.c0, (kc _).trans h.pg.c1, (kc _).trans h.pg.c2, (kc _).trans h.pg.c3, (kc _).trans h.pg.c4, (kc _).trans h.pg.c5⟩, fun j => (kf j).trans (h.zf j), l0, l1, l2, h.l3⟩
theorem DrIncident.grow {n g r b : Nat} {x : DIncident} {w0 w w' : World} (h : DrIncident n g r b x w0 w) (hb : Below w.heap.size w w') : DrIncident n g r b x w0 w' := h.next (Only.of_below hb) (h.src.below hb)
theorem DrIncident.mono {n m g r b : Nat} {x : DIncident} {w0 w : World} (h : DrIncident n g r b x w0 w) (hm : n ≤ m) : DrIncident m g r b x w0 w := ⟨h.src.mono hm, h.only, h.box, h.pg, h.zf, h.l0, h.l1, h.l2, h.l3⟩
theorem DrIncident.fin {n g r b : Nat} {x : DIncident} {w0 w w' : World} (h : DrIncident n g r b x w0 w) (hb : Below w0.heap.size w w') : SrcD n g w' ∧ Only [g] w0 w' :=
  ⟨h.src.belowB hb h.l0, h.only.then hb⟩
theorem DrIncident.fb {n g r b : Nat} {x : DIncident} {w0 w : World} (h : DrIncident n g r b x w0 w) (j : Nat) (v : Value) {w' : World} (hb : Below w0.heap.size w w') : Below w0.heap.size w (w'.setCell ⟨r, j, none⟩ v) := hb.setCell (p := ⟨r, j, none⟩) h.l1 v
theorem PIncident.keepB {w w' : World} {b : Nat} {x : DIncident} (h : PIncident w b 0 x) (hk : w'.heap[b]? = w.heap[b]?) : PIncident w' b 0 x := by
  have kc : ∀ j, w'.cell? ⟨b, j, none⟩ = w.cell? ⟨b, j, none⟩ := fun j => World.cell?_of_block (w := w) (a := ⟨b, j, none⟩) hk
  exact ⟨(kc _).trans h.c0, (kc _).trans h.c1, (kc _).trans h.c2, (kc _).trans h.c3, (kc _).trans h.c4, (kc _).trans h.c5⟩
theorem PIncident.vset0 {V : World} {g : Nat} {x : DIncident} (h : PIncident V g 0 x) (c : Int) : PIncident (V.setCell ⟨g, 0, none⟩ (.int .i64 c)) g 0 ⟨c, x.place, x.cause, x.level, x.caught, x.buried⟩ := by
  have nk : ∀ j, j ≠ 0 → (⟨g, 0, none⟩ : Addr) ≠ ⟨g, j, none⟩ := fun j hj e => by injection e with _ e _; exact hj e.symm
  have k : ∀ j, j ≠ 0 → (V.setCell ⟨g, 0, none⟩ (.int .i64 c)).cell? ⟨g, j, none⟩ = V.cell? ⟨g, j, none⟩ := fun j hj => World.cell?_setCell_other _ _ _ _ (nk j hj)
  exact ⟨hit_cellX (by rw [h.c0]; rfl), (k _ (by decide)).trans h.c1, (k _ (by decide)).trans h.c2, (k _ (by decide)).trans h.c3, (k _ (by decide)).trans h.c4, (k _ (by decide)).trans h.c5⟩
theorem DrIncident.set0 {n g r b : Nat} {x : DIncident} {w0 V : World} (h : DrIncident n g r b x w0 V) (c : Int) : DrIncident n g r b ⟨c, x.place, x.cause, x.level, x.caught, x.buried⟩ w0 (V.setCell ⟨b, 0, none⟩ (.int .i64 c)) := by
  have hb : Below w0.heap.size V (V.setCell ⟨b, 0, none⟩ (.int .i64 c)) := (Below.refl _ _).setCell (p := ⟨b, 0, none⟩) h.l2 _
  exact ⟨h.src.belowB hb h.l0, h.only.then hb, h.box.far h.l3, h.pg.vset0 c, fun j => (frozen?_setCell _ _ _ _).trans (h.zf j), h.l0, h.l1, h.l2, h.l3⟩
theorem PIncident.vset1 {V : World} {g : Nat} {x : DIncident} (h : PIncident V g 0 x) (c : ByteArray) : PIncident (V.setCell ⟨g, 1, none⟩ (.string c)) g 0 ⟨x.day, c, x.cause, x.level, x.caught, x.buried⟩ := by
  have nk : ∀ j, j ≠ 1 → (⟨g, 1, none⟩ : Addr) ≠ ⟨g, j, none⟩ := fun j hj e => by injection e with _ e _; exact hj e.symm
  have k : ∀ j, j ≠ 1 → (V.setCell ⟨g, 1, none⟩ (.string c)).cell? ⟨g, j, none⟩ = V.cell? ⟨g, j, none⟩ := fun j hj => World.cell?_setCell_other _ _ _ _ (nk j hj)
  exact ⟨(k _ (by decide)).trans h.c0, hit_cellX (by have := h.c1; rw [show (0 + 1 : Nat) = 1 from rfl] at this; rw [this]; rfl), (k _ (by decide)).trans h.c2, (k _ (by decide)).trans h.c3, (k _ (by decide)).trans h.c4, (k _ (by decide)).trans h.c5⟩
theorem DrIncident.set1 {n g r b : Nat} {x : DIncident} {w0 V : World} (h : DrIncident n g r b x w0 V) (c : ByteArray) : DrIncident n g r b ⟨x.day, c, x.cause, x.level, x.caught, x.buried⟩ w0 (V.setCell ⟨b, 1, none⟩ (.string c)) := by
  have hb : Below w0.heap.size V (V.setCell ⟨b, 1, none⟩ (.string c)) := (Below.refl _ _).setCell (p := ⟨b, 1, none⟩) h.l2 _
  exact ⟨h.src.belowB hb h.l0, h.only.then hb, h.box.far h.l3, h.pg.vset1 c, fun j => (frozen?_setCell _ _ _ _).trans (h.zf j), h.l0, h.l1, h.l2, h.l3⟩
theorem PIncident.vset2 {V : World} {g : Nat} {x : DIncident} (h : PIncident V g 0 x) (c : ByteArray) : PIncident (V.setCell ⟨g, 2, none⟩ (.string c)) g 0 ⟨x.day, x.place, c, x.level, x.caught, x.buried⟩ := by
  have nk : ∀ j, j ≠ 2 → (⟨g, 2, none⟩ : Addr) ≠ ⟨g, j, none⟩ := fun j hj e => by injection e with _ e _; exact hj e.symm
  have k : ∀ j, j ≠ 2 → (V.setCell ⟨g, 2, none⟩ (.string c)).cell? ⟨g, j, none⟩ = V.cell? ⟨g, j, none⟩ := fun j hj => World.cell?_setCell_other _ _ _ _ (nk j hj)
  exact ⟨(k _ (by decide)).trans h.c0, (k _ (by decide)).trans h.c1, hit_cellX (by have := h.c2; rw [show (0 + 2 : Nat) = 2 from rfl] at this; rw [this]; rfl), (k _ (by decide)).trans h.c3, (k _ (by decide)).trans h.c4, (k _ (by decide)).trans h.c5⟩
theorem DrIncident.set2 {n g r b : Nat} {x : DIncident} {w0 V : World} (h : DrIncident n g r b x w0 V) (c : ByteArray) : DrIncident n g r b ⟨x.day, x.place, c, x.level, x.caught, x.buried⟩ w0 (V.setCell ⟨b, 2, none⟩ (.string c)) := by
  have hb : Below w0.heap.size V (V.setCell ⟨b, 2, none⟩ (.string c)) := (Below.refl _ _).setCell (p := ⟨b, 2, none⟩) h.l2 _
  exact ⟨h.src.belowB hb h.l0, h.only.then hb, h.box.far h.l3, h.pg.vset2 c, fun j => (frozen?_setCell _ _ _ _).trans (h.zf j), h.l0, h.l1, h.l2, h.l3⟩
theorem PIncident.vset3 {V : World} {g : Nat} {x : DIncident} (h : PIncident V g 0 x) (c : Int) : PIncident (V.setCell ⟨g, 3, none⟩ (.int .i64 c)) g 0 ⟨x.day, x.place, x.cause, c, x.caught, x.buried⟩ := by
  have nk : ∀ j, j ≠ 3 → (⟨g, 3, none⟩ : Addr) ≠ ⟨g, j, none⟩ := fun j hj e => by injection e with _ e _; exact hj e.symm
  have k : ∀ j, j ≠ 3 → (V.setCell ⟨g, 3, none⟩ (.int .i64 c)).cell? ⟨g, j, none⟩ = V.cell? ⟨g, j, none⟩ := fun j hj => World.cell?_setCell_other _ _ _ _ (nk j hj)
  exact ⟨(k _ (by decide)).trans h.c0, (k _ (by decide)).trans h.c1, (k _ (by decide)).trans h.c2, hit_cellX (by have := h.c3; rw [show (0 + 3 : Nat) = 3 from rfl] at this; rw [this]; rfl), (k _ (by decide)).trans h.c4, (k _ (by decide)).trans h.c5⟩
theorem DrIncident.set3 {n g r b : Nat} {x : DIncident} {w0 V : World} (h : DrIncident n g r b x w0 V) (c : Int) : DrIncident n g r b ⟨x.day, x.place, x.cause, c, x.caught, x.buried⟩ w0 (V.setCell ⟨b, 3, none⟩ (.int .i64 c)) := by
  have hb : Below w0.heap.size V (V.setCell ⟨b, 3, none⟩ (.int .i64 c)) := (Below.refl _ _).setCell (p := ⟨b, 3, none⟩) h.l2 _
  exact ⟨h.src.belowB hb h.l0, h.only.then hb, h.box.far h.l3, h.pg.vset3 c, fun j => (frozen?_setCell _ _ _ _).trans (h.zf j), h.l0, h.l1, h.l2, h.l3⟩
theorem PIncident.vset4 {V : World} {g : Nat} {x : DIncident} (h : PIncident V g 0 x) (c : Int) : PIncident (V.setCell ⟨g, 4, none⟩ (.int .i64 c)) g 0 ⟨x.day, x.place, x.cause, x.level, c, x.buried⟩ := by
  have nk : ∀ j, j ≠ 4 → (⟨g, 4, none⟩ : Addr) ≠ ⟨g, j, none⟩ := fun j hj e => by injection e with _ e _; exact hj e.symm
  have k : ∀ j, j ≠ 4 → (V.setCell ⟨g, 4, none⟩ (.int .i64 c)).cell? ⟨g, j, none⟩ = V.cell? ⟨g, j, none⟩ := fun j hj => World.cell?_setCell_other _ _ _ _ (nk j hj)
  exact ⟨(k _ (by decide)).trans h.c0, (k _ (by decide)).trans h.c1, (k _ (by decide)).trans h.c2, (k _ (by decide)).trans h.c3, hit_cellX (by have := h.c4; rw [show (0 + 4 : Nat) = 4 from rfl] at this; rw [this]; rfl), (k _ (by decide)).trans h.c5⟩
theorem DrIncident.set4 {n g r b : Nat} {x : DIncident} {w0 V : World} (h : DrIncident n g r b x w0 V) (c : Int) : DrIncident n g r b ⟨x.day, x.place, x.cause, x.level, c, x.buried⟩ w0 (V.setCell ⟨b, 4, none⟩ (.int .i64 c)) := by
  have hb : Below w0.heap.size V (V.setCell ⟨b, 4, none⟩ (.int .i64 c)) := (Below.refl _ _).setCell (p := ⟨b, 4, none⟩) h.l2 _
  exact ⟨h.src.belowB hb h.l0, h.only.then hb, h.box.far h.l3, h.pg.vset4 c, fun j => (frozen?_setCell _ _ _ _).trans (h.zf j), h.l0, h.l1, h.l2, h.l3⟩
theorem PIncident.vset5 {V : World} {g : Nat} {x : DIncident} (h : PIncident V g 0 x) (c : Int) : PIncident (V.setCell ⟨g, 5, none⟩ (.int .i64 c)) g 0 ⟨x.day, x.place, x.cause, x.level, x.caught, c⟩ := by
  have nk : ∀ j, j ≠ 5 → (⟨g, 5, none⟩ : Addr) ≠ ⟨g, j, none⟩ := fun j hj e => by injection e with _ e _; exact hj e.symm
  have k : ∀ j, j ≠ 5 → (V.setCell ⟨g, 5, none⟩ (.int .i64 c)).cell? ⟨g, j, none⟩ = V.cell? ⟨g, j, none⟩ := fun j hj => World.cell?_setCell_other _ _ _ _ (nk j hj)
  exact ⟨(k _ (by decide)).trans h.c0, (k _ (by decide)).trans h.c1, (k _ (by decide)).trans h.c2, (k _ (by decide)).trans h.c3, (k _ (by decide)).trans h.c4, hit_cellX (by have := h.c5; rw [show (0 + 5 : Nat) = 5 from rfl] at this; rw [this]; rfl)⟩
theorem DrIncident.set5 {n g r b : Nat} {x : DIncident} {w0 V : World} (h : DrIncident n g r b x w0 V) (c : Int) : DrIncident n g r b ⟨x.day, x.place, x.cause, x.level, x.caught, c⟩ w0 (V.setCell ⟨b, 5, none⟩ (.int .i64 c)) := by
  have hb : Below w0.heap.size V (V.setCell ⟨b, 5, none⟩ (.int .i64 c)) := (Below.refl _ _).setCell (p := ⟨b, 5, none⟩) h.l2 _
  exact ⟨h.src.belowB hb h.l0, h.only.then hb, h.box.far h.l3, h.pg.vset5 c, fun j => (frozen?_setCell _ _ _ _).trans (h.zf j), h.l0, h.l1, h.l2, h.l3⟩
def placeL : List ByteArray := [⟨#[98, 111, 119, 108]⟩, ⟨#[99, 104, 117, 116, 101]⟩, ⟨#[115, 112, 117, 114]⟩]
theorem placeL_size : ∀ x ∈ placeL, x.size ≤ 10 := by decide
def causeL : List ByteArray := [⟨#[100, 114, 105, 102, 116]⟩, ⟨#[114, 97, 105, 110]⟩, ⟨#[115, 107, 105, 101, 114]⟩]
theorem causeL_size : ∀ x ∈ causeL, x.size ≤ 10 := by decide
def badPL : List ByteArray := [⟨#[]⟩, ⟨#[80]⟩]
theorem badPL_size : ∀ x ∈ badPL, x.size ≤ 10 := by decide
set_option maxRecDepth 100000 in
set_option maxHeartbeats 4000000 in
theorem l28DrawOne_any (n g : Nat) (w : World) (hs : SrcD n g w) (hn : n ≤ 999999980000) :
    Calls Tryz.prog 77 #[.pointer (some ⟨g, 0, none⟩)] w fun e w' => ∃ x : DIncident, e = .returned (agIncident x) ∧ (SmIncident x ∧ x.caught ≤ 5) ∧ SrcD (n + 20) g w' ∧ Only [g] w w' := by
  have hg := hs.lt
  go_enter Tryz.func77, Tryz.ntmps77
  have hB0 : Below w.heap.size w (w.alloc (.cells #[.int .i64 0, .string ⟨#[]⟩, .string ⟨#[]⟩, .int .i64 0, .int .i64 0, .int .i64 0] 42)) := (Below.refl _ _).alloc (Nat.le_refl _) _
  go_wp2_with fail
  refine (pick_any _ g 40 _ (hs.below hB0) (by omega) (by omega)).mono ?_
  rintro e w1 ⟨a, rfl, ⟨a0, a1, _⟩, hs1, ho1⟩
  replace a1 := a1 (by omega)
  have hbx1 : BxIncident w1 w.heap.size := (BxIncident.new w _).keep (ho1.block w.heap.size (by simp) (by simp; omega))
  have hr1 : w.heap.size < w1.heap.size := by have := ho1.size; simp at this; omega
  have hO1 : Only [g] w w1 := Only.later hB0 ho1
  clear hB0 ho1
  have hBL : Below w1.heap.size w1 (w1.alloc (.cells #[.string ⟨#[98, 111, 119, 108]⟩, .string ⟨#[99, 104, 117, 116, 101]⟩, .string ⟨#[115, 112, 117, 114]⟩] 9)) := (Below.refl _ _).alloc (Nat.le_refl _) _
  have hgl := hs1.lt
  go_wp2_with fail
  refine (text_any _ g _ placeL [w1.heap.size] _ (hs1.below hBL) (by omega) (slLit w1 9 placeL _ rfl (by decide) (by decide) (by decide) _ _ rfl rfl) (by simp; omega) (by decide) (by decide)).mono ?_
  rintro e w2 ⟨tp, tpm, rfl, hs2, hoN⟩
  have tpz := placeL_size tp tpm
  have ho2 := Only.later hBL hoN
  clear hBL hgl hoN tpm
  have e0 : wrap64 (9000 + a) = 9000 + a := w64_inD _ (by omega)
  have hbx2 : BxIncident w2 w.heap.size := hbx1.keep (ho2.block w.heap.size hbx1.lt (by simp; omega))
  have hr2 : w.heap.size < w2.heap.size := hbx2.lt
  have hO2 : Only [g] w w2 := hO1.trans ho2
  clear hbx1 hr1 hO1 hs1 ho2
  have hBA : Below w2.heap.size w2 (w2.alloc (.cells #[.int .i64 (9000 + a), .string tp, .string ⟨#[]⟩, .int .i64 0, .int .i64 0, .int .i64 0] 42)) := (Below.refl _ _).alloc (Nat.le_refl _) _
  have hD : DrIncident (n + 2 + 2) g w.heap.size w2.heap.size ⟨9000 + a, tp, ⟨#[]⟩, 0, 0, 0⟩ w (w2.alloc (.cells #[.int .i64 (9000 + a), .string tp, .string ⟨#[]⟩, .int .i64 0, .int .i64 0, .int .i64 0] 42)) := ⟨hs2.below hBA, hO2.then (hBA.mono hO2.size), hbx2.belowB hBA hr2, PIncident.box w2 ⟨9000 + a, tp, ⟨#[]⟩, 0, 0, 0⟩ _, fun j => World.frozen?_alloc_at _ _ _ _ rfl, hg, Nat.le_refl _, Nat.le_of_lt hr2, Nat.ne_of_lt hr2⟩
  clear hBA hbx2 hs2 hO2
  go_upto_region 2 with fail
  refine at_world (fun W => DrIncident (n + 2 + 2) g w.heap.size w2.heap.size ⟨9000 + a, tp, ⟨#[]⟩, 0, 0, 0⟩ w W) hD ?_
  clear hD
  have hbl : w.heap.size ≤ w2.heap.size := Nat.le_of_lt hr2
  clear hr2
  generalize w2.heap.size = b at *
  intro V0 hD
  have hBL : Below V0.heap.size V0 (V0.alloc (.cells #[.string ⟨#[100, 114, 105, 102, 116]⟩, .string ⟨#[114, 97, 105, 110]⟩, .string ⟨#[115, 107, 105, 101, 114]⟩] 9)) := (Below.refl _ _).alloc (Nat.le_refl _) _
  have hgl := hD.src.lt
  go_wp2_with fail
  refine (text_any _ g _ causeL [V0.heap.size] _ (hD.src.below hBL) (by omega) (slLit V0 9 causeL _ rfl (by decide) (by decide) (by decide) _ _ rfl rfl) (by simp; omega) (by decide) (by decide)).mono ?_
  rintro e V1 ⟨tc, tcm, rfl, hsN, hoN⟩
  have tcz := causeL_size tc tcm
  replace hD := (hD.grow hBL).next hoN hsN
  clear hsN hoN hBL hgl tcm
  have c2 : V1.cell? ⟨b, 2, none⟩ = some (.string ⟨#[]⟩) := hD.pg.c2
  have z2 := hD.zf 2
  replace hD := hD.set2 tc
  go_wp2_with fail
  generalize V1.setCell ⟨b, 2, none⟩ (.string tc) = V2 at *
  clear c2 z2
  refine (pick_any _ g 5 _ hD.src (by omega) (by omega)).mono ?_
  rintro e V3 ⟨l, rfl, ⟨l0, l1, _⟩, hsN, hoN⟩
  replace l1 := l1 (by omega)
  replace hD := hD.next hoN hsN
  clear hsN hoN
  have el : wrap64 (1 + l) = 1 + l := w64_inD _ (by omega)
  have c3 : V3.cell? ⟨b, 3, none⟩ = some (.int .i64 0) := hD.pg.c3
  have z3 := hD.zf 3
  replace hD := hD.set3 (1 + l)
  go_wp2_with fail
  generalize V3.setCell ⟨b, 3, none⟩ (.int .i64 (1 + l)) = V4 at *
  clear c3 z3
  clear el
  refine (pick_any _ g 5 _ hD.src (by omega) (by omega)).mono ?_
  rintro e V5 ⟨c, rfl, ⟨c0, c1, _⟩, hsN, hoN⟩
  replace c1 := c1 (by omega)
  replace hD := hD.next hoN hsN
  clear hsN hoN
  have c4 : V5.cell? ⟨b, 4, none⟩ = some (.int .i64 0) := hD.pg.c4
  have z4 := hD.zf 4
  replace hD := hD.set4 c
  have hp4 := hD.pg.c4
  go_wp2_with fail
  generalize V5.setCell ⟨b, 4, none⟩ (.int .i64 c) = V6 at *
  clear c4 z4
  clear hp4
  refine (pick_any _ g (c + 1) _ hD.src (by omega) (by omega)).mono ?_
  rintro e V7 ⟨u, rfl, ⟨u0, u1, _⟩, hsN, hoN⟩
  replace u1 := u1 (by omega)
  replace hD := hD.next hoN hsN
  clear hsN hoN
  have c5 : V7.cell? ⟨b, 5, none⟩ = some (.int .i64 0) := hD.pg.c5
  have z5 := hD.zf 5
  replace hD := hD.set5 u
  have hDz := hD
  obtain ⟨d0, d1, d2, d3, d4, d5, z0, z1, z2, z3, z4, z5⟩ := hDz.box
  obtain ⟨x0, x1, x2, x3, x4, x5⟩ := id hDz.pg
  go_wp2
  exact bodyPost_ret (v := agIncident ⟨9000 + a, tp, tc, 1 + l, c, u⟩) (by simp [agIncident, results, hit_cellX, d0, d1, d2, d3, d4, d5, Tryz.results77, go_sem]) rfl ⟨_, rfl, ⟨by unfold SmIncident; simp only; omega, by show c ≤ 5; omega⟩, ((hDz.fin (by (repeat (refine Below.setCell ?_ hDz.l1 _)); exact Below.refl _ _)).1).mono (by omega), (hDz.fin (by (repeat (refine Below.setCell ?_ hDz.l1 _)); exact Below.refl _ _)).2⟩
set_option maxRecDepth 100000 in
set_option maxHeartbeats 4000000 in
theorem l28Bend_any (n g : Nat) (y : DIncident) (w : World) (hs : SrcD n g w) (hn : n ≤ 999999980000) (hy : SmIncident y ∧ y.caught ≤ 1000000) :
    Calls Tryz.prog 78 #[.pointer (some ⟨g, 0, none⟩), agIncident y] w fun e w' => ∃ x : DIncident, e = .returned (agIncident x) ∧ SmIncident x ∧ SrcD (n + 20) g w' ∧ Only [g] w w' := by
  have hg := hs.lt
  have hB0 : Below w.heap.size w (w.alloc (.cells #[.int .i64 y.day, .string y.place, .string y.cause, .int .i64 y.level, .int .i64 y.caught, .int .i64 y.buried] 42)) := (Below.refl _ _).alloc (Nat.le_refl _) _
  have hB1 : Below (w.heap.size + 1) (w.alloc (.cells #[.int .i64 y.day, .string y.place, .string y.cause, .int .i64 y.level, .int .i64 y.caught, .int .i64 y.buried] 42)) ((w.alloc (.cells #[.int .i64 y.day, .string y.place, .string y.cause, .int .i64 y.level, .int .i64 y.caught, .int .i64 y.buried] 42)).alloc (.cells #[.int .i64 0, .string ⟨#[]⟩, .string ⟨#[]⟩, .int .i64 0, .int .i64 0, .int .i64 0] 42)) := (Below.refl _ _).alloc (by simp) _
  have hD : DrIncident n g (w.heap.size + 1) w.heap.size y w ((w.alloc (.cells #[.int .i64 y.day, .string y.place, .string y.cause, .int .i64 y.level, .int .i64 y.caught, .int .i64 y.buried] 42)).alloc (.cells #[.int .i64 0, .string ⟨#[]⟩, .string ⟨#[]⟩, .int .i64 0, .int .i64 0, .int .i64 0] 42)) := by
    refine ⟨hs.below (hB0.trans (hB1.mono (Nat.le_succ _))), Only.of_below (hB0.trans (hB1.mono (Nat.le_succ _))), ?_, (PIncident.box w y _).below hB1 (Nat.lt_succ_self _), fun j => ?_, hg, Nat.le_succ _, Nat.le_refl _, by omega⟩
    · have h := BxIncident.new (w.alloc (.cells #[.int .i64 y.day, .string y.place, .string y.cause, .int .i64 y.level, .int .i64 y.caught, .int .i64 y.buried] 42)) 42
      rw [World.size_alloc] at h; exact h
    · rw [hB1.frozen (p := ⟨w.heap.size, j, none⟩) (Nat.lt_succ_self _)]; exact World.frozen?_alloc_at _ _ _ _ rfl
  clear hB0 hB1
  unfold agIncident
  go_enter Tryz.func78, Tryz.ntmps78
  go_upto_region 1 with fail
  refine at_world (fun W => DrIncident n g (w.heap.size + 1) w.heap.size y w W) hD ?_
  clear hD hs
  generalize w.heap.size + 1 = r at *
  generalize hbw : w.heap.size = b at *
  intro V0 hD
  clear hbw hg
  go_wp2_with fail
  refine (pick_any _ g 18 _ hD.src (by omega) (by omega)).mono ?_
  rintro e V1 ⟨q, rfl, ⟨q0, q1, _⟩, hsN, hoN⟩
  replace hD := hD.next hoN hsN
  clear hsN hoN V0
  by_cases h0 : q = 0
  · subst h0
    have hBL : Below V1.heap.size V1 (V1.alloc (.cells #[.int .i64 (-1), .int .i64 0, .int .i64 36524, .int .i64 36525] 2)) := (Below.refl _ _).alloc (Nat.le_refl _) _
    have hgl := hD.src.lt
    go_wp2_with fail
    refine (among_any _ g _ [-1, 0, 36524, 36525] [V1.heap.size] _ (hD.src.below hBL) (by omega) (slLitI V1 2 [-1, 0, 36524, 36525] _ rfl (by decide) (by decide) (by decide) _ _ rfl rfl) (by simp; omega) (by decide) (by decide)).mono ?_
    rintro e V2 ⟨t, ht, rfl, hsN, hoN⟩
    replace hD := (hD.grow hBL).next hoN hsN
    have htb : -1000000000 ≤ t ∧ t ≤ 1000000000 := by simp at ht; omega
    clear hsN hoN hBL hgl ht
    have cK : V2.cell? ⟨b, 0, none⟩ = some (.int .i64 y.day) := hD.pg.c0
    have zK := hD.zf 0
    replace hD := hD.set0 t
    have hDz := hD
    obtain ⟨d0, d1, d2, d3, d4, d5, z0, z1, z2, z3, z4, z5⟩ := hDz.box
    obtain ⟨x0, x1, x2, x3, x4, x5⟩ := id hDz.pg
    go_wp2
    exact bodyPost_ret (v := agIncident ⟨t, y.place, y.cause, y.level, y.caught, y.buried⟩) (by simp [agIncident, results, hit_cellX, d0, d1, d2, d3, d4, d5, Tryz.results78, go_sem]) rfl ⟨_, rfl, by have hy1 := hy.1; unfold SmIncident at *; simp only; omega, ((hDz.fin (by (repeat (refine Below.setCell ?_ hDz.l1 _)); exact Below.refl _ _)).1).mono (by omega), (hDz.fin (by (repeat (refine Below.setCell ?_ hDz.l1 _)); exact Below.refl _ _)).2⟩
  · have e0 : (q == 0) = false := by rw [beq_eq_false_iff_ne]; exact h0
    by_cases h1 : q = 1
    · subst h1
      have hBL : Below V1.heap.size V1 (V1.alloc (.cells #[.int .i64 0, .int .i64 5, .int .i64 6] 2)) := (Below.refl _ _).alloc (Nat.le_refl _) _
      have hgl := hD.src.lt
      go_wp2_with fail
      refine (among_any _ g _ [0, 5, 6] [V1.heap.size] _ (hD.src.below hBL) (by omega) (slLitI V1 2 [0, 5, 6] _ rfl (by decide) (by decide) (by decide) _ _ rfl rfl) (by simp; omega) (by decide) (by decide)).mono ?_
      rintro e V2 ⟨t, ht, rfl, hsN, hoN⟩
      replace hD := (hD.grow hBL).next hoN hsN
      have htb : -1000000000 ≤ t ∧ t ≤ 1000000000 := by simp at ht; omega
      clear hsN hoN hBL hgl ht
      have cK : V2.cell? ⟨b, 3, none⟩ = some (.int .i64 y.level) := hD.pg.c3
      have zK := hD.zf 3
      replace hD := hD.set3 t
      have hDz := hD
      obtain ⟨d0, d1, d2, d3, d4, d5, z0, z1, z2, z3, z4, z5⟩ := hDz.box
      obtain ⟨x0, x1, x2, x3, x4, x5⟩ := id hDz.pg
      go_wp2
      exact bodyPost_ret (v := agIncident ⟨y.day, y.place, y.cause, t, y.caught, y.buried⟩) (by simp [agIncident, results, hit_cellX, d0, d1, d2, d3, d4, d5, Tryz.results78, go_sem]) rfl ⟨_, rfl, by have hy1 := hy.1; unfold SmIncident at *; simp only; omega, ((hDz.fin (by (repeat (refine Below.setCell ?_ hDz.l1 _)); exact Below.refl _ _)).1).mono (by omega), (hDz.fin (by (repeat (refine Below.setCell ?_ hDz.l1 _)); exact Below.refl _ _)).2⟩
    · have e1 : (q == 1) = false := by rw [beq_eq_false_iff_ne]; exact h1
      by_cases h2 : q = 2
      · subst h2
        have hBL : Below V1.heap.size V1 (V1.alloc (.cells #[.int .i64 (-1), .int .i64 20, .int .i64 21] 2)) := (Below.refl _ _).alloc (Nat.le_refl _) _
        have hgl := hD.src.lt
        go_wp2_with fail
        refine (among_any _ g _ [-1, 20, 21] [V1.heap.size] _ (hD.src.below hBL) (by omega) (slLitI V1 2 [-1, 20, 21] _ rfl (by decide) (by decide) (by decide) _ _ rfl rfl) (by simp; omega) (by decide) (by decide)).mono ?_
        rintro e V2 ⟨t, ht, rfl, hsN, hoN⟩
        replace hD := (hD.grow hBL).next hoN hsN
        have htb : -1000000000 ≤ t ∧ t ≤ 1000000000 := by simp at ht; omega
        clear hsN hoN hBL hgl ht
        have cK : V2.cell? ⟨b, 4, none⟩ = some (.int .i64 y.caught) := hD.pg.c4
        have zK := hD.zf 4
        replace hD := hD.set4 t
        have hDz := hD
        obtain ⟨d0, d1, d2, d3, d4, d5, z0, z1, z2, z3, z4, z5⟩ := hDz.box
        obtain ⟨x0, x1, x2, x3, x4, x5⟩ := id hDz.pg
        go_wp2
        exact bodyPost_ret (v := agIncident ⟨y.day, y.place, y.cause, y.level, t, y.buried⟩) (by simp [agIncident, results, hit_cellX, d0, d1, d2, d3, d4, d5, Tryz.results78, go_sem]) rfl ⟨_, rfl, by have hy1 := hy.1; unfold SmIncident at *; simp only; omega, ((hDz.fin (by (repeat (refine Below.setCell ?_ hDz.l1 _)); exact Below.refl _ _)).1).mono (by omega), (hDz.fin (by (repeat (refine Below.setCell ?_ hDz.l1 _)); exact Below.refl _ _)).2⟩
      · have e2 : (q == 2) = false := by rw [beq_eq_false_iff_ne]; exact h2
        by_cases h3 : q = 3
        · subst h3
          obtain ⟨c0, c1, c2, c3, c4, c5⟩ := id hD.pg
          have hyb : -1000000000 ≤ y.caught ∧ y.caught ≤ 1000000 := by have := hy.1; unfold SmIncident at this; have := hy.2; omega
          have hBL : Below V1.heap.size V1 (V1.alloc (.cells #[.int .i64 (-1), .int .i64 y.caught, .int .i64 (y.caught + 1)] 2)) := (Below.refl _ _).alloc (Nat.le_refl _) _
          have hgl := hD.src.lt
          have hsl := Sl.lit2 (E := fInt) V1 [-1, y.caught, y.caught + 1] 2 _ rfl (by intro x hx; simp only [List.mem_cons, List.not_mem_nil, or_false] at hx; show _ ∧ _; omega) (by show 0 < 3; decide) (by show 3 ≤ _; decide)
          go_wp2_with fail
          refine (among_any _ g _ [-1, y.caught, y.caught + 1] [V1.heap.size] _ (hD.src.below hBL) (by omega) hsl (by simp; omega) (by show 0 < 3; decide) (by show 3 ≤ _; decide)).mono ?_
          rintro e V2 ⟨t, ht, rfl, hsN, hoN⟩
          replace hD := (hD.grow hBL).next hoN hsN
          have htb : -1000000000 ≤ t ∧ t ≤ 1000000000 := by simp only [List.mem_cons, List.not_mem_nil, or_false] at ht; omega
          clear hsN hoN hBL hgl ht hsl c0 c1 c2 c3 c4 c5
          have cK : V2.cell? ⟨b, 5, none⟩ = some (.int .i64 y.buried) := hD.pg.c5
          have zK := hD.zf 5
          replace hD := hD.set5 t
          have hDz := hD
          obtain ⟨d0, d1, d2, d3, d4, d5, z0, z1, z2, z3, z4, z5⟩ := hDz.box
          obtain ⟨x0, x1, x2, x3, x4, x5⟩ := id hDz.pg
          go_wp2
          exact bodyPost_ret (v := agIncident ⟨y.day, y.place, y.cause, y.level, y.caught, t⟩) (by simp [agIncident, results, hit_cellX, d0, d1, d2, d3, d4, d5, Tryz.results78, go_sem]) rfl ⟨_, rfl, by have hy1 := hy.1; unfold SmIncident at *; simp only; omega, ((hDz.fin (by (repeat (refine Below.setCell ?_ hDz.l1 _)); exact Below.refl _ _)).1).mono (by omega), (hDz.fin (by (repeat (refine Below.setCell ?_ hDz.l1 _)); exact Below.refl _ _)).2⟩
        · have e3 : (q == 3) = false := by rw [beq_eq_false_iff_ne]; exact h3
          by_cases h4 : q = 4
          · subst h4
            have hBL : Below V1.heap.size V1 (V1.alloc (.cells #[.string ⟨#[]⟩, .string ⟨#[80]⟩] 9)) := (Below.refl _ _).alloc (Nat.le_refl _) _
            have hgl := hD.src.lt
            go_wp2_with fail
            refine (text_any _ g _ badPL [V1.heap.size] _ (hD.src.below hBL) (by omega) (slLit V1 9 badPL _ rfl (by decide) (by decide) (by decide) _ _ rfl rfl) (by simp; omega) (by decide) (by decide)).mono ?_
            rintro e V2 ⟨t, tm, rfl, hsN, hoN⟩
            have tz := badPL_size t tm
            replace hD := (hD.grow hBL).next hoN hsN
            clear hsN hoN hBL hgl tm
            have cK : V2.cell? ⟨b, 1, none⟩ = some (.string y.place) := hD.pg.c1
            have zK := hD.zf 1
            replace hD := hD.set1 t
            have hDz := hD
            obtain ⟨d0, d1, d2, d3, d4, d5, z0, z1, z2, z3, z4, z5⟩ := hDz.box
            obtain ⟨x0, x1, x2, x3, x4, x5⟩ := id hDz.pg
            go_wp2
            exact bodyPost_ret (v := agIncident ⟨y.day, t, y.cause, y.level, y.caught, y.buried⟩) (by simp [agIncident, results, hit_cellX, d0, d1, d2, d3, d4, d5, Tryz.results78, go_sem]) rfl ⟨_, rfl, by have hy1 := hy.1; unfold SmIncident at *; simp only; omega, ((hDz.fin (by (repeat (refine Below.setCell ?_ hDz.l1 _)); exact Below.refl _ _)).1).mono (by omega), (hDz.fin (by (repeat (refine Below.setCell ?_ hDz.l1 _)); exact Below.refl _ _)).2⟩
          · have e4 : (q == 4) = false := by rw [beq_eq_false_iff_ne]; exact h4
            have hDz := hD
            obtain ⟨d0, d1, d2, d3, d4, d5, z0, z1, z2, z3, z4, z5⟩ := hDz.box
            obtain ⟨x0, x1, x2, x3, x4, x5⟩ := id hDz.pg
            go_wp2
            exact bodyPost_ret (v := agIncident y) (by simp [agIncident, results, hit_cellX, d0, d1, d2, d3, d4, d5, Tryz.results78, go_sem]) rfl ⟨_, rfl, hy.1, ((hDz.fin (by (repeat (refine Below.setCell ?_ hDz.l1 _)); exact Below.refl _ _)).1).mono (by omega), (hDz.fin (by (repeat (refine Below.setCell ?_ hDz.l1 _)); exact Below.refl _ _)).2⟩
theorem infoIncidentD : (Tryz.prog.info? 42).map (fun i => (i.zero, i.size, i.bytes)) = some (some (.agg #[.int .i64 0, .string ⟨#[]⟩, .string ⟨#[]⟩, .int .i64 0, .int .i64 0, .int .i64 0]), 6, 64) := by kernel_rfl

end Go.Proofs.YtgnbhcgagdfaiaaGreatDoor

namespace Go.Proofs.YtgnbhcgagdfaiaaGreatDoor
open Go.RowKit
set_option linter.unusedVariables false

def atIncident (xs : List DIncident) (t : DIncident) : Nat := posF (fun y => decide (cmpInc y t < 0)) xs
def hasIncident (xs : List DIncident) (t : DIncident) : Bool := match xs[atIncident xs t]? with | some y => cmpInc y t == 0 | none => false

end Go.Proofs.YtgnbhcgagdfaiaaGreatDoor

namespace Go.Proofs.YtgnbhcgagdfaiaaGreatDoor
open Go.RowKit
set_option linter.unusedVariables false

theorem infoIncidentK : (Tryz.prog.info? 42).map (fun i => (i.zero, i.size, i.bytes)) = some (some (.agg #[.int .i64 0, .string ⟨#[]⟩, .string ⟨#[]⟩, .int .i64 0, .int .i64 0, .int .i64 0]), 6, 64) := by kernel_rfl
theorem insert_rowIncident {cur A t B : List Value} {at_ n cap : Nat} (hlt : at_ < n) (hroom : n < cap) (hcl : cur.length = cap * 6) (hct : cur.take (n * 6) = A ++ B) (hA : A.length = at_ * 6) (hB : B.length = (n - at_) * 6) (ht : t.length = 6) :
    (splice (splice cur ((at_ + 1) * 6) B) (at_ * 6) t).length = cap * 6 ∧ (splice (splice cur ((at_ + 1) * 6) B) (at_ * 6) t).take ((n + 1) * 6) = A ++ (t ++ B) := by
  have e1 : (at_ + 1) * 6 = at_ * 6 + 6 := by omega
  have e2 : (n + 1) * 6 = at_ * 6 + 6 + (n - at_) * 6 := by omega
  have e3 : n * 6 = at_ * 6 + (n - at_) * 6 := by omega
  rw [e3] at hct
  have h1 : (splice cur (at_ * 6 + 6) B).length = cur.length := length_splice _ _ _ (by omega)
  rw [e1, e2]
  exact ⟨by rw [length_splice _ _ _ (by omega), h1, hcl], splice_shift hct hA hB ht (by omega)⟩
theorem fill_rowIncident {cur A t B : List Value} {at_ n cap : Nat} (hlt : at_ < n) (hroom : n < cap) (hcl : cur.length = cap * 6) (hct : cur.take (at_ * 6) = A) (hA : A.length = at_ * 6) (hB : B.length = (n - at_) * 6) (ht : t.length = 6) :
    (splice (splice cur (at_ * 6) t) ((at_ + 1) * 6) B).length = cap * 6 ∧ (splice (splice cur (at_ * 6) t) ((at_ + 1) * 6) B).take ((n + 1) * 6) = A ++ (t ++ B) := by
  have e1 : (at_ + 1) * 6 = at_ * 6 + 6 := by omega
  have e2 : (n + 1) * 6 = at_ * 6 + 6 + (n - at_) * 6 := by omega
  have h1 : (splice cur (at_ * 6) t).length = cur.length := length_splice _ _ _ (by omega)
  rw [e1, e2]
  exact ⟨by rw [length_splice _ _ _ (by omega), h1, hcl], splice_fill hct hA hB ht (by omega)⟩


end Go.Proofs.YtgnbhcgagdfaiaaGreatDoor

namespace Go.Proofs.YtgnbhcgagdfaiaaGreatDoor
open Go.RowKit
set_option linter.unusedVariables false

theorem befI_trans {a b c : DIncident} (h1 : befI a b = true) (h2 : befI b c = true) : befI a c = true := by
  unfold befI at *
  by_cases e1 : a.day = b.day
  · rw [if_pos e1] at h1
    by_cases e2 : b.day = c.day
    · rw [if_pos e2] at h2
      rw [if_pos (e1.trans e2)]
      by_cases e3 : a.place = b.place
      · rw [if_pos e3] at h1
        by_cases e4 : b.place = c.place
        · rw [if_pos e4] at h2
          rw [if_pos (e3.trans e4)]
          exact ltS_trans h1 h2
        · rw [if_neg e4] at h2
          rw [if_neg (fun e => e4 (e3.symm.trans e)), e3]; exact h2
      · rw [if_neg e3] at h1
        by_cases e4 : b.place = c.place
        · rw [if_pos e4] at h2
          rw [if_neg (fun e => e3 (e.trans e4.symm)), ← e4]; exact h1
        · rw [if_neg e4] at h2
          have h3 := ltS_trans h1 h2
          rw [if_neg (fun e => by rw [e] at h3; exact absurd h3 (by rw [ltS_irrefl]; simp))]; exact h3
    · rw [if_neg e2] at h2
      have := of_decide_eq_true h2
      rw [if_neg (by omega)]; exact decide_eq_true (by omega)
  · rw [if_neg e1] at h1
    have h1 := of_decide_eq_true h1
    by_cases e2 : b.day = c.day
    · rw [if_neg (by omega)]; exact decide_eq_true (by omega)
    · rw [if_neg e2] at h2
      have := of_decide_eq_true h2
      rw [if_neg (by omega)]; exact decide_eq_true (by omega)
theorem inc_back {xs : List DIncident} (h : incsB xs = true) (t : DIncident) : ∀ (a b : Nat) (hab : a ≤ b) (hb : b < xs.length), cmpInc xs[b] t < 0 → cmpInc (xs[a]'(by omega)) t < 0 := by
  intro a b hab
  induction hab with
  | refl => intro hb h0; exact h0
  | @step m hm ih =>
    intro hb h0
    have h1 := incsB_two h hb
    replace h0 : cmpInc (xs[m + 1]'hb) t < 0 := h0
    have h2 : befI xs[m + 1] t = true := by rw [← cmpInc_lt]; exact decide_eq_true h0
    refine ih (by omega) ?_
    have h3 := befI_trans h1 h2
    rw [← cmpInc_lt] at h3
    exact of_decide_eq_true h3
def addIncidentC (xs : List DIncident) (x : DIncident) : Int := if incsB xs then (if incB x then (if hasIncident xs x then 4 else if xs.length = 48 then 5 else 0) else 2) else 1
def addIncidentF (xs : List DIncident) (x : DIncident) : List DIncident := if addIncidentC xs x = 0 then xs.take (atIncident xs x) ++ x :: xs.drop (atIncident xs x) else []
theorem addIncident_bad {xs : List DIncident} {x : DIncident} {c : Int} (h : addIncidentC xs x = c) (h0 : c ≠ 0) : addIncidentC xs x = c ∧ addIncidentF xs x = [] := ⟨h, by unfold addIncidentF; rw [if_neg (by rw [h]; exact h0)]⟩
theorem addIncident_ok {xs : List DIncident} {x : DIncident} (h : addIncidentC xs x = 0) : incsB xs = true ∧ incB x = true ∧ hasIncident xs x = false ∧ xs.length < 48 := by
  unfold addIncidentC at h
  split at h
  · rename_i h1
    split at h
    · rename_i h2
      split at h
      · cases h
      · rename_i h3
        split at h
        · cases h
        · rename_i h4
          simp only [Bool.not_eq_true] at h3
          refine ⟨h1, h2, h3, ?_⟩
          have : xs.length ≤ 48 := incsB_len h1
          omega
    · cases h
  · cases h

end Go.Proofs.YtgnbhcgagdfaiaaGreatDoor

namespace Go.Proofs.YtgnbhcgagdfaiaaGreatDoor
set_option linter.unusedVariables false

theorem ordered_lt {α : Type} {bef : α → α → Prop} (htr : ∀ a b c, bef a b → bef b c → bef a c) {xs : List α} (h : ∀ i (hi : i + 1 < xs.length), bef xs[i] xs[i + 1]) : ∀ (j i : Nat) (hj : j < xs.length) (hi : i < j), bef (xs[i]'(by omega)) xs[j] := by
  intro j
  induction j with
  | zero => intro i _ hi; omega
  | succ j ih =>
    intro i hj hi
    rcases Nat.lt_or_eq_of_le (Nat.le_of_lt_succ hi) with h1 | rfl
    · exact htr _ _ _ (ih i (by omega) h1) (h j hj)
    · exact h i hj
theorem put_ordered {α : Type} {bef : α → α → Prop} (htr : ∀ a b c, bef a b → bef b c → bef a c) {xs : List α} {x : α} {k : Nat} (h : ∀ i (hi : i + 1 < xs.length), bef xs[i] xs[i + 1]) (hle : k ≤ xs.length)
    (hb : ∀ m (hm : m < xs.length), m < k → bef xs[m] x) (ha : ∀ m (hm : m < xs.length), k ≤ m → bef x xs[m]) :
    (xs.take k ++ x :: xs.drop k).length = xs.length + 1 ∧ (∀ y ∈ xs.take k ++ x :: xs.drop k, y ∈ xs ∨ y = x) ∧ (∀ i (hi : i + 1 < (xs.take k ++ x :: xs.drop k).length), bef (xs.take k ++ x :: xs.drop k)[i] (xs.take k ++ x :: xs.drop k)[i + 1]) ∧ ∃ hk : k < (xs.take k ++ x :: xs.drop k).length, (xs.take k ++ x :: xs.drop k)[k] = x := by
  have hlt : (xs.take k).length = k := by rw [List.length_take]; omega
  have hlen : (xs.take k ++ x :: xs.drop k).length = xs.length + 1 := by rw [List.length_append, List.length_cons, List.length_drop, hlt]; omega
  have hat : ∀ i (hi : i < (xs.take k ++ x :: xs.drop k).length), (i < k → ∃ h : i < xs.length, (xs.take k ++ x :: xs.drop k)[i] = xs[i]) ∧ (i = k → (xs.take k ++ x :: xs.drop k)[i] = x) ∧ (k < i → ∃ h : i - 1 < xs.length, (xs.take k ++ x :: xs.drop k)[i] = xs[i - 1]) := fun i hi => by
    refine ⟨fun h => ⟨by omega, ?_⟩, fun h => ?_, fun h => ⟨by omega, ?_⟩⟩
    · rw [List.getElem_append_left (by omega), List.getElem_take]
    · subst h
      rw [List.getElem_append_right (by omega)]
      simp [hlt]
    · rw [List.getElem_append_right (by omega)]
      obtain ⟨j, rfl⟩ : ∃ j, i = k + 1 + j := ⟨i - (k + 1), by omega⟩
      simp only [hlt, show k + 1 + j - k = j + 1 by omega, List.getElem_cons_succ, List.getElem_drop]
      congr 1
      omega
  have hlt2 := ordered_lt htr h
  refine ⟨hlen, fun y hy => ?_, fun i hi => ?_, by omega, (hat k (by omega)).2.1 rfl⟩
  · rcases List.mem_append.1 hy with hy | hy
    · exact .inl (List.mem_of_mem_take hy)
    · rcases List.mem_cons.1 hy with rfl | hy
      · exact .inr rfl
      · exact .inl (List.mem_of_mem_drop hy)
  · rcases Nat.lt_trichotomy i k with h1 | h1 | h1
    · obtain ⟨h2, e2⟩ := (hat i (by omega)).1 h1
      rw [e2]
      rcases Nat.lt_or_ge (i + 1) k with h3 | h3
      · obtain ⟨h4, e4⟩ := (hat (i + 1) hi).1 h3
        rw [e4]; exact hlt2 (i + 1) i h4 (by omega)
      · rw [(hat (i + 1) hi).2.1 (by omega)]; exact hb i h2 h1
    · rw [(hat i (by omega)).2.1 h1]
      obtain ⟨h4, e4⟩ := (hat (i + 1) hi).2.2 (by omega)
      rw [e4]; exact ha _ h4 (by omega)
    · obtain ⟨h2, e2⟩ := (hat i (by omega)).2.2 h1
      obtain ⟨h4, e4⟩ := (hat (i + 1) hi).2.2 (by omega)
      rw [e2, e4]; exact hlt2 _ _ h4 (by omega)
theorem posF_specP {α : Type} (p : α → Bool) (xs : List α) : (∀ m (h : m < xs.length), m < posF p xs → p xs[m] = true) ∧ (∀ h : posF p xs < xs.length, p xs[posF p xs] = false) := by
  unfold posF
  induction xs with
  | nil => exact ⟨fun m h => absurd h (Nat.not_lt_zero _), fun h => absurd h (Nat.not_lt_zero _)⟩
  | cons x xs ih =>
    cases hp : p x with
    | false =>
      have e : (x :: xs).takeWhile p = [] := by rw [List.takeWhile_cons, hp]; rfl
      rw [e]
      exact ⟨fun m h hm => absurd hm (Nat.not_lt_zero _), fun h => hp⟩
    | true =>
      have e : (x :: xs).takeWhile p = x :: xs.takeWhile p := by rw [List.takeWhile_cons, hp]; rfl
      simp only [e, List.length_cons]
      refine ⟨fun m h hm => ?_, fun h => ?_⟩
      · cases m with
        | zero => exact hp
        | succ m => exact ih.1 m (by simpa using h) (by omega)
      · have := ih.2 (by omega)
        simpa using this
end Go.Proofs.YtgnbhcgagdfaiaaGreatDoor

namespace Go.Proofs.YtgnbhcgagdfaiaaGreatDoor
open Go.RowKit
set_option linter.unusedVariables false

theorem befI_irrefl (a : DIncident) : befI a a = false := by unfold befI; rw [if_pos rfl, if_pos rfl]; exact ltS_irrefl _
theorem befI_asymm {a b : DIncident} (h : befI a b = true) : befI b a = false := by
  cases h2 : befI b a with
  | false => rfl
  | true => have := befI_trans h h2; rw [befI_irrefl] at this; cases this
theorem befI_eq {a b : DIncident} (h1 : befI a b = false) (h2 : befI b a = false) : a.day = b.day ∧ a.place = b.place ∧ a.cause = b.cause := by
  unfold befI at h1 h2
  by_cases e1 : a.day = b.day
  · rw [if_pos e1] at h1
    rw [if_pos e1.symm] at h2
    by_cases e2 : a.place = b.place
    · rw [if_pos e2] at h1
      rw [if_pos e2.symm] at h2
      exact ⟨e1, e2, ltS_tri h1 h2⟩
    · rw [if_neg e2] at h1
      rw [if_neg (fun e => e2 e.symm)] at h2
      exact absurd (ltS_tri h1 h2) e2
  · rw [if_neg e1] at h1
    rw [if_neg (fun e => e1 e.symm)] at h2
    have := of_decide_eq_false h1
    have := of_decide_eq_false h2
    omega
theorem cmpInc_same {a b : DIncident} (h : a.day = b.day ∧ a.place = b.place ∧ a.cause = b.cause) : cmpInc a b = 0 := by
  unfold cmpInc
  rw [orI_three, if_pos (cmI_zero.2 h.1), if_pos (cmT_zero.2 h.2.1)]
  exact cmT_zero.2 h.2.2
theorem cmpInc_zero {a b : DIncident} : cmpInc a b = 0 ↔ (befI a b = false ∧ befI b a = false) := by
  constructor
  · intro h
    have h1 : befI a b = false := by rw [← cmpInc_lt]; exact decide_eq_false (by omega)
    refine ⟨h1, ?_⟩
    cases h2 : befI b a with
    | false => rfl
    | true =>
      exfalso
      have hall : a.day = b.day ∧ a.place = b.place ∧ a.cause = b.cause := by
        unfold cmpInc at h
        rw [orI_three] at h
        by_cases e1 : cmI a.day b.day = 0
        · rw [if_pos e1] at h
          by_cases e2 : cmT a.place b.place = 0
          · rw [if_pos e2] at h
            exact ⟨cmI_zero.1 e1, cmT_zero.1 e2, cmT_zero.1 h⟩
          · rw [if_neg e2] at h; exact absurd h e2
        · rw [if_neg e1] at h; exact absurd h e1
      unfold befI at h2
      rw [if_pos hall.1.symm, if_pos hall.2.1.symm, hall.2.2, ltS_irrefl] at h2
      cases h2
  · rintro ⟨h1, h2⟩
    exact cmpInc_same (befI_eq h1 h2)
theorem incs_of {L : List DIncident} (h1 : ∀ y ∈ L, incB y = true) (h2 : ∀ i (hi : i + 1 < L.length), befI L[i] L[i + 1] = true) (h3 : L.length ≤ 48) : incsB L = true := by
  unfold incsB
  rw [decide_eq_true h3, Bool.and_true, allIdx_true]
  intro i hi
  unfold incOk
  rw [getD_of_lt hi, h1 _ (List.getElem_mem hi), Bool.true_and]
  cases i with
  | zero => rfl
  | succ i =>
    rw [Nat.add_sub_cancel, getD_of_lt (show i < L.length by omega)]
    rw [h2 i hi, Bool.or_true]
theorem incs_lt {xs : List DIncident} (h : incsB xs = true) (j i : Nat) (hj : j < xs.length) (hi : i < j) : befI (xs[i]'(by omega)) xs[j] = true :=
  ordered_lt (bef := fun a b : DIncident => befI a b = true) (fun _ _ _ h1 h2 => befI_trans h1 h2) (fun i hi => incsB_two h hi) j i hj hi
/-- A list into which an incident is put. -/
theorem addInc_valid {xs : List DIncident} {x : DIncident} (hc : addIncidentC xs x = 0) :
    incsB (addIncidentF xs x) = true ∧ (addIncidentF xs x).length = xs.length + 1 ∧ ∃ k, ∃ hk : k < (addIncidentF xs x).length, (addIncidentF xs x)[k] = x := by
  obtain ⟨hv, ho, hh, hl⟩ := addIncident_ok hc
  have hF : addIncidentF xs x = xs.take (atIncident xs x) ++ x :: xs.drop (atIncident xs x) := by unfold addIncidentF; rw [if_pos hc]
  rw [hF]
  have hp := posF_specP (fun y : DIncident => decide (cmpInc y x < 0)) xs
  have hle : atIncident xs x ≤ xs.length := posF_le _ _
  have hb : ∀ m (hm : m < xs.length), m < atIncident xs x → befI xs[m] x = true := fun m hm h => by rw [← cmpInc_lt]; exact hp.1 m hm h
  have ha : ∀ m (hm : m < xs.length), atIncident xs x ≤ m → befI x xs[m] = true := fun m hm h => by
    have h1 : atIncident xs x < xs.length := by omega
    have h2 : befI xs[atIncident xs x] x = false := by rw [← cmpInc_lt]; exact hp.2 h1
    have h3 : befI x xs[atIncident xs x] = true := by
      cases h4 : befI x xs[atIncident xs x] with
      | true => rfl
      | false =>
        unfold hasIncident at hh
        rw [List.getElem?_eq_getElem h1] at hh
        have h5 : (cmpInc xs[atIncident xs x] x == 0) = false := hh
        rw [beq_eq_false_iff_ne] at h5
        exact absurd (cmpInc_zero.2 ⟨h2, h4⟩) h5
    rcases Nat.lt_or_eq_of_le h with h4 | h4
    · exact befI_trans h3 (incs_lt hv m (atIncident xs x) hm h4)
    · have e : xs[m] = xs[atIncident xs x] := by congr 1; exact h4.symm
      rw [e]; exact h3
  obtain ⟨p1, p2, p3, p4, p5⟩ := put_ordered (bef := fun a b : DIncident => befI a b = true) (fun _ _ _ h1 h2 => befI_trans h1 h2) (fun i hi => incsB_two hv hi) hle hb ha
  refine ⟨incs_of (fun y hy => ?_) p3 (by omega), p1, _, p4, p5⟩
  rcases p2 y hy with h | rfl
  · obtain ⟨m, hm, rfl⟩ := List.getElem_of_mem h
    exact incsB_one hv hm
  · exact ho
theorem addIncident_mem {xs : List DIncident} {x y : DIncident} (h : y ∈ addIncidentF xs x) : y ∈ xs ∨ y = x := by
  unfold addIncidentF at h
  split at h
  · rcases List.mem_append.1 h with h | h
    · exact .inl (List.mem_of_mem_take h)
    · rcases List.mem_cons.1 h with h | h
      · exact .inr h
      · exact .inl (List.mem_of_mem_drop h)
  · cases h
theorem addIncident_length {xs : List DIncident} {x : DIncident} : (addIncidentF xs x).length ≤ xs.length + 1 := by
  unfold addIncidentF
  split
  · simp; omega
  · simp
set_option maxRecDepth 100000 in
set_option maxHeartbeats 8000000 in
theorem specAddIncident_any (v : Value) (xs : List DIncident) (fp : List Nat) (x : DIncident) (w : World) (hx : Sl fIncident.cod w v xs fp) (hok : fIncident.ok x) :
    Calls Tryz.prog 76 #[v, .agg #[.int .i64 x.day, .string x.place, .string x.cause, .int .i64 x.level, .int .i64 x.caught, .int .i64 x.buried]] w fun e w' => ∃ v', e = .returned (.tuple #[v', .int .i64 (addIncidentC xs x)]) ∧ Own fIncident w' w.heap.size 42 v' (addIncidentF xs x) ∧ Below w.heap.size w w' := by
  obtain ⟨A, cap, rfl, hlen, hcap⟩ := hx.form
  obtain ⟨i0, hi, hz0, hz1, hz2⟩ := info_parts infoIncidentK
  have hfp := hx.lt
  have hB0 : Below w.heap.size w (w.alloc (.cells #[.int .i64 x.day, .string x.place, .string x.cause, .int .i64 x.level, .int .i64 x.caught, .int .i64 x.buried] 42)) := (Below.refl _ _).alloc (Nat.le_refl _) _
  have hp := PIncident.box w x 42
  replace hx := hx.below' hB0
  go_enter Tryz.func76, Tryz.ntmps76
  go_wp2_with fail
  refine (l28Ok_any _ xs fp _ hx).mono ?_
  rintro e w1 ⟨rfl, hb1⟩
  have hp1 := hp.below' hb1
  have hx1 := hx.below' hb1
  have hB1 := hB0.trans (hb1.mono hB0.size)
  clear hp hx hb1 hB0
  cases hv : incsB xs
  · have HE := Lib.hid (addIncident_bad (x := x) (show addIncidentC xs x = 1 by unfold addIncidentC; rw [hv]; rfl) (by decide))
    go_wp2
    go_ret2
    exact ⟨_, by rw [HE.out.1]; rfl, by rw [HE.out.2]; exact Own.nil _ _ _ _, hB1⟩
  have hlen2 := incsB_len hv
  go_wp2_with fail
  refine (l28One_any _ _ x _ hp1 hok).mono ?_
  rintro e w2 ⟨rfl, hb2⟩
  have hp2 := hp1.below' hb2
  have hx2 := hx1.below' hb2
  have hB2 := hB1.trans (hb2.mono hB1.size)
  have hgx := hp2.lt
  clear hp1 hx1 hb2 hB1
  cases ho : incB x
  · have HE := Lib.hid (addIncident_bad (show addIncidentC xs x = 2 by unfold addIncidentC; rw [hv, ho]; rfl) (by decide))
    go_wp2
    go_ret2
    exact ⟨_, by rw [HE.out.1]; rfl, by rw [HE.out.2]; exact Own.nil _ _ _ _, hB2⟩
  go_wp2
  go_loopw [6] (fun i wr => ∃ k : Nat, k ≤ xs.length ∧ i = .int .i64 k ∧ Hid (∀ m (h : m < xs.length), m < k → befI xs[m] x = true) ∧ Below w2.heap.size w2 wr) (fun i _ => xs.length - (intOf i).toNat)
  case atStart => exact ⟨0, Nat.zero_le _, rfl, fun m _ h => absurd h (Nat.not_lt_zero _), Below.refl _ _⟩
  case round =>
    obtain ⟨k, hk, rfl, HA, hb⟩ := hrel
    by_cases hlt : k < xs.length
    · obtain ⟨b1, off, rfl, _, hok1, hpm⟩ := PIncident.elem (hx2.below' hb) hlt
      go_wp2_with fail
      refine (l28Before_any _ _ _ _ _ _ _ hpm (hp2.below' hb)).mono ?_
      rintro e w3 ⟨rfl, hb3⟩
      have hpm3 := hpm.below' hb3
      have hb4 := hb.trans (hb3.mono hb.size)
      clear hb3 hpm hb
      cases hq : befI xs[k] x
      rotate_left
      · have HA2 : Hid (∀ m (h : m < xs.length), m < k + 1 → befI xs[m] x = true) := fun m h hm => by
          rcases Nat.lt_or_eq_of_le (Nat.le_of_lt_succ hm) with h1 | rfl
          · exact HA.out m h h1
          · exact hq
        clear HA
        go_wp2
        go_roundw
        case rel => exact ⟨k + 1, by omega, by go_num, HA2, hb4⟩
        case measure => simp [intOf]; omega
      have HAT : Hid (atIncident xs x = k) := posF_is _ xs k hk (fun m h hm => by show decide _ = true; rw [cmpInc_lt]; exact HA.out m h hm) (fun h => by show decide _ = false; rw [cmpInc_lt]; exact hq)
      go_wp2_with fail
      refine (l28Before_any _ _ _ _ _ _ _ (hp2.below' hb4) hpm3).mono ?_
      rintro e w5 ⟨rfl, hb5⟩
      have hb6 := hb4.trans (hb5.mono hb4.size)
      have hB8 := hB2.trans (hb6.mono hB2.size)
      have hx8 := hx2.below' hb6
      have hp8 := hp2.below' hb6
      clear hb5 hb4 hpm3 HA hb6
      cases hr : befI x xs[k]
      · have hh : hasIncident xs x = true := by
          unfold hasIncident
          rw [HAT.out, List.getElem?_eq_getElem hlt]
          show (cmpInc _ _ == 0) = true
          rw [beq_iff_eq]; exact cmpInc_zero.2 ⟨hq, hr⟩
        have HE := Lib.hid (addIncident_bad (show addIncidentC xs x = 4 by unfold addIncidentC; rw [hv, ho, hh]; rfl) (by decide))
        clear hh ho hv hq hr
        go_wp2
        go_ret2
        exact ⟨_, by rw [HE.out.1]; rfl, by rw [HE.out.2]; exact Own.nil _ _ _ _, hB8⟩
      have hh : hasIncident xs x = false := by
        unfold hasIncident
        rw [HAT.out, List.getElem?_eq_getElem hlt]
        show (cmpInc _ _ == 0) = false
        rw [beq_eq_false_iff_ne]; exact fun h => by have := (cmpInc_zero.1 h).2; rw [hr] at this; cases this
      generalize hW8 : w5 = W8 at *
      clear hW8 hq hr
      by_cases hM : xs.length = 48
      · have HE := Lib.hid (addIncident_bad (show addIncidentC xs x = 5 by unfold addIncidentC; rw [hv, ho, hh, if_pos hM]; rfl) (by decide))
        have eM : ((xs.length : Int) == 48) = true := by rw [hM]; rfl
        clear hM hh ho hv
        go_wp2
        go_ret2
        exact ⟨_, by rw [HE.out.1]; rfl, by rw [HE.out.2]; exact Own.nil _ _ _ _, hB8⟩
      have hC0 : addIncidentC xs x = 0 := by unfold addIncidentC; rw [hv, ho, hh, if_neg hM]; rfl
      have HC := Lib.hid hC0
      have HF : Hid (addIncidentF xs x = xs.take k ++ x :: xs.drop k) := by show _ = _; unfold addIncidentF; rw [if_pos hC0, HAT.out]
      have eM : ((xs.length : Int) == 48) = false := by rw [beq_eq_false_iff_ne]; omega
      clear hC0 hM hh ho hv HAT
      have hB10 : Below W8.heap.size W8 (W8.alloc (.cells #[] 42)) := (Below.refl _ _).alloc (Nat.le_refl _) _
      have hx9 := hx8.below' hB10
      have hp9 := hp8.below' hB10
      have hB11 := hB8.trans (hB10.mono hB8.size)
      have hsz8 : w.heap.size + 1 ≤ W8.heap.size := hp8.lt
      have hs11 : w.heap.size + 1 ≤ (W8.alloc (.cells #[] 42)).heap.size := by simp; omega
      have ho5 := Own.lit0m fIncident (w := W8) (base := w.heap.size + 1) hsz8 (e := 42)
      have hsrc := hx9.src_take (k := k) (c := cap) (by omega)
      go_wp2_with (at_builtin; refine wpList_append_src (E := fIncident) rfl _ _ 36 rfl (w.heap.size + 1) 42 i0 (.agg #[.int .i64 0, .string ⟨#[]⟩, .string ⟨#[]⟩, .int .i64 0, .int .i64 0, .int .i64 0]) 64 Tryz.underlying36 hi hz0 hz1 hz2 rfl (.slice (some ⟨W8.heap.size, 0, none⟩) 0 0) [] rfl ho5 _ (xs.take k) rfl hsrc (by simp <;> omega) (by decide) hs11 ?_)
      intro v' u hown hbu
      try rw [List.nil_append] at hown
      have hB12 := hB11.trans (hbu.mono (Nat.le_succ _))
      have hx10 := hx9.below hbu (fun b hb => by have := hfp b hb; omega)
      have hp10 := hp9.below hbu (Nat.lt_succ_self _)
      have hlk : (xs.take k).length = k := by rw [List.length_take]; omega
      have hown1 : u.ownsRow (w.heap.size + 1) 42 6 v' k ((xs.take k).flatMap fIncident.enc) := by
        have h : u.ownsRow (w.heap.size + 1) 42 6 v' (xs.take k).length ((xs.take k).flatMap fIncident.enc) := hown
        rw [hlk] at h; exact h
      have hs12 : w.heap.size + 1 ≤ u.heap.size := hp10.lt
      obtain ⟨d0, d1, d2, d3, d4, d5⟩ := id hp10
      clear hown hx9 hp9 hx8 hp8 hsrc hbu
      go_wp2_with (at_builtin; refine wpList_append_one rfl _ _ 36 rfl (w.heap.size + 1) 42 i0 (.agg #[.int .i64 0, .string ⟨#[]⟩, .string ⟨#[]⟩, .int .i64 0, .int .i64 0, .int .i64 0]) 6 64 Tryz.underlying36 hi hz0 hz1 hz2 rfl (by decide) v' k _ rfl hown1 [.int .i64 x.day, .string x.place, .string x.cause, .int .i64 x.level, .int .i64 x.caught, .int .i64 x.buried] rfl (by intro u hu; simp only [List.mem_cons, List.not_mem_nil, or_false] at hu; rcases hu with rfl | rfl | rfl | rfl | rfl | rfl <;> rfl) rfl (by omega) (by decide) hs12 ?_)
      intro v2 u2 hown2 hbu2 _ _
      have hB13 := hB12.trans (hbu2.mono (Nat.le_succ _))
      have hx11 := hx10.below hbu2 (fun b hb => by have := hfp b hb; omega)
      have hp11 := hp10.below hbu2 (Nat.lt_succ_self _)
      have ho6 : Own fIncident u2 (w.heap.size + 1) 42 v2 (xs.take k ++ [x]) := Own.push x (by rw [hlk]) hown2
      have hs13 : w.heap.size + 1 ≤ u2.heap.size := hp11.lt
      clear hown2 hown1 hx10 hp10 hbu2 d0 d1 d2 d3 d4 d5
      have hcl : k < cap := by omega
      have hsrc2 := hx11.src_drop (k := k) (c := cap - k) (by omega)
      go_wp2_with (at_builtin; refine wpList_append_src (E := fIncident) rfl _ _ 36 rfl (w.heap.size + 1) 42 i0 (.agg #[.int .i64 0, .string ⟨#[]⟩, .string ⟨#[]⟩, .int .i64 0, .int .i64 0, .int .i64 0]) 64 Tryz.underlying36 hi hz0 hz1 hz2 rfl v2 (xs.take k ++ [x]) rfl ho6 _ (xs.drop k) rfl hsrc2 (by simp <;> omega) (by decide) hs13 ?_)
      intro v3 u3 hown3 hbu3
      have hB14 := hB13.trans (hbu3.mono (Nat.le_succ _))
      have hEQ : xs.take k ++ [x] ++ xs.drop k = xs.take k ++ x :: xs.drop k := by simp
      have ho7 : Own fIncident u3 w.heap.size 42 v3 (addIncidentF xs x) := by rw [HF.out]; first | exact ownM_ hown3 (Nat.le_succ _) | (rw [← hEQ]; exact ownM_ hown3 (Nat.le_succ _)) | (have h9 := hown3; simp only [List.append_nil, List.take_length, List.drop_length] at h9 ⊢; exact ownM_ h9 (Nat.le_succ _))
      clear hown3 ho6
      go_wp2
      go_ret2
      exact ⟨_, by rw [HC.out]; rfl, ho7, hB14⟩
    · have hkl : k = xs.length := by omega
      have HAT : Hid (atIncident xs x = k) := posF_is _ xs k hk (fun m h hm => by show decide _ = true; rw [cmpInc_lt]; exact HA.out m h hm) (fun h => absurd h hlt)
      have hh : hasIncident xs x = false := by
        unfold hasIncident
        rw [HAT.out, List.getElem?_eq_none (by omega)]
      have hB8 := hB2.trans (hb.mono hB2.size)
      have hx8 := hx2.below' hb
      have hp8 := hp2.below' hb
      clear HA hkl hb
      generalize hW8 : wr = W8 at *
      clear hW8
      by_cases hM : xs.length = 48
      · have HE := Lib.hid (addIncident_bad (show addIncidentC xs x = 5 by unfold addIncidentC; rw [hv, ho, hh, if_pos hM]; rfl) (by decide))
        have eM : ((xs.length : Int) == 48) = true := by rw [hM]; rfl
        clear hM hh ho hv
        go_wp2
        go_ret2
        exact ⟨_, by rw [HE.out.1]; rfl, by rw [HE.out.2]; exact Own.nil _ _ _ _, hB8⟩
      have hC0 : addIncidentC xs x = 0 := by unfold addIncidentC; rw [hv, ho, hh, if_neg hM]; rfl
      have HC := Lib.hid hC0
      have HF : Hid (addIncidentF xs x = xs.take k ++ x :: xs.drop k) := by show _ = _; unfold addIncidentF; rw [if_pos hC0, HAT.out]
      have eM : ((xs.length : Int) == 48) = false := by rw [beq_eq_false_iff_ne]; omega
      clear hC0 hM hh ho hv HAT
      have hB10 : Below W8.heap.size W8 (W8.alloc (.cells #[] 42)) := (Below.refl _ _).alloc (Nat.le_refl _) _
      have hx9 := hx8.below' hB10
      have hp9 := hp8.below' hB10
      have hB11 := hB8.trans (hB10.mono hB8.size)
      have hsz8 : w.heap.size + 1 ≤ W8.heap.size := hp8.lt
      have hs11 : w.heap.size + 1 ≤ (W8.alloc (.cells #[] 42)).heap.size := by simp; omega
      have ho5 := Own.lit0m fIncident (w := W8) (base := w.heap.size + 1) hsz8 (e := 42)
      have hsrc := hx9.src_take (k := k) (c := cap) (by omega)
      go_wp2_with (at_builtin; refine wpList_append_src (E := fIncident) rfl _ _ 36 rfl (w.heap.size + 1) 42 i0 (.agg #[.int .i64 0, .string ⟨#[]⟩, .string ⟨#[]⟩, .int .i64 0, .int .i64 0, .int .i64 0]) 64 Tryz.underlying36 hi hz0 hz1 hz2 rfl (.slice (some ⟨W8.heap.size, 0, none⟩) 0 0) [] rfl ho5 _ (xs.take k) rfl hsrc (by simp <;> omega) (by decide) hs11 ?_)
      intro v' u hown hbu
      try rw [List.nil_append] at hown
      have hB12 := hB11.trans (hbu.mono (Nat.le_succ _))
      have hx10 := hx9.below hbu (fun b hb => by have := hfp b hb; omega)
      have hp10 := hp9.below hbu (Nat.lt_succ_self _)
      have hlk : (xs.take k).length = k := by rw [List.length_take]; omega
      have hown1 : u.ownsRow (w.heap.size + 1) 42 6 v' k ((xs.take k).flatMap fIncident.enc) := by
        have h : u.ownsRow (w.heap.size + 1) 42 6 v' (xs.take k).length ((xs.take k).flatMap fIncident.enc) := hown
        rw [hlk] at h; exact h
      have hs12 : w.heap.size + 1 ≤ u.heap.size := hp10.lt
      obtain ⟨d0, d1, d2, d3, d4, d5⟩ := id hp10
      clear hown hx9 hp9 hx8 hp8 hsrc hbu
      go_wp2_with (at_builtin; refine wpList_append_one rfl _ _ 36 rfl (w.heap.size + 1) 42 i0 (.agg #[.int .i64 0, .string ⟨#[]⟩, .string ⟨#[]⟩, .int .i64 0, .int .i64 0, .int .i64 0]) 6 64 Tryz.underlying36 hi hz0 hz1 hz2 rfl (by decide) v' k _ rfl hown1 [.int .i64 x.day, .string x.place, .string x.cause, .int .i64 x.level, .int .i64 x.caught, .int .i64 x.buried] rfl (by intro u hu; simp only [List.mem_cons, List.not_mem_nil, or_false] at hu; rcases hu with rfl | rfl | rfl | rfl | rfl | rfl <;> rfl) rfl (by omega) (by decide) hs12 ?_)
      intro v2 u2 hown2 hbu2 _ _
      have hB13 := hB12.trans (hbu2.mono (Nat.le_succ _))
      have hx11 := hx10.below hbu2 (fun b hb => by have := hfp b hb; omega)
      have hp11 := hp10.below hbu2 (Nat.lt_succ_self _)
      have ho6 : Own fIncident u2 (w.heap.size + 1) 42 v2 (xs.take k ++ [x]) := Own.push x (by rw [hlk]) hown2
      have hs13 : w.heap.size + 1 ≤ u2.heap.size := hp11.lt
      clear hown2 hown1 hx10 hp10 hbu2 d0 d1 d2 d3 d4 d5
      obtain rfl : k = xs.length := by omega
      have hD0 : xs.drop xs.length = [] := List.drop_length
      rcases Nat.eq_or_lt_of_le hlen with hce | hcl
      · subst hce
        have hsrc2 : ∀ A, Src fIncident u2 (.slice A 0 0) ([] : List DIncident) := fun A => Src.empty
        cases A
        all_goals
          go_wp2_with (at_builtin; refine wpList_append_src (E := fIncident) rfl _ _ 36 rfl (w.heap.size + 1) 42 i0 (.agg #[.int .i64 0, .string ⟨#[]⟩, .string ⟨#[]⟩, .int .i64 0, .int .i64 0, .int .i64 0]) 64 Tryz.underlying36 hi hz0 hz1 hz2 rfl v2 (xs.take xs.length ++ [x]) rfl ho6 _ [] rfl (hsrc2 _) (by simp <;> omega) (by decide) hs13 ?_)
          intro v3 u3 hown3 hbu3
          have hB14 := hB13.trans (hbu3.mono (Nat.le_succ _))
          have hEQ : xs.take xs.length ++ [x] ++ xs.drop xs.length = xs.take xs.length ++ x :: xs.drop xs.length := by simp
          have ho7 : Own fIncident u3 w.heap.size 42 v3 (addIncidentF xs x) := by rw [HF.out]; first | exact ownM_ hown3 (Nat.le_succ _) | (rw [← hEQ]; exact ownM_ hown3 (Nat.le_succ _)) | (have h9 := hown3; simp only [List.append_nil, List.take_length, List.drop_length] at h9 ⊢; exact ownM_ h9 (Nat.le_succ _))
          clear hown3 ho6
          go_wp2
          go_ret2
          exact ⟨_, by rw [HC.out]; rfl, ho7, hB14⟩
      · have hsrc2 : ∀ A c, Src fIncident u2 (.slice A 0 c) ([] : List DIncident) := fun A c => Src.empty
        cases A
        all_goals
          go_wp2_with (at_builtin; refine wpList_append_src (E := fIncident) rfl _ _ 36 rfl (w.heap.size + 1) 42 i0 (.agg #[.int .i64 0, .string ⟨#[]⟩, .string ⟨#[]⟩, .int .i64 0, .int .i64 0, .int .i64 0]) 64 Tryz.underlying36 hi hz0 hz1 hz2 rfl v2 (xs.take xs.length ++ [x]) rfl ho6 _ [] rfl (hsrc2 _ _) (by simp <;> omega) (by decide) hs13 ?_)
          intro v3 u3 hown3 hbu3
          have hB14 := hB13.trans (hbu3.mono (Nat.le_succ _))
          have hEQ : xs.take xs.length ++ [x] ++ xs.drop xs.length = xs.take xs.length ++ x :: xs.drop xs.length := by simp
          have ho7 : Own fIncident u3 w.heap.size 42 v3 (addIncidentF xs x) := by rw [HF.out]; first | exact ownM_ hown3 (Nat.le_succ _) | (rw [← hEQ]; exact ownM_ hown3 (Nat.le_succ _)) | (have h9 := hown3; simp only [List.append_nil, List.take_length, List.drop_length] at h9 ⊢; exact ownM_ h9 (Nat.le_succ _))
          clear hown3 ho6
          go_wp2
          go_ret2
          exact ⟨_, by rw [HC.out]; rfl, ho7, hB14⟩

end Go.Proofs.YtgnbhcgagdfaiaaGreatDoor

namespace Go.Proofs.YtgnbhcgagdfaiaaGreatDoor
open Go.RowKit
set_option linter.unusedVariables false

theorem manyIncident (k : Nat) (bt : ByteArray) (h : k ≤ 100) (hb : bt.size = 1) : SmIncident ⟨9000 + (k : Int) / 2, (⟨#[98, 111, 119, 108]⟩ ++ bt), ⟨#[114, 97, 105, 110]⟩, 1 + (k : Int) % 5, ((k : Int) % 4), 0⟩ := by
  have hz : ((⟨#[98, 111, 119, 108]⟩ ++ bt) : ByteArray).size = 5 := by rw [ByteArray.size_append, hb]; rfl
  unfold SmIncident; simp only
  rw [hz]
  refine ⟨by omega, by omega, by decide, by omega, by omega, by omega⟩
theorem oneByte (n : Int) (W : World) : (convert 34 9 (.slice (some ⟨W.heap.size, 0, none⟩) 1 1)).run Tryz.prog (W.alloc (.cells #[.int .u8 n] 5)) = .ok (.string ⟨#[UInt8.ofNat n.toNat]⟩) (W.alloc (.cells #[.int .u8 n] 5)) :=
  run_convert_bytes_arg _ _ _ Tryz.underlying34 Tryz.underlying5 W.heap.size 0 1 1 [n] rfl (fun i hi => by (obtain rfl : i = 0 := by omega); simp) _ Tryz.underlying9
set_option maxRecDepth 100000 in
set_option maxHeartbeats 8000000 in
theorem l28DrawO_any (n g : Nat) (w : World) (hs : SrcD n g w) (hn : n ≤ 999999970000) :
    Calls Tryz.prog 42 #[.pointer (some ⟨g, 0, none⟩)] w fun e w' => ∃ (v : Value) (xs : List DIncident), e = .returned v ∧ Own fIncident w' w.heap.size 42 v xs ∧ (∀ x ∈ xs, SmIncident x) ∧ xs.length ≤ 70 ∧ SrcD (n + 2000) g w' ∧ Only [g] w w' := by
  have hg := hs.lt
  obtain ⟨i0, hi, hz0, hz1, hz2⟩ := info_parts infoIncidentK
  have hB0 : Below w.heap.size w (w.alloc (.cells #[] 42)) := (Below.refl _ _).alloc (Nat.le_refl _) _
  go_enter Tryz.func42, Tryz.ntmps42
  go_wp2_with fail
  refine (pick_any _ g 12 _ (hs.below hB0) (by omega) (by omega)).mono ?_
  rintro e w2 ⟨q, rfl, ⟨q0, q1, _⟩, hs2, ho2⟩
  replace q1 := q1 (by omega)
  obtain ⟨j0, rfl⟩ : ∃ j : Nat, q = j := ⟨q.toNat, by omega⟩
  have hown : Own fIncident w2 w.heap.size 42 (.slice (some ⟨w.heap.size, 0, none⟩) 0 0) [] := (Own.lit0 fIncident w _).only ho2 (fun b hb => by simp at hb; subst hb; exact hg)
  have hO1 : Only [g] w w2 := Only.later hB0 ho2
  clear hB0 ho2 hs
  go_wp2
  go_loopw [3, 4] (fun v kv wr => ∃ (j : Nat) (L : List DIncident), kv = .int .i64 j ∧ j + L.length ≤ 11 ∧ j ≤ 11 ∧ Own fIncident wr w.heap.size 42 v L ∧ (∀ x ∈ L, SmIncident x) ∧ SrcD (n + 4 + 30 * (11 - j)) g wr ∧ Only [g] w wr) (fun _ kv _ => (intOf kv).toNat)
  case atStart => exact ⟨j0, [], rfl, by rw [List.length_nil]; omega, by omega, hown, by simp, hs2.mono (by omega), hO1⟩
  case round =>
    clear hown hs2 hO1 q0 q1
    obtain ⟨j, L, rfl, hj, hj2, ho, hsm, hsr, hor⟩ := hrel
    cases j with
    | zero =>
      go_wp2_with fail
      refine (pick_any _ g 20 _ hsr (by omega) (by omega)).mono ?_
      rintro e w3 ⟨q, rfl, ⟨q0, q1, _⟩, hs3, ho3⟩
      replace q1 := q1 (by omega)
      replace hor := hor.trans ho3
      replace ho := ho.only ho3 (fun b hb => by simp at hb; subst hb; exact hg)
      clear ho3 hsr
      by_cases hq0 : q = 0
      · subst hq0
        go_wp2_with fail
        refine (l28DrawOne_any _ g _ hs3 (by omega)).mono ?_
        rintro e w4 ⟨x0, rfl, ⟨hx0, hx1⟩, hs4, ho4⟩
        go_wp2_with fail
        refine (l28Bend_any _ g x0 _ hs4 (by omega) ⟨hx0, by omega⟩).mono ?_
        rintro e w5 ⟨x, rfl, hx, hs5, ho5⟩
        have hor2 := hor.trans (ho4.trans ho5)
        have hsz2 := hor2.size
        have hoW : w5.ownsRow w.heap.size 42 6 u3 L.length (L.flatMap fIncident.enc) := (ho.only ho4 (fun b hb => by simp at hb; subst hb; exact hg)).only ho5 (fun b hb => by simp at hb; subst hb; exact hg)
        clear ho hor ho4 ho5 hs4
        unfold agIncident
        go_wp2_with (at_builtin; refine wpList_append_one rfl _ _ 36 rfl w.heap.size 42 i0 (.agg #[.int .i64 0, .string ⟨#[]⟩, .string ⟨#[]⟩, .int .i64 0, .int .i64 0, .int .i64 0]) 6 64 Tryz.underlying36 hi hz0 hz1 hz2 rfl (by decide) u3 L.length _ rfl hoW [.int .i64 x.day, .string x.place, .string x.cause, .int .i64 x.level, .int .i64 x.caught, .int .i64 x.buried] rfl (by intro u hu; simp only [List.mem_cons, List.not_mem_nil, or_false] at hu; rcases hu with rfl | rfl | rfl | rfl | rfl | rfl <;> rfl) rfl (by omega) (by decide) hsz2 ?_)
        intro v' u hown hbu _ _
        have hoD : Own fIncident u w.heap.size 42 v' (L ++ [x]) := Own.push _ (by omega) hown
        clear hown
        go_wp2
        go_ret
        exact ⟨_, _, rfl, hoD, fun y hy => by
          rcases List.mem_append.1 hy with hy | hy
          · exact hsm y hy
          · rw [List.mem_singleton] at hy; subst hy; exact hx, by rw [List.length_append, List.length_singleton]; omega, (hs5.belowB hbu hg).mono (by omega), hor2.then hbu⟩
      · have e0 : (q == 0) = false := by rw [beq_eq_false_iff_ne]; exact hq0
        by_cases hq1 : q = 1
        · subst hq1
          have hBL : Below w3.heap.size w3 (w3.alloc (.cells #[.int .i64 48, .int .i64 49] 2)) := (Below.refl _ _).alloc (Nat.le_refl _) _
          have hgl := hs3.lt
          go_wp2_with fail
          refine (among_any _ g _ [48, 49] [w3.heap.size] _ (hs3.below hBL) (by omega) (slLitI w3 2 [48, 49] _ rfl (by decide) (by decide) (by decide) _ _ rfl rfl) (by simp; omega) (by decide) (by decide)).mono ?_
          rintro e w4 ⟨t, ht, rfl, hs4, ho4⟩
          have hor2 := hor.trans (Only.later hBL ho4)
          have hsz2 := hor2.size
          clear hBL hgl hor ho hs3 ho4
          obtain ⟨M, rfl⟩ : ∃ M : Nat, t = M := ⟨t.toNat, by simp at ht; omega⟩
          have hM : M ≤ 49 := by simp at ht; omega
          have hown : Own fIncident (w4.alloc (.cells #[] 42)) w.heap.size 42 (.slice (some ⟨w4.heap.size, 0, none⟩) 0 0) [] := Own.lit0m fIncident hsz2
          have hB4 : Below w4.heap.size w4 (w4.alloc (.cells #[] 42)) := (Below.refl _ _).alloc (Nat.le_refl _) _
          replace hor2 := hor2.then (hB4.mono hsz2)
          replace hs4 := hs4.below hB4
          clear hB4 ht hsm hsz2
          go_wp2
          rename World => wo
          go_loopw [3, 8] (fun v kv wr => ∃ (k : Nat) (X : List DIncident), kv = .int .i64 k ∧ k ≤ M ∧ X.length = k ∧ Own fIncident wr w.heap.size 42 v X ∧ (∀ x ∈ X, SmIncident x) ∧ SrcD (n + 600) g wr ∧ Only [g] w wr) (fun _ kv _ => M - (intOf kv).toNat)
          case atStart => exact ⟨0, [], rfl, Nat.zero_le _, rfl, hown, by simp, hs4.mono (by omega), hor2⟩
          case round =>
            clear hown hs4 hor2
            obtain ⟨k, X, rfl, hk, hX, ho, hsm, hsr, hor⟩ := hrel
            by_cases hlt : k < M
            · have hcv0 := oneByte (97 + (k : Int) % 2) wr
              obtain ⟨bt, hbt, hbz⟩ : ∃ bt : ByteArray, bt = ⟨#[UInt8.ofNat (97 + (k : Int) % 2).toNat]⟩ ∧ bt.size = 1 := ⟨_, rfl, rfl⟩
              have hsmk := Lib.hid (manyIncident k bt (by omega) hbz)
              have hk100 : k ≤ 100 := by omega
              have hBb : Below wr.heap.size wr (wr.alloc (.cells #[.int .u8 (97 + (k : Int) % 2)] 5)) := (Below.refl _ _).alloc (Nat.le_refl _) _
              have hcv := hcv0
              rw [← hbt] at hcv
              clear hcv0 hbt
              have hszr := hor.size
              have hsz2 : w.heap.size ≤ (wr.alloc (.cells #[.int .u8 (97 + (k : Int) % 2)] 5)).heap.size := by simp; omega
              have hoW : (wr.alloc (.cells #[.int .u8 (97 + (k : Int) % 2)] 5)).ownsRow w.heap.size 42 6 u3 X.length (X.flatMap fIncident.enc) := ho.below hBb
              replace hsr := hsr.below hBb
              replace hor := hor.then (hBb.mono hszr)
              clear ho hBb
              go_wp2_with (at_builtin; refine wpList_append_oneA (wr.heap.size + 1) (by simp) rfl _ _ 36 rfl w.heap.size 42 i0 (.agg #[.int .i64 0, .string ⟨#[]⟩, .string ⟨#[]⟩, .int .i64 0, .int .i64 0, .int .i64 0]) 6 64 Tryz.underlying36 hi hz0 hz1 hz2 rfl (by decide) u3 X.length _ rfl hoW [.int .i64 (9000 + (k : Int) / 2), .string (⟨#[98, 111, 119, 108]⟩ ++ bt), .string ⟨#[114, 97, 105, 110]⟩, .int .i64 (1 + (k : Int) % 5), .int .i64 ((k : Int) % 4), .int .i64 0] rfl (by intro u hu; simp only [List.mem_cons, List.not_mem_nil, or_false] at hu; rcases hu with rfl | rfl | rfl | rfl | rfl | rfl <;> rfl) rfl (by omega) (by decide) hsz2 ?_)
              intro v' u hown hbu _ _
              have hoD : Own fIncident u w.heap.size 42 v' (X ++ [⟨9000 + (k : Int) / 2, (⟨#[98, 111, 119, 108]⟩ ++ bt), ⟨#[114, 97, 105, 110]⟩, 1 + (k : Int) % 5, ((k : Int) % 4), 0⟩]) := Own.push _ (by omega) hown
              clear hown
              have hs5 := hsr.belowB hbu hg
              have hor5 := hor.then hbu
              go_wp2
              go_roundw
              case rel => exact ⟨k + 1, _, by go_num, by omega, by rw [List.length_append, hX, List.length_singleton], hoD, fun y hy => by
                rcases List.mem_append.1 hy with hy | hy
                · exact hsm y hy
                · rw [List.mem_singleton] at hy; subst hy; exact hsmk.out, hs5, hor5⟩
              case measure => simp [intOf]; omega
            · obtain ⟨A9, c9, rfl⟩ := ho.form
              go_wp2
              go_ret
              exact ⟨_, _, rfl, ho, hsm, by omega, hsr.mono (by omega), hor⟩
        · have e1 : (q == 1) = false := by rw [beq_eq_false_iff_ne]; exact hq1
          obtain ⟨A9, c9, rfl⟩ := ho.form
          go_wp2
          go_ret
          exact ⟨_, _, rfl, ho, hsm, by omega, hs3.mono (by omega), hor⟩
    | succ j =>
      go_wp2_with fail
      refine (l28DrawOne_any _ g _ hsr (by omega)).mono ?_
      rintro e w3 ⟨x, rfl, ⟨hx, hx9⟩, hs3, ho3⟩
      clear hx9
      have hor3 := hor.trans ho3
      have ho3' := ho.only ho3 (fun b hb => by simp at hb; subst hb; exact hg)
      have hoks : ∀ y ∈ L, fIncident.ok y := fun y hy => (hsm y hy).ok
      obtain ⟨fp, hsl, hlo, hnd⟩ := Sl.of_own (n := L.length) rfl ho3' hoks
      clear ho hor ho3 hsr hoks
      unfold agIncident
      go_wp2_with fail
      refine (specAddIncident_any _ L fp x _ hsl hx.ok).mono ?_
      rintro e w4 ⟨v4, rfl, hown4, hb4⟩
      have hsz3 := hor3.size
      have hor4 := hor3.then (hb4.mono hsz3)
      have hs4 := hs3.below hb4
      have ho4 := ho3'.below hb4
      replace hown4 : Own fIncident w4 w.heap.size 42 v4 (addIncidentF L x) := ownM_ hown4 hsz3
      clear hsl hlo hnd ho3' hs3 hor3 hb4
      by_cases hc : addIncidentC L x = 0
      · have hlen := addIncident_length (xs := L) (x := x)
        have hsm4 : ∀ y ∈ addIncidentF L x, SmIncident y := fun y hy => by
          rcases addIncident_mem hy with hy | rfl
          · exact hsm y hy
          · exact hx
        rw [hc]
        generalize addIncidentF L x = L4 at *
        clear hc ho4 hsm
        go_wp2
        go_roundw
        case rel => exact ⟨j, L4, by go_num, by omega, by omega, hown4, hsm4, hs4.mono (by omega), hor4⟩
        case measure => simp [intOf]
      · have e1 : (addIncidentC L x == 0) = false := by rw [beq_eq_false_iff_ne]; exact hc
        generalize addIncidentC L x = cc at *
        clear hc hown4
        go_wp2
        go_roundw
        case rel => exact ⟨j, L, by go_num, by omega, by omega, ho4, hsm, hs4.mono (by omega), hor4⟩
        case measure => simp [intOf]
theorem Sl.far_cell {α : Type} {E : Cod α} {w : World} {v : Value} {xs : List α} {fp : List Nat} {g j : Nat} {u : Value} (h : Sl E w v xs fp) (hp : ∀ b ∈ fp, b ≠ g) : Sl E (w.setCell ⟨g, j, none⟩ u) v xs fp :=
  h.only ((Only.refl [g] w).set j u) (fun b hb => by simpa using hp b hb)

end Go.Proofs.YtgnbhcgagdfaiaaGreatDoor

namespace Go.Proofs.YtgnbhcgagdfaiaaGreatDoor
open Go.RowKit
set_option linter.unusedVariables false

def zzL : List ByteArray := [⟨#[122, 122]⟩, ⟨#[101, 97, 115, 116]⟩, ⟨#[119, 101, 115, 116]⟩]
theorem zzL_size {t : ByteArray} (h : t ∈ zzL) : t.size ≤ 100 := by
  have h1 : ∀ x ∈ zzL, x.size ≤ 100 := by decide
  exact h1 _ h
theorem RgS.of_nil {w : World} {B : Nat} {v : Value} {L : List RgE} (h : Own fRg w B 63 v L) (hn : ∀ e ∈ L, e.A = none ∧ e.c = 0 ∧ e.near = []) (hok : ∀ e ∈ L, RgOk e) : RgS w B v L := by
  have hv : ∀ (i : Nat) (e : RgE), L[i]? = some e → e.v = .slice none 0 0 := fun i e hi => by
    obtain ⟨h1, h2, h3⟩ := hn e (List.mem_of_getElem? hi)
    unfold RgE.v; rw [h1, h2, h3]; rfl
  have hb : ∀ (i : Nat) (e : RgE), L[i]? = some e → e.v.ownBlock = none := fun i e hi => by rw [hv i e hi]; rfl
  refine ⟨h, fun i e hi => ?_, fun i j a b hi hj _ g hg => ?_, fun i e hi g hg => ?_, hok⟩
  · rw [hv i e hi, (hn e (List.mem_of_getElem? hi)).2.2]
    exact ⟨rfl, .inl ⟨rfl, rfl⟩⟩
  · rw [hb i a hi] at hg; cases hg
  · rw [hb i e hi] at hg; cases hg
set_option maxRecDepth 100000 in
set_option maxHeartbeats 16000000 in
theorem l18Draw_any (n g : Nat) (w : World) (hs : SrcD n g w) (hn : n ≤ 999999960000) :
    Calls Tryz.prog 48 #[.pointer (some ⟨g, 0, none⟩)] w fun e w' => ∃ (v : Value) (xs : List DRegion) (fp : List Nat), e = .returned v ∧ Sl cRegion w' v xs fp ∧ SrcD (n + 400) g w' ∧ Only [g] w w' := by
  have hg := hs.lt
  have hgB : ∀ b ∈ [g], b < w.heap.size + 1 := by intro b hb; rw [List.mem_singleton] at hb; omega
  obtain ⟨i0, hi, hz0, hz1, hz2⟩ := info_parts infoRegD
  obtain ⟨j0, hj, hy0, hy1, hy2⟩ := info_parts infoStrG
  go_enter Tryz.func48, Tryz.ntmps48
  go_wp2_with fail
  refine (l18DrawOk_any _ g _ hs (by omega)).mono ?_
  rintro e w1 ⟨v1, L, rfl, hR, hL, hnr, hs1, ho1⟩
  obtain ⟨A, cap, rfl⟩ := hR.form
  go_wp2_with fail
  refine (pick_any _ g 20 _ hs1 (by omega) (by omega)).mono ?_
  rintro e w2 ⟨q, rfl, ⟨q0, q1, _⟩, hs2, ho2⟩
  replace q1 := q1 (by omega)
  have hR2 := hR.only ho2 hgB
  have hor2 := ho1.trans ho2
  clear hR hs hs1 ho1 ho2
  by_cases hq0 : q = 0
  · subst hq0
    by_cases h0 : L.length = 0
    · go_wp2
      go_ret
      obtain ⟨fq, hsl⟩ := hR2.sl
      rw [h0] at hsl
      exact ⟨_, _, fq, rfl, hsl, hs2.mono (by omega), hor2⟩
    · have hpos : 0 < (L.length : Int) := by omega
      go_wp2_with fail
      refine (pick_any _ g (L.length : Int) _ hs2 (by omega) (by omega)).mono ?_
      rintro e w3 ⟨r, rfl, ⟨r0, r1, _⟩, hs3, ho3⟩
      replace r1 := r1 (by omega)
      obtain ⟨j, rfl⟩ : ∃ j : Nat, r = j := ⟨r.toNat, by omega⟩
      have hBL : Below w3.heap.size w3 (w3.alloc (.cells #[.int .i64 0, .int .i64 5, .int .i64 6] 2)) := (Below.refl _ _).alloc (Nat.le_refl _) _
      have hgl := hs3.lt
      go_wp2_with fail
      refine (among_any _ g _ [0, 5, 6] [w3.heap.size] _ (hs3.below hBL) (by omega) (slLitI w3 2 [0, 5, 6] _ rfl (by decide) (by decide) (by decide) _ _ rfl rfl) (by simp; omega) (by decide) (by decide)).mono ?_
      rintro e w4 ⟨t, ht, rfl, hs4, ho4⟩
      have hR4 := ((hR2.only ho3 hgB).below hBL).only ho4 hgB
      have hor4 := (hor2.trans ho3).trans (Only.later hBL ho4)
      have ht6 : 0 ≤ t ∧ t ≤ 6 := by simp at ht; omega
      clear hR2 hor2 ho3 ho4 hBL hs2 hs3 ht
      obtain ⟨gR, rfl, hgR1, hgR2⟩ := hR4.addr (by omega)
      obtain ⟨ej, hej⟩ : ∃ e, L[j]? = some e := ⟨_, List.getElem?_eq_getElem (by omega)⟩
      obtain ⟨_, c1, _, z, _, _⟩ := hR4.cellE hej
      have hzj := z (j * 3 + 1)
      have hRn := hR4.setLv hej t ht6
      have hsn := hs4.belowB ((Below.refl _ w4).setCell (p := ⟨gR, j * 3 + 1, none⟩) hgR1 (.int .i64 t)) (by omega)
      have hon := only_below hor4 ((Below.refl _ w4).setCell (p := ⟨gR, j * 3 + 1, none⟩) hgR1 (.int .i64 t)) (Nat.le_succ _)
      clear hR4 hs4 hor4 z
      go_wp2
      go_ret
      obtain ⟨fq, hsl⟩ := hRn.sl
      exact ⟨_, _, fq, rfl, hsl, hsn.mono (by omega), hon⟩
  · have e0 : (q == 0) = false := by rw [beq_eq_false_iff_ne]; exact hq0
    by_cases hq1 : q = 1
    · subst hq1
      by_cases h0 : L.length = 0
      · go_wp2
        go_ret
        obtain ⟨fq, hsl⟩ := hR2.sl
        rw [h0] at hsl
        exact ⟨_, _, fq, rfl, hsl, hs2.mono (by omega), hor2⟩
      · have hpos : 0 < (L.length : Int) := by omega
        obtain ⟨gR, rfl, hgR1, hgR2⟩ := hR2.addr (by omega)
        obtain ⟨e0, he0⟩ : ∃ e, L[0]? = some e := ⟨_, List.getElem?_eq_getElem (by omega)⟩
        obtain ⟨_, _, c2, z, _, _⟩ := hR2.cellE he0
        have hc3 : CeG w2 gR 2 (.slice e0.A e0.near.length e0.c) := ⟨c2⟩
        have hgR0 : gR ≠ g := by omega
        have hnl := hnr _ (List.mem_of_getElem? he0)
        have hgW0 : g < w2.heap.size := hs2.lt
        have hgW : g ≤ w2.heap.size := Nat.le_of_lt hgW0
        have hdz : w2.drew.heap.size = w2.heap.size := rfl
        have hdr : Below w2.heap.size w2 w2.drew := Below.drew (Below.refl _ _)
        have hc7 := hc3.below' hdr
        have hR7 := hR2.below hdr
        have hs7 := hs2.below hdr
        have ho7 := hor2.then (hdr.mono hor2.size)
        clear hdr hR2 hs2 hor2 z c2 hnr
        go_wp2
        have gk0 : ∀ p : KeptW (g) w2 (fun N => CeG N gR 2 (.slice e0.A e0.near.length e0.c)), p.v.cell? ⟨gR, 2, none⟩ = some (.slice e0.A e0.near.length e0.c) := fun p => p.x.c
        haveI hKne : Nonempty (KeptW (g) w2 (fun N => CeG N gR 2 (.slice e0.A e0.near.length e0.c))) := ⟨⟨_, Below.drew (Below.refl _ _), (hc3.below' (Below.drew (Below.refl _ _)))⟩⟩
        refine wp_region_sink (C := fun w' => ∃ p : KeptW (g) w2 (fun N => CeG N gR 2 (.slice e0.A e0.near.length e0.c)), w' = p.v) [0, 1, 2, 3, 4, 5, 6, 7, 8, 9, 10, 11, 12] [true, true, true, true, true, true, false, false, false, false, true, true, false] 12 (by kernel_rfl) (by kernel_rfl) (by kernel_rfl) (fun _ _ d _ _ h => by cases d <;> exact h) ⟨⟨_, Below.drew (Below.refl _ _), (hc3.below' (Below.drew (Below.refl _ _)))⟩, rfl⟩ ?_
        simp only [List.map_cons, List.map_nil, List.getD_cons_zero, List.getD_cons_succ]
        have hS0 : Below (g) w2 w2.drew := Below.drew (Below.refl _ _)
        refine wpMixS_pure (by kernel_rfl) (fun K hK => ?_)
        go_big_quiet_op
        refine hK _ ?_; clear hK K
        refine wpMixS_pure (by kernel_rfl) (fun K hK => ?_)
        go_big_quiet_op
        refine hK _ ?_; clear hK K
        refine wpMixS_pure (by kernel_rfl) (fun K hK => ?_)
        go_big_quiet_op
        refine hK _ ?_; clear hK K
        refine wpMixS_pure (by kernel_rfl) (fun K hK => ?_)
        go_big_quiet_op
        refine hK _ ?_; clear hK K
        refine wpMixS_pure (by kernel_rfl) (fun K hK => ?_)
        go_big_quiet_op
        refine hK _ ?_; clear hK K
        refine wpMixS_pure (by kernel_rfl) (fun K hK => ?_)
        go_big_quiet_op
        refine hK _ ?_; clear hK K
        refine wpMixS_act (by kernel_rfl) (fun K hK => ?_)
        go_big_op
        refine hK _ _ ⟨⟨_, (hS0.alloc (Nat.le_trans hgW hS0.size) _), (hc7.below' ((Below.refl _ _).alloc (Nat.le_refl _) _))⟩, rfl⟩ ?_
        clear hK K
        refine mixS_world (fun N => Below (g) w2 N ∧ CeG N gR 2 (.slice e0.A e0.near.length e0.c) ∧ RgS N (w.heap.size + 1) (.slice (some ⟨gR, 0, none⟩) L.length cap) L ∧ SrcD (n + 300 + 2) g N ∧ Only [g] w N ∧ Sl fStr.cod N (.slice (some ⟨w2.drew.heap.size, 0, none⟩) 3 3) zzL [w2.drew.heap.size]) ⟨hS0.alloc (Nat.le_trans hgW hS0.size) _, hc7.below' ((Below.refl _ _).alloc (Nat.le_refl _) _), hR7.below ((Below.refl _ _).alloc (Nat.le_refl _) _), hs7.below ((Below.refl _ _).alloc (Nat.le_refl _) _), ho7.then (((Below.refl _ _).alloc (Nat.le_refl _) _).mono ho7.size), slLit w2.drew 9 zzL _ rfl (by decide) (by decide) (by decide) _ _ rfl rfl⟩ ?_
        rintro wr1 ⟨hbr1S, hc7, hR7, hs7, ho7, hl7⟩
        refine wpMixS_act (by kernel_rfl) (fun K hK => ?_)
        go_big_op
        refine (text_any _ g _ zzL [w2.drew.heap.size] _ hs7 (by omega) hl7 (by rw [List.mem_singleton]; exact Nat.ne_of_lt hgW0) (by decide) (by decide)).mono ?_
        rintro e uk2 ⟨t, ht, rfl, hs8, ho8⟩
        have hbk2 : Below g wr1 uk2 := ho8.below (by have := hs7.lt; omega) (by simp)
        replace hR7 := hR7.only ho8 hgB
        replace hc7 := hc7.only ho8 hgR0
        replace ho7 := ho7.trans ho8
        replace hs7 := hs8
        clear hs8 ho8 hl7
        have htz : t.size ≤ 100 := zzL_size ht
        have hbk2S : Below (g) w2 uk2 := hbr1S.trans hbk2
        try simp only [Act.put, List.setIfInBounds_toArray, List.set_cons_zero, List.set_cons_succ]
        refine hK _ _ ⟨⟨_, hbk2S, hc7⟩, rfl⟩ ?_
        clear hK K
        refine wpMixS_act (by kernel_rfl) (fun K hK => ?_)
        go_big_op
        refine hK _ _ ⟨⟨_, (hbk2S.alloc (Nat.le_trans hgW hbk2S.size) _), (hc7.below' ((Below.refl _ _).alloc (Nat.le_refl _) _))⟩, rfl⟩ ?_
        clear hK K
        refine mixS_world (fun N => Below (g) w2 N ∧ CeG N gR 2 (.slice e0.A e0.near.length e0.c) ∧ RgS N (w.heap.size + 1) (.slice (some ⟨gR, 0, none⟩) L.length cap) L ∧ SrcD (n + 300 + 2 + 2) g N ∧ Only [g] w N ∧ CeG N uk2.heap.size 0 (.string t)) ⟨hbk2S.alloc (Nat.le_trans hgW hbk2S.size) _, hc7.below' ((Below.refl _ _).alloc (Nat.le_refl _) _), hR7.below ((Below.refl _ _).alloc (Nat.le_refl _) _), hs7.below ((Below.refl _ _).alloc (Nat.le_refl _) _), ho7.then (((Below.refl _ _).alloc (Nat.le_refl _) _).mono ho7.size), ⟨by simp⟩⟩ ?_
        rintro wr3 ⟨hbr3S, hc7, hR7, hs7, ho7, hx0⟩
        refine wpMixS_act (by kernel_rfl) (fun K hK => ?_)
        have hcl7 : gR < wr3.heap.size := hc7.lt
        have hz7 := (hR7.cellE he0).2.2.2.1
        have hoW : wr3.ownsRow (w.heap.size + 1) 9 1 (.slice e0.A e0.near.length e0.c) e0.near.length (e0.near.flatMap fStr.enc) := hR7.row _ _ he0
        refine wp_append_at2 _ _ _ 24 rfl (w.heap.size + 1) 9 j0 (.string ⟨#[]⟩) 1 16 Tryz.underlying24 hj hy0 hy1 hy2 rfl (by decide) (.slice e0.A e0.near.length e0.c) e0.near.length _ rfl hoW [.string t] rfl (by intro u hu; rw [List.mem_singleton] at hu; subst hu; rfl) uk2.heap.size rfl (by intro j u hj; match j, hj with | 0, hj => (injection hj with hj; subst hj; exact hx0.c) | j + 1, hj => (simp at hj)) (by omega) (by decide) (by have h1 := (hR7.cellE he0).2.2.2.2; omega) ?_
        intro v' uk4 hown hbu0 hgr hli
        have hoD : Own fStr uk4 (w.heap.size + 1) 9 v' (e0.near ++ [t]) := Own.push (E := fStr) _ rfl hown
        obtain ⟨A9, c9, rfl⟩ : ∃ A c, v' = .slice A (e0.near ++ [t]).length c := hoD.form
        have hRn := hR7.grow he0 htz hoD hgr hli
        have hqn : e0.v.ownBlock ≠ some gR := fun e => hR7.ap _ _ he0 gR e rfl
        have hbk4 : Below g wr3 uk4 := hbu0.mono (by omega)
        replace hc7 := hc7.grown hgr hqn
        have hzu : uk4.frozen? ⟨gR, 2, none⟩ = false := (World.frozen?_of_block (a := ⟨gR, 2, none⟩) (hgr.block gR hcl7 (fun e => hqn e.symm))).trans (hz7 _)
        have hcu : uk4.cell? ⟨gR, 2, none⟩ = some (.slice e0.A e0.near.length e0.c) := hc7.c
        have hsn := (hs7.belowB hbu0 (by omega)).belowB ((Below.refl _ uk4).setCell (p := ⟨gR, 2, none⟩) hgR1 (.slice A9 (e0.near ++ [t]).length c9)) (by omega)
        have hon := only_below (only_below ho7 hbu0 (Nat.le_succ _)) ((Below.refl _ uk4).setCell (p := ⟨gR, 2, none⟩) hgR1 (.slice A9 (e0.near ++ [t]).length c9)) (Nat.le_succ _)
        clear hown hoD hR7 hs7 ho7 hoW hx0 hgr hli hqn
        have hbk4S : Below (g) w2 uk4 := hbr3S.trans hbk4
        try simp only [Act.put, List.setIfInBounds_toArray, List.set_cons_zero, List.set_cons_succ]
        refine hK _ _ ⟨⟨_, hbk4S, hc7⟩, rfl⟩ ?_
        clear hK K
        refine wpMixS_pure (by kernel_rfl) (fun K hK => ?_)
        go_big_quiet_op
        refine hK _ ?_; clear hK K
        refine wpMixS_pure (by kernel_rfl) (fun K hK => ?_)
        go_big_quiet_op
        refine hK _ ?_; clear hK K
        refine wpMixS_last (by kernel_rfl) (fun K hK => ?_)
        go_big_op
        try simp only [Act.put, List.setIfInBounds_toArray, List.set_cons_zero, List.set_cons_succ]
        refine hK _ _ ?_
        clear hK K
        go_wp2
        go_ret
        have hlen9 : (e0.near ++ [t]).length = e0.near.length + 1 := by simp
        rw [hlen9] at hRn hsn hon
        obtain ⟨fq, hsl⟩ := hRn.sl
        exact ⟨_, _, fq, rfl, hsl, hsn.mono (by omega), hon⟩
    · have e1 : (q == 1) = false := by rw [beq_eq_false_iff_ne]; exact hq1
      by_cases hq2 : q = 2
      · subst hq2
        have hBL : Below w2.heap.size w2 (w2.alloc (.cells #[.int .i64 8, .int .i64 9] 2)) := (Below.refl _ _).alloc (Nat.le_refl _) _
        have hgl := hs2.lt
        go_wp2_with fail
        refine (among_any _ g _ [8, 9] [w2.heap.size] _ (hs2.below hBL) (by omega) (slLitI w2 2 [8, 9] _ rfl (by decide) (by decide) (by decide) _ _ rfl rfl) (by simp; omega) (by decide) (by decide)).mono ?_
        rintro e w4 ⟨t, ht, rfl, hs4, ho4⟩
        have hor4 := hor2.trans (Only.later hBL ho4)
        have hsz4 := hor4.size
        obtain ⟨M, rfl⟩ : ∃ M : Nat, t = M := ⟨t.toNat, by simp at ht; omega⟩
        have hM : M ≤ 9 := by simp at ht; omega
        clear hBL hgl hR2 hor2 hs2 ho4 ht hnr
        have hown : Own fRg (w4.alloc (.cells #[] 63)) w.heap.size 63 (.slice (some ⟨w4.heap.size, 0, none⟩) 0 0) [] := Own.lit0m fRg hsz4
        have hB4 : Below w4.heap.size w4 (w4.alloc (.cells #[] 63)) := (Below.refl _ _).alloc (Nat.le_refl _) _
        replace hor4 := hor4.then (hB4.mono hsz4)
        replace hs4 := hs4.below hB4
        clear hB4 hsz4
        go_wp2
        rename World => wo
        go_loopw [3, 6] (fun v kv wr => ∃ (k : Nat) (X : List RgE), kv = .int .i64 k ∧ k ≤ M ∧ X.length = k ∧ Own fRg wr w.heap.size 63 v X ∧ (∀ e ∈ X, e.A = none ∧ e.c = 0 ∧ e.near = []) ∧ (∀ e ∈ X, RgOk e) ∧ SrcD (n + 400) g wr ∧ Only [g] w wr) (fun _ kv _ => M - (intOf kv).toNat)
        case atStart => exact ⟨0, [], rfl, Nat.zero_le _, rfl, hown, by simp, by simp, hs4.mono (by omega), hor4⟩
        case round => as_aux_lemma =>
          clear hown hs4 hor4
          obtain ⟨k, X, rfl, hk, hX, ho, hnil, hok, hsr, hor⟩ := hrel
          by_cases hlt : k < M
          · have hki : (k : Int) < (M : Int) := by omega
            have hk9 : k ≤ 9 := by omega
            have hd : (decS (k : Int)).size ≤ 21 := by rw [decS_size]; exact itoa_len20 (by omega) (by omega)
            have hokE : Hid (RgOk ⟨⟨#[110]⟩ ++ decS (k : Int), 1 + (k : Int) % 5, [], none, 0⟩) := by
              exact ⟨by show (⟨#[110]⟩ ++ decS (k : Int) : ByteArray).size ≤ 100; rw [ByteArray.size_append]; show 1 + _ ≤ _; omega, by show 0 ≤ 1 + (k : Int) % 5 ∧ 1 + (k : Int) % 5 ≤ 6; omega, by simp⟩
            go_wp2_with fail
            refine (l01Dec_any (k : Int) _ (by omega) (by omega)).mono ?_
            rintro e w5 ⟨rfl, hb5⟩
            have hszr := hor.size
            have hor5 := hor.then (hb5.mono hszr)
            have hs5 := hsr.below hb5
            have hsz5 := hor5.size
            have hoW : w5.ownsRow w.heap.size 63 3 u3 X.length (X.flatMap fRg.enc) := ho.below hb5
            clear ho hor hsr hb5 hszr
            go_wp2_with (at_builtin; refine wpList_append_one rfl _ _ 27 rfl w.heap.size 63 i0 (.agg #[.string ⟨#[]⟩, .int .i64 0, .slice none 0 0]) 3 48 Tryz.underlying27 hi hz0 hz1 hz2 rfl (by decide) u3 X.length _ rfl hoW [.string (⟨#[110]⟩ ++ decS (k : Int)), .int .i64 (1 + (k : Int) % 5), .slice none 0 0] rfl (by intro u hu; simp only [List.mem_cons, List.not_mem_nil, or_false] at hu; rcases hu with rfl | rfl | rfl <;> rfl) rfl (by omega) (by decide) hsz5 ?_)
            intro v' u hown hbu _ _
            have hoD : Own fRg u w.heap.size 63 v' (X ++ [⟨⟨#[110]⟩ ++ decS (k : Int), 1 + (k : Int) % 5, [], none, 0⟩]) := Own.push (E := fRg) _ (by omega) hown
            have hs6 := hs5.belowB hbu hg
            have hor6 := hor5.then hbu
            clear hown hoW hs5 hor5
            go_wp2
            go_roundw
            case rel =>
              exact ⟨k + 1, _, by go_num, by omega, by rw [List.length_append, hX, List.length_singleton], hoD, fun e he => by
                rcases List.mem_append.1 he with he | he
                · exact hnil e he
                · rw [List.mem_singleton] at he; subst he; exact ⟨rfl, rfl, rfl⟩, fun e he => by
                rcases List.mem_append.1 he with he | he
                · exact hok e he
                · rw [List.mem_singleton] at he; subst he; exact hokE.out, hs6, hor6⟩
            case measure => simp [intOf]; omega
          · obtain ⟨fq, hsl⟩ := (RgS.of_nil ho hnil hok).sl
            obtain ⟨A9, c9, rfl⟩ := ho.form
            go_wp2
            go_ret
            exact ⟨_, _, fq, rfl, hsl, hsr, hor⟩
      · have e2 : (q == 2) = false := by rw [beq_eq_false_iff_ne]; exact hq2
        go_wp2
        go_ret
        obtain ⟨fq, hsl⟩ := hR2.sl
        exact ⟨_, _, fq, rfl, hsl, hs2.mono (by omega), hor2⟩
set_option maxRecDepth 100000 in
set_option maxHeartbeats 2000000 in
theorem DrawRegionReport_any (v : Value) (xs : List UInt8) (fp : List Nat) (w : World) (hx : Sl fByte.cod w v xs fp) :
    Calls Tryz.prog 19 #[v] w fun e w' => ∃ (y : Value) (ys : List DRegion) (fq : List Nat), e = .returned y ∧ Sl cRegion w' y ys fq ∧ Below w.heap.size w w' := by
  go_enter Tryz.func19, Tryz.ntmps19
  go_wp2_with fail
  refine (l00From_any v xs fp _ hx).mono ?_
  rintro e w1 ⟨rfl, hs, hb1⟩
  have hgw := Nat.le_refl w.heap.size
  generalize hg0 : w.heap.size = g at hs hgw ⊢
  have hge : w.heap.size ≤ g := by omega
  clear hg0 hgw hx
  go_wp2_with fail
  refine (l18Draw_any _ g _ hs (by omega)).mono ?_
  rintro e w2 ⟨y, ys, fq, rfl, hsl, hs2, ho2⟩
  obtain ⟨A, cap, rfl, _, _⟩ := hsl.form
  have hB2 : Below w.heap.size w w2 := hb1.trans (ho2.below hb1.size (by intro b hb; simp at hb; subst hb; exact hge))
  clear hs hs2 ho2 hb1
  go_wp2
  go_ret
  exact ⟨_, ys, fq, rfl, hsl, by first | exact hB2 | simpa using hB2⟩
set_option maxRecDepth 100000 in
set_option maxHeartbeats 2000000 in
theorem DrawIncidentReport_any (v : Value) (xs : List UInt8) (fp : List Nat) (w : World) (hx : Sl fByte.cod w v xs fp) :
    Calls Tryz.prog 15 #[v] w fun e w' => ∃ (y : Value) (ys : List DIncident) (fq : List Nat), e = .returned y ∧ Sl fIncident.cod w' y ys fq ∧ ys.length ≤ 70 ∧ Below w.heap.size w w' := by
  go_enter Tryz.func15, Tryz.ntmps15
  go_wp2_with fail
  refine (l00From_any v xs fp _ hx).mono ?_
  rintro e w1 ⟨rfl, hs, hb1⟩
  have hgw := Nat.le_refl w.heap.size
  generalize hg0 : w.heap.size = g at hs hgw ⊢
  have hge : w.heap.size ≤ g := by omega
  clear hg0 hgw hx
  go_wp2_with fail
  refine (l28DrawO_any _ g _ hs (by omega)).mono ?_
  rintro e w2 ⟨y, ys, rfl, hown, hsm, hl, hs2, ho2⟩
  obtain ⟨fq, hsl, hlo, hnd⟩ := Sl.of_own (n := ys.length) rfl hown (fun y hy => (hsm y hy).ok)
  obtain ⟨A, cap, rfl, _, _⟩ := hsl.form
  have hB2 : Below w.heap.size w w2 := hb1.trans (ho2.below hb1.size (by intro b hb; simp at hb; subst hb; exact hge))
  clear hs hs2 ho2 hb1 hown hsm hlo hnd
  go_wp2
  go_ret
  exact ⟨_, ys, fq, rfl, hsl, hl, by first | exact hB2 | simpa using hB2⟩
set_option maxRecDepth 100000 in
set_option maxHeartbeats 2000000 in
theorem sDateText_any (n : Int) (w : World) (h0 : 0 ≤ n) (h1 : n ≤ 36524) :
    Calls Tryz.prog 18 #[.int .i64 n] w fun e w' => e = .returned (.string (dayT n)) ∧ Below w.heap.size w w' := by
  have HD := Lib.hid (dayP_ok h0 h1)
  have hin : inB n 0 36524 = true := inB_true.2 ⟨h0, h1⟩
  go_enter Tryz.func18, Tryz.ntmps18
  go_wp2_with fail
  refine (l02DayV_any n _).mono ?_
  rintro e w' ⟨rfl, rfl⟩
  rw [hin]
  go_wp2_with fail
  refine (l02Text_any _ _ _ n _ HD.out.1 HD.out.2).mono ?_
  rintro e w2 ⟨rfl, hb⟩
  have e1 : dayS (dayP n).1 (dayP n).2.1 (dayP n).2.2 = dayT n := rfl
  rw [e1]
  clear e1 HD
  go_wp2
  go_ret
  exact ⟨rfl, hb⟩

end Go.Proofs.YtgnbhcgagdfaiaaGreatDoor

namespace Go.Proofs.YtgnbhcgagdfaiaaGreatDoor
open Go.RowKit
set_option linter.unusedVariables false

/-- A region's name and level. -/
structure RgC (w : World) (b o : Nat) (x : DRegion) : Prop where
  c0 : w.cell? ⟨b, o, none⟩ = some (.string x.id)
  c1 : w.cell? ⟨b, o + 1, none⟩ = some (.int .i64 x.level)
theorem RgC.below' {w w' : World} {b o : Nat} {x : DRegion} (h : RgC w b o x) (hb : Below w.heap.size w w') : RgC w' b o x :=
  ⟨(hb.cell (p := ⟨b, o, none⟩) (block_lt_of_cell h.c0)).trans h.c0, (hb.cell (p := ⟨b, o + 1, none⟩) (block_lt_of_cell h.c1)).trans h.c1⟩
theorem RgC.lt {w : World} {b o : Nat} {x : DRegion} (h : RgC w b o x) : b < w.heap.size := block_lt_of_cell h.c0
theorem RgC.keptI {w w' : World} {b o : Nat} {x : DRegion} (h : RgC w b o x) (hk : ∀ j, w'.cell? ⟨b, j, none⟩ = w.cell? ⟨b, j, none⟩) : RgC w' b o x := ⟨(hk _).trans h.c0, (hk _).trans h.c1⟩
theorem memI_ints (k : Nat) (g : List Nat) : memI (k : Int) (ints g) = memN k g := by
  rw [Bool.eq_iff_iff, memI_true, memN_true, ints_mem]
set_option maxRecDepth 100000 in
set_option maxHeartbeats 8000000 in
theorem specRegionReport_any (v : Value) (xs : List DRegion) (fp : List Nat) (w : World) (hx : Sl cRegion w v xs fp) :
    Calls Tryz.prog 6 #[v] w fun e w' => NewR2 fStr.cod w (rgnF xs) (rgnC xs) e w' := by
  obtain ⟨A, cap, rfl, hle, hca⟩ := hx.form
  obtain ⟨i0, hi, hz0, hz1, hz2⟩ := info_parts infoSliceR
  go_enter Tryz.func6, Tryz.ntmps6
  go_wp2_with fail
  refine (l18Ok_any _ xs fp _ hx).mono ?_
  rintro e w1 ⟨rfl, hb1⟩
  have hx1 := hx.below' hb1
  cases h0 : regionsB xs
  · go_wp2
    go_ret2
    exact ⟨_, by rw [rgnC, h0]; rfl, by rw [rgnF, h0]; exact New.nil hb1⟩
  have HC := Lib.hid (show rgnC xs = doneC (tabF (rowsR xs xs.length)) from by rw [rgnC, h0]; rfl)
  have HF := Lib.hid (show rgnF xs = doneF (tabF (rowsR xs xs.length)) from by rw [rgnF, h0]; rfl)
  have hn8 := regs_len h0
  have H0 := Lib.hid h0
  have HGL := Lib.hid (show grL xs = groupsL xs.length (adjR xs) xs.length from rfl)
  clear h0 hx
  go_wp2_with fail
  refine (l18Levels_any _ xs fp _ hx1 (by omega)).mono ?_
  rintro e w2 ⟨vl, rfl, hol, hb2⟩
  have hx2 := hx1.below' hb2
  have hoks : ∀ y ∈ xs.map (·.level), fInt.ok y := fun y hy => by
    obtain ⟨x, hx, rfl⟩ := List.mem_map.1 hy
    obtain ⟨i, hi, rfl⟩ := List.getElem_of_mem hx
    have := regs_level H0.out hi
    show _ ∧ _; omega
  obtain ⟨fl, hsl, _, _⟩ := Sl.of_own (E := fInt) (xs := xs.map (fun x : DRegion => x.level)) (n := (xs.map (fun x : DRegion => x.level)).length) rfl hol hoks
  clear hol hoks
  go_wp2_with fail
  refine (l18Groups_any _ xs fp _ fl _ hx2 hsl H0.out).mono ?_
  rintro e wg ⟨vg, fq, rfl, hgr, _, hb3⟩
  rw [← HGL.out] at hgr
  have hxg := hx2.below' hb3
  have hBg : Below w.heap.size w wg := hb1.trans ((hb2.trans (hb3.mono hb2.size)).mono hb1.size)
  have hlt0 := hxg.lt
  obtain ⟨Ag, cg, rfl, _, _⟩ := hgr.form
  have hgn := grL_len (xs := xs)
  have hgl : ((grL xs).map ints).length = (grL xs).length := List.length_map _
  rw [hgl] at hgr ⊢
  have hgq := hgr.lt
  clear hx1 hx2 hsl hb1 hb2 hb3 hgl
  have hBa : Below wg.heap.size wg (wg.alloc (.cells #[.string ⟨#[114, 101, 103, 105, 111, 110]⟩, .string ⟨#[108, 101, 118, 101, 108]⟩, .string ⟨#[103, 114, 111, 117, 112]⟩] 9)) := (Below.refl _ _).alloc (Nat.le_refl _) _
  have hB0 : Below wg.heap.size wg ((wg.alloc (.cells #[.string ⟨#[114, 101, 103, 105, 111, 110]⟩, .string ⟨#[108, 101, 118, 101, 108]⟩, .string ⟨#[103, 114, 111, 117, 112]⟩] 9)).alloc (.cells #[.slice (some ⟨wg.heap.size, 0, none⟩) 3 3] 24)) := hBa.alloc hBa.size _
  have hs0 : Sl fStr.cod (wg.alloc (.cells #[.string ⟨#[114, 101, 103, 105, 111, 110]⟩, .string ⟨#[108, 101, 118, 101, 108]⟩, .string ⟨#[103, 114, 111, 117, 112]⟩] 9)) (.slice (some ⟨wg.heap.size, 0, none⟩) 3 3) hdR [wg.heap.size] := Sl.lit2 (E := fStr) wg hdR _ _ rfl hdR_oks (by show 0 < 3; decide) (by show 3 ≤ _; decide)
  have hr0 := RowsV.first (B := wg.heap.size) hBa.size hs0 (fun b hb => by rw [List.mem_singleton] at hb; subst hb; exact Nat.le_refl _)
  rw [← rowsR_zero xs, World.size_alloc] at hr0
  clear hs0 hBa
  go_wp2
  go_loopw [5, 6] (fun v i wr => ∃ k : Nat, k ≤ xs.length ∧ i = .int .i64 k ∧ (∃ V F, RowsV wr wg.heap.size v (rowsR xs k) V F) ∧ Below wg.heap.size wg wr) (fun _ i _ => xs.length - (intOf i).toNat)
  case atStart => exact ⟨0, Nat.zero_le _, rfl, ⟨_, _, hr0⟩, hB0⟩
  case round => as_aux_lemma =>
    clear hr0 hB0
    obtain ⟨k, hk, rfl, ⟨V, F, hrw⟩, hb⟩ := hrel
    by_cases hlt : k < xs.length
    · have hki : (k : Int) < (xs.length : Int) := by omega
      obtain ⟨b, off, vk, fk, rfl, r0, r1, _, _, hbm0, _, hidok, _⟩ := (hxg.below' hb).reg hlt
      have hbm := hlt0 b hbm0
      have hP := rowP_of H0.out hlt
      have hlv := hP.lv
      have hgr8 := hP.gr
      have HRO := Lib.hid (rowR_oks hP)
      have HST := Lib.hid (rowsR_step (xs := xs) k)
      have hgD : xs.getD k rg0 = xs[k] := getD_of_lt hlt
      have HRW : Hid (rowR xs k = [xs[k].id, decS xs[k].level, decS ((grpF (grL xs) k : Nat) : Int)]) := by show _ = _; unfold rowR; rw [hgD]
      rw [hgD] at hlv
      have hp : RgC wr b (off + k * 3) xs[k] := ⟨r0, r1⟩
      have hgw := hgr.below' hb
      have hGlt := grpF_lt hlt
      have hrow : u5.ownBlock ≠ some b := fun e => by have := (World.ownsRow.lt hrw.own _ e).1; omega
      clear hgD hP
      go_wp2
      go_loop [7] (fun a => ∃ m : Nat, m ≤ grpF (grL xs) k ∧ a = .int .i64 m) (fun a => (grL xs).length - (intOf a).toNat)
      case atStart => exact ⟨0, Nat.zero_le _, rfl⟩
      case round => as_aux_lemma =>
        obtain ⟨m, hm, rfl⟩ := hrel
        have hml : m < (grL xs).length := by omega
        have hmi : (m : Int) < ((grL xs).length : Int) := by omega
        obtain ⟨bP, oP, vP, fP, rfl, hcP, hrP, _⟩ := hgw.elem (k := m) (by rw [List.length_map]; exact hml)
        rw [List.getElem_map] at hrP
        go_wp2_with fail
        refine (l00Has_any _ (ints (grL xs)[m]) fP (k : Int) _ hrP).mono ?_
        rintro e w' ⟨rfl, rfl⟩
        rw [memI_ints]
        by_cases he : m < grpF (grL xs) k
        · rw [grpF_not hml he]
          clear hrP hcP
          go_wp2
          go_round
          case rel => exact ⟨m + 1, by omega, by go_num⟩
          case measure => simp [intOf]; omega
        · obtain rfl : m = grpF (grL xs) k := by omega
          rw [memN_true.2 (grpF_has hlt)]
          clear hrP hcP he hm
          generalize hgk : grpF (grL xs) k = gk at *
          clear hgk
          go_wp2
          have hrowne : some b = u5.ownBlock → False := fun e => hrow e.symm
          rename World => W
          have hBW := hb
          have hpW := hp
          have hrW := hrw
          have hbW := hBW.size
          clear hb hp hrw hbm0 r0 r1
          have gk0 : ∀ p : KeptW (wg.heap.size) W (fun N => RgC N b (off + k * 3) xs[k]), p.v.cell? ⟨b, off + k * 3, none⟩ = some (.string xs[k].id) := fun p => p.x.c0
          have gk1 : ∀ p : KeptW (wg.heap.size) W (fun N => RgC N b (off + k * 3) xs[k]), p.v.cell? ⟨b, off + k * 3 + 1, none⟩ = some (.int .i64 xs[k].level) := fun p => p.x.c1
          haveI hKne : Nonempty (KeptW (wg.heap.size) W (fun N => RgC N b (off + k * 3) xs[k])) := ⟨⟨_, Below.drew (Below.refl _ _), (hpW.below' (Below.drew (Below.refl _ _)))⟩⟩
          refine wp_region_mixed [0, 1, 2, 3, 4, 5, 6, 7, 8, 9, 10, 12, 11, 13, 14, 15, 16, 17] (C := fun w' => ∃ p : KeptW (wg.heap.size) W (fun N => RgC N b (off + k * 3) xs[k]), w' = p.v) [true, true, true, true, true, true, true, true, true, true, true, true, false, false, false, false, false, true] (by kernel_rfl) (by kernel_rfl) (by kernel_rfl) (fun _ _ d _ _ h => by cases d <;> exact h) ⟨⟨_, Below.drew (Below.refl _ _), (hpW.below' (Below.drew (Below.refl _ _)))⟩, rfl⟩ ?_
          simp only [List.map_cons, List.map_nil, List.getD_cons_zero, List.getD_cons_succ]
          have hS0 : Below (wg.heap.size) W W.drew := Below.drew (Below.refl _ _)
          refine wpMix_pure (by kernel_rfl) (fun K hK => ?_); go_big_quiet_op; refine hK _ ?_; clear hK K
          refine wpMix_pure (by kernel_rfl) (fun K hK => ?_); go_big_quiet_op; refine hK _ ?_; clear hK K
          refine wpMix_pure (by kernel_rfl) (fun K hK => ?_); go_big_quiet_op; refine hK _ ?_; clear hK K
          refine wpMix_pure (by kernel_rfl) (fun K hK => ?_); go_big_quiet_op; refine hK _ ?_; clear hK K
          refine wpMix_pure (by kernel_rfl) (fun K hK => ?_); go_big_quiet_op; refine hK _ ?_; clear hK K
          refine wpMix_pure (by kernel_rfl) (fun K hK => ?_); go_big_quiet_op; refine hK _ ?_; clear hK K
          refine wpMix_pure (by kernel_rfl) (fun K hK => ?_); go_big_quiet_op; refine hK _ ?_; clear hK K
          refine wpMix_pure (by kernel_rfl) (fun K hK => ?_); go_big_quiet_op; refine hK _ ?_; clear hK K
          refine wpMix_pure (by kernel_rfl) (fun K hK => ?_); go_big_quiet_op; refine hK _ ?_; clear hK K
          refine wpMix_pure (by kernel_rfl) (fun K hK => ?_); go_big_quiet_op; refine hK _ ?_; clear hK K
          refine wpMix_pure (by kernel_rfl) (fun K hK => ?_); go_big_quiet_op; refine hK _ ?_; clear hK K
          refine wpMix_pure (by kernel_rfl) (fun K hK => ?_); go_big_quiet_op; refine hK _ ?_; clear hK K
          refine wpMix_act (by kernel_rfl) (fun K hK => ?_)
          go_big_op
          refine (l01Dec_any xs[k].level _ (by omega) (by omega)).mono ?_
          rintro e wr1 ⟨rfl, hbr1⟩
          have hbr1S : Below (wg.heap.size) W wr1 := hS0.trans (hbr1.mono (Nat.le_trans hbW hS0.size))
          refine hK _ _ ⟨⟨_, hbr1S, (((hpW.below' (Below.drew (Below.refl _ _)))).below' hbr1)⟩, rfl⟩ ?_
          clear hK K
          refine wpMix_act (by kernel_rfl) (fun K hK => ?_)
          go_big_op
          refine (l01Dec_any (gk : Int) _ (by omega) (by omega)).mono ?_
          rintro e wr2 ⟨rfl, hbr2⟩
          have hbr2S : Below (wg.heap.size) W wr2 := hbr1S.trans (hbr2.mono (Nat.le_trans hbW hbr1S.size))
          refine hK _ _ ⟨⟨_, hbr2S, (((((hpW.below' (Below.drew (Below.refl _ _)))).below' hbr1)).below' hbr2)⟩, rfl⟩ ?_
          clear hK K
          refine wpMix_act (by kernel_rfl) (fun K hK => ?_)
          go_big_op
          refine hK _ _ ⟨⟨_, (hbr2S.alloc (Nat.le_trans hbW hbr2S.size) _), (((((((hpW.below' (Below.drew (Below.refl _ _)))).below' hbr1)).below' hbr2)).below' ((Below.refl _ _).alloc (Nat.le_refl _) _))⟩, rfl⟩ ?_
          clear hK K
          refine mix_world (fun N => Below (wg.heap.size) W N ∧ RgC N b (off + k * 3) xs[k] ∧ RowsV N wg.heap.size u5 (rowsR xs k) V F ∧ Sl fStr.cod N (.slice (some ⟨wr2.heap.size, 0, none⟩) 3 3) (rowR xs k) [wr2.heap.size] ∧ wr2.heap.size < N.heap.size) ⟨hbr2S.alloc (Nat.le_trans hbW hbr2S.size) _, ⟨(((hpW.below' (Below.drew (Below.refl _ _))).below' hbr1).below' hbr2).below' ((Below.refl _ _).alloc (Nat.le_refl _) _), (((hrW.below (Below.drew (Below.refl _ _))).below hbr1).below hbr2).below ((Below.refl _ _).alloc (Nat.le_refl _) _), Sl.lit2 (E := fStr) wr2 (rowR xs k) _ _ (by rw [HRW.out]; rfl) HRO.out (by show 0 < 3; decide) (by show 3 ≤ _; decide), by simp⟩⟩ ?_
          rintro wr3 ⟨hbr3S, hbr3F⟩
          refine wpMix_act (by kernel_rfl) (fun K hK => ?_)
          go_big_op
          refine hK _ _ ⟨⟨_, (hbr3S.alloc (Nat.le_trans hbW hbr3S.size) _), ((hbr3F.1).below' ((Below.refl _ _).alloc (Nat.le_refl _) _))⟩, rfl⟩ ?_
          clear hK K
          refine mix_world (fun N => Below (wg.heap.size) W N ∧ RgC N b (off + k * 3) xs[k] ∧ RowsV N wg.heap.size u5 (rowsR xs k) V F ∧ Sl fStr.cod N (.slice (some ⟨wr2.heap.size, 0, none⟩) 3 3) (rowR xs k) [wr2.heap.size] ∧ wr2.heap.size < N.heap.size ∧ N.cell? ⟨wr3.heap.size, 0, none⟩ = some (.slice (some ⟨wr2.heap.size, 0, none⟩) 3 3)) ⟨hbr3S.alloc (Nat.le_trans hbW hbr3S.size) _, ⟨hbr3F.1.below' ((Below.refl _ _).alloc (Nat.le_refl _) _), hbr3F.2.1.below ((Below.refl _ _).alloc (Nat.le_refl _) _), hbr3F.2.2.1.below' ((Below.refl _ _).alloc (Nat.le_refl _) _), by have := hbr3F.2.2.2; simp; omega, by simp⟩⟩ ?_
          rintro wr4 ⟨hbr4S, hbr4F⟩
          refine wpMix_act (by kernel_rfl) (fun K hK => ?_)
          obtain ⟨hp6, hr6, hs6, hlt6, hc6⟩ := hbr4F
          refine wp_append_at2 _ _ _ 61 rfl wg.heap.size 24 i0 (.slice none 0 0) 1 24 Tryz.underlying61 hi hz0 hz1 hz2 rfl (by decide) u5 (rowsR xs k).length _ rfl hr6.own [.slice (some ⟨wr2.heap.size, 0, none⟩) 3 3] rfl (by intro u hu; rw [List.mem_singleton] at hu; subst hu; rfl) wr3.heap.size rfl (by intro j u hj; match j, hj with | 0, hj => (injection hj with hj; subst hj; exact hc6) | j + 1, hj => (simp at hj)) (by rw [rowsR_len]; omega) (by decide) (Nat.le_trans hbW hbr4S.size) ?_
          intro v' u hown hbu hgr5 hli
          have hr7 := hr6.push hs6 (fun b hb => by rw [List.mem_singleton] at hb; subst hb; exact ⟨Nat.le_trans hbW hbr2S.size, fun e => by have := hrW.lt _ e; have := hbr2S.size; have h5 := hS0.size; exact Nat.lt_irrefl _ (Nat.lt_of_lt_of_le (hrW.lt _ e) (W_le hbr2S))⟩) hown hgr5 hli
          rw [← HST.out] at hr7
          clear hown
          have hpu : RgC u b (off + k * 3) xs[k] := hp6.keptI (fun j => World.cell?_of_block (a := ⟨b, j, none⟩) (hgr5.block b hp6.lt (fun e => hrowne e)))
          have hbuS : Below (wg.heap.size) W u := hbr4S.trans hbu
          try simp only [Act.put, List.setIfInBounds_toArray, List.set_cons_zero, List.set_cons_succ]
          refine hK _ _ ⟨⟨_, hbuS, hpu⟩, rfl⟩ ?_
          clear hK K
          refine wpMix_pure (by kernel_rfl) (fun K hK => ?_); go_big_quiet_op; refine hK _ ?_; clear hK K
          refine wpMix_nil ?_
          have hb9 := hBW.trans hbuS
          go_wp2
          go_roundw
          case rel => exact ⟨k + 1, by omega, by go_num, ⟨_, _, hr7⟩, hb9⟩
          case measure => simp [intOf]; omega
    · have hke : k = xs.length := by omega
      subst hke
      have hki : ¬ (xs.length : Int) < (xs.length : Int) := by omega
      have hrl : (rowsR xs xs.length).length = xs.length + 1 := rowsR_len _ _
      obtain ⟨fpr, hsl⟩ := hrw.sl (by omega)
      have hrs := rowsR_size H0.out
      have hro := rowsR_ok H0.out
      have h12 := rowsOk_12 hro
      have hlen7 : (rowsR xs xs.length).length ≤ 1048577 := by omega
      have hbW := hBg.trans (hb.mono hBg.size)
      clear hro hrw hgr
      generalize rowsR xs xs.length = R at *
      clear hrl
      go_wp2_with fail
      refine (l30Table_any _ R fpr _ hsl hlen7 hrs h12).mono ?_
      rintro e w2 ⟨v2, rfl, hn⟩
      have hn2 := hn.later hbW
      obtain ⟨⟨fpn, hsn, hlo, hnd⟩, _⟩ := id hn2
      go_wp2_with fail
      refine (l30Done_any _ (tabF R) fpn _ hsn).mono ?_
      rintro e w' ⟨rfl, rfl⟩
      go_wp2
      go_ret2
      exact ⟨_, by rw [HC.out]; rfl, by rw [HF.out]; exact hn2.done⟩

end Go.Proofs.YtgnbhcgagdfaiaaGreatDoor

namespace Go.Proofs.YtgnbhcgagdfaiaaGreatDoor
open Go.RowKit Go.Sort
set_option linter.unusedVariables false

set_option maxRecDepth 100000 in
set_option maxHeartbeats 1000000 in
theorem lessI_any (a b : Int) (w : World) : Calls Tryz.prog 144 #[.int .i64 a, .int .i64 b] w fun e w' => e = .returned (.bool (ltInt a b)) ∧ w = w' := by
  unfold ltInt
  go_enter Tryz.func144, Tryz.ntmps144
  go_wp2_with (go_at_call 156; refine (isNaNI_any _ _).mono ?_; rintro e w' ⟨rfl, rfl⟩)
  go_ret
  exact ⟨rfl, rfl⟩
/-- One swap. -/
def swpL (L : List Int) (j : Nat) : List Int := (L.set (j + 1) (L.getD j 0)).set j (L.getD (j + 1) 0)
theorem swpL_len (L : List Int) (j : Nat) : (swpL L j).length = L.length := by unfold swpL; rw [List.length_set, List.length_set]
theorem swpL_perm {L : List Int} {j : Nat} (h : j + 1 < L.length) : (swpL L j).Perm L := by
  unfold swpL
  rw [getD_of_lt (show j < L.length by omega), getD_of_lt h]
  exact List.set_set_perm h (by omega)
theorem swpL_get {L : List Int} {j : Nat} (h : j + 1 < L.length) (p : Nat) : (swpL L j).getD p 0 = if p = j then L.getD (j + 1) 0 else if p = j + 1 then L.getD j 0 else L.getD p 0 := by
  unfold swpL
  simp only [List.getD_eq_getElem?_getD, List.getElem?_set, List.length_set]
  by_cases e1 : p = j
  · subst e1
    rw [if_pos rfl, if_pos rfl, if_pos (by omega)]; rfl
  · have e1' : ¬ j = p := fun e => e1 e.symm
    simp only [if_neg e1, if_neg e1']
    by_cases e2 : p = j + 1
    · subst e2
      simp only [if_pos, if_pos h]; rfl
    · have e2' : ¬ j + 1 = p := fun e => e2 e.symm
      simp only [if_neg e2, if_neg e2']
/-- The first i + 1 are sorted but for the j-th, which may stand too far behind. -/
def Ins1 (L : List Int) (i j : Nat) : Prop := ∀ p q, p < q → q ≤ i → q ≠ j → L.getD p 0 ≤ L.getD q 0
def Srt1 (L : List Int) (i : Nat) : Prop := ∀ p q, p < q → q < i → L.getD p 0 ≤ L.getD q 0
theorem Ins1.start {L : List Int} {i : Nat} (h : Srt1 L i) : Ins1 L i i := fun p q h1 h2 h3 => h p q h1 (by omega)
theorem Ins1.zero {L : List Int} {i : Nat} (h : Ins1 L i 0) : Srt1 L (i + 1) := fun p q h1 h2 => h p q h1 (by omega) (by omega)
theorem Ins1.stop {L : List Int} {i j : Nat} (h : Ins1 L i (j + 1)) (hl : L.getD j 0 ≤ L.getD (j + 1) 0) : Srt1 L (i + 1) := fun p q h1 h2 => by
  by_cases e : q = j + 1
  · subst e
    rcases Nat.lt_or_eq_of_le (Nat.le_of_lt_succ h1) with h3 | rfl
    · have := h p j h3 (by omega) (by omega); omega
    · exact hl
  · exact h p q h1 (by omega) e
theorem Ins1.step {L : List Int} {i j : Nat} (h : Ins1 L i (j + 1)) (hl : L.getD (j + 1) 0 < L.getD j 0) (hj : j + 1 ≤ i) (hL : j + 1 < L.length) : Ins1 (swpL L j) i j := fun p q h1 h2 h3 => by
  rw [swpL_get hL, swpL_get hL, if_neg h3]
  by_cases e1 : p = j
  · rw [if_pos e1]
    by_cases e2 : q = j + 1
    · rw [if_pos e2]; omega
    · rw [if_neg e2]
      have := h (j + 1) q (by omega) h2 e2; omega
  · rw [if_neg e1]
    by_cases e2 : q = j + 1
    · rw [if_pos e2, if_neg (by omega)]
      exact h p j (by omega) (by omega) (by omega)
    · rw [if_neg e2]
      by_cases e3 : p = j + 1
      · rw [if_pos e3]
        exact h j q (by omega) h2 e2
      · rw [if_neg e3]; exact h p q h1 h2 e2
theorem srt_pairwise {L : List Int} (h : Srt1 L L.length) : L.Pairwise (· ≤ ·) := by
  rw [List.pairwise_iff_getElem]
  intro p q hp hq hpq
  have := h p q hpq hq
  rw [getD_of_lt hp, getD_of_lt hq] at this; exact this
theorem own_swp {w : World} {base g n cap : Nat} {L : List Int} {j : Nat} {x y : Int} (h : Own fInt w base 2 (.slice (some ⟨g, 0, none⟩) n cap) L) (hj : j + 1 < L.length) (hx : x = L.getD j 0) (hy : y = L.getD (j + 1) 0) :
    Own fInt ((w.setCell ⟨g, j + 1, none⟩ (.int .i64 x)).setCell ⟨g, j, none⟩ (.int .i64 y)) base 2 (.slice (some ⟨g, 0, none⟩) n cap) (swpL L j) := by
  subst hx hy
  exact (h.set1 rfl (j + 1) _ _ rfl).set1 rfl j _ _ rfl
set_option maxRecDepth 100000 in
set_option maxHeartbeats 8000000 in
theorem insSortI_any (g cap base : Nat) (xs : List Int) (w : World) (ho : Own fInt w base 2 (.slice (some ⟨g, 0, none⟩) xs.length cap) xs) (hl : xs.length ≤ 12) :
    Calls Tryz.prog 138 #[.slice (some ⟨g, 0, none⟩) xs.length cap, .int .i64 0, .int .i64 xs.length] w fun e w' =>
      e = .returned (.tuple #[]) ∧ ∃ L, Own fInt w' base 2 (.slice (some ⟨g, 0, none⟩) xs.length cap) L ∧ L.Perm xs ∧ L.Pairwise (· ≤ ·) ∧ Only [g] w w' := by
  obtain ⟨hgB, hgl, _, hnc, _⟩ := ho.blk
  obtain ⟨n, hn⟩ : ∃ n, n = xs.length := ⟨_, rfl⟩
  have HN := Lib.hid hn
  rw [← hn] at ho hl hnc ⊢
  clear hn
  go_enter Tryz.func138, Tryz.ntmps138
  go_wp2
  go_loopw [6] (fun vi wr => ∃ (i : Nat) (L : List Int), vi = .int .i64 (i + 1 : Nat) ∧ (i + 1 ≤ n ∨ i = 0) ∧ Own fInt wr base 2 (.slice (some ⟨g, 0, none⟩) n cap) L ∧ Hid (L.Perm xs ∧ Srt1 L (i + 1)) ∧ Only [g] w wr) (fun vi _ => n + 1 - (intOf vi).toNat)
  case atStart => exact ⟨0, xs, by go_num, .inr rfl, ho, ⟨List.Perm.refl _, fun p q h1 h2 => by omega⟩, Only.refl _ _⟩
  case round => as_aux_lemma =>
    clear ho
    obtain ⟨i, L, rfl, hi, ho, HP, hor⟩ := hrel
    rename World => wo
    by_cases hlt : i + 1 < n
    rotate_left
    · have hlt' : ¬ (i : Int) + 1 < (n : Int) := by omega
      have hLn : L.length = xs.length := HP.out.1.length_eq
      go_wp2
      go_end0
      refine ⟨rfl, L, ho, HP.out.1, srt_pairwise (fun p q h1 h2 => HP.out.2 p q h1 (by have := HN.out; omega)), hor⟩
    have hlt' : (i : Int) + 1 < (n : Int) := by omega
    go_wp2
    go_loopw [7] (fun vj wr => ∃ (j : Nat) (M : List Int), vj = .int .i64 j ∧ j ≤ i + 1 ∧ Own fInt wr base 2 (.slice (some ⟨g, 0, none⟩) n cap) M ∧ Hid (M.Perm xs ∧ Ins1 M (i + 1) j) ∧ Only [g] w wr) (fun vj _ => (intOf vj).toNat)
    case atStart => exact ⟨i + 1, L, by go_num, Nat.le_refl _, ho, ⟨HP.out.1, Ins1.start HP.out.2⟩, hor⟩
    case round => as_aux_lemma =>
      clear ho hor HP
      obtain ⟨j, M, rfl, hj, ho, HP, hor⟩ := hrel
      have hMn : M.length = n := HP.out.1.length_eq.trans HN.out.symm
      cases j with
      | zero =>
        clear hMn
        have HS : Hid (M.Perm xs ∧ Srt1 M (i + 1 + 1)) := ⟨HP.out.1, Ins1.zero HP.out.2⟩
        go_wp2
        refine wp_region_mix (C := fun w' => ∃ p : Regrown, w' = Go.Sort.grow (redrawn wr p.d) p.os) [true, true, true, true, true, true, true, true, true, true, true, true, true, false, true] (by kernel_rfl) (by kernel_rfl) (by kernel_rfl) (fun _ _ d _ _ h => by cases d <;> exact h) (regrown_of_below (Below.drew (Below.refl _ _))) ?_
        have hS0 : Below (wr.heap.size) wr wr.drew := Below.drew (Below.refl _ _)
        refine wpMix_pure (by kernel_rfl) (fun K hK => ?_); go_big_quiet_op; refine hK _ ?_; clear hK K
        refine wpMix_pure (by kernel_rfl) (fun K hK => ?_); go_big_quiet_op; refine hK _ ?_; clear hK K
        refine wpMix_pure (by kernel_rfl) (fun K hK => ?_); go_big_quiet_op; refine hK _ ?_; clear hK K
        refine wpMix_pure (by kernel_rfl) (fun K hK => ?_); go_big_quiet_op; refine hK _ ?_; clear hK K
        refine wpMix_skip (by kernel_rfl) (fun K hK => ?_)
        simp only [Act.put, List.setIfInBounds_toArray, List.set_cons_zero, List.set_cons_succ]
        refine hK _ ?_; clear hK K
        refine wpMix_skip (by kernel_rfl) (fun K hK => ?_)
        simp only [Act.put, List.setIfInBounds_toArray, List.set_cons_zero, List.set_cons_succ]
        refine hK _ ?_; clear hK K
        refine wpMix_skip (by kernel_rfl) (fun K hK => ?_)
        simp only [Act.put, List.setIfInBounds_toArray, List.set_cons_zero, List.set_cons_succ]
        refine hK _ ?_; clear hK K
        refine wpMix_skip (by kernel_rfl) (fun K hK => ?_)
        simp only [Act.put, List.setIfInBounds_toArray, List.set_cons_zero, List.set_cons_succ]
        refine hK _ ?_; clear hK K
        refine wpMix_skip (by kernel_rfl) (fun K hK => ?_)
        simp only [Act.put, List.setIfInBounds_toArray, List.set_cons_zero, List.set_cons_succ]
        refine hK _ ?_; clear hK K
        refine wpMix_skip (by kernel_rfl) (fun K hK => ?_)
        simp only [Act.put, List.setIfInBounds_toArray, List.set_cons_zero, List.set_cons_succ]
        refine hK _ ?_; clear hK K
        refine wpMix_skip (by kernel_rfl) (fun K hK => ?_)
        simp only [Act.put, List.setIfInBounds_toArray, List.set_cons_zero, List.set_cons_succ]
        refine hK _ ?_; clear hK K
        refine wpMix_skip (by kernel_rfl) (fun K hK => ?_)
        simp only [Act.put, List.setIfInBounds_toArray, List.set_cons_zero, List.set_cons_succ]
        refine hK _ ?_; clear hK K
        refine wpMix_skip (by kernel_rfl) (fun K hK => ?_)
        simp only [Act.put, List.setIfInBounds_toArray, List.set_cons_zero, List.set_cons_succ]
        refine hK _ ?_; clear hK K
        refine wpMix_skip (by kernel_rfl) (fun K hK => ?_)
        simp only [Act.put, List.setIfInBounds_toArray, List.set_cons_zero, List.set_cons_succ]
        refine hK _ ?_; clear hK K
        refine wpMix_pure (by kernel_rfl) (fun K hK => ?_); go_big_quiet_op; refine hK _ ?_; clear hK K
        refine wpMix_nil ?_
        go_wp2
        go_roundw
        case rel => exact ⟨i + 1, M, by go_num, by omega, ho.below (hS0), HS, Only.trans hor (Only.of_below (hS0))⟩
        case measure => simp [intOf]; omega
      | succ j =>
        have hj1 : j + 1 < M.length := by omega
        have c1 : wr.cell? ⟨g, j + 1, none⟩ = some (.int .i64 (M.getD (j + 1) 0)) := ho.cellI (by rw [List.getElem?_eq_getElem hj1, getD_of_lt hj1])
        have c2 : wr.cell? ⟨g, j, none⟩ = some (.int .i64 (M.getD j 0)) := ho.cellI (by rw [List.getElem?_eq_getElem (show j < M.length by omega), getD_of_lt (show j < M.length by omega)])
        obtain ⟨y, hy⟩ : ∃ y, y = M.getD (j + 1) 0 := ⟨_, rfl⟩
        obtain ⟨x, hx⟩ : ∃ x, x = M.getD j 0 := ⟨_, rfl⟩
        rw [← hy] at c1
        rw [← hx] at c2
        have HX := Lib.hid hx
        have HY := Lib.hid hy
        have HMN := Lib.hid hMn
        have hjn : j + 1 < n := by omega
        have hjn1 : (j : Int) + 1 < (n : Int) := by omega
        have hjn2 : (j : Int) < (n : Int) := by omega
        clear hx hy hMn
        rw [show ((j + 1 : Nat) : Int) = (j : Int) + 1 by omega]
        go_wp2
        have gc1 := cell_regrown c1
        have gc2 := cell_regrown c2
        refine wp_region_mix (C := fun w' => ∃ p : Regrown, w' = Go.Sort.grow (redrawn wr p.d) p.os) [true, true, true, true, true, true, true, true, true, true, true, true, true, false, true] (by kernel_rfl) (by kernel_rfl) (by kernel_rfl) (fun _ _ d _ _ h => by cases d <;> exact h) (regrown_of_below (Below.drew (Below.refl _ _))) ?_
        have hS0 : Below (wr.heap.size) wr wr.drew := Below.drew (Below.refl _ _)
        refine wpMix_pure (by kernel_rfl) (fun K hK => ?_); go_big_quiet_op; refine hK _ ?_; clear hK K
        refine wpMix_pure (by kernel_rfl) (fun K hK => ?_); go_big_quiet_op; refine hK _ ?_; clear hK K
        refine wpMix_pure (by kernel_rfl) (fun K hK => ?_); go_big_quiet_op; refine hK _ ?_; clear hK K
        refine wpMix_pure (by kernel_rfl) (fun K hK => ?_); go_big_quiet_op; refine hK _ ?_; clear hK K
        refine wpMix_pure (by kernel_rfl) (fun K hK => ?_); go_big_quiet_op; refine hK _ ?_; clear hK K
        refine wpMix_pure (by kernel_rfl) (fun K hK => ?_); go_big_quiet_op; refine hK _ ?_; clear hK K
        refine wpMix_pure (by kernel_rfl) (fun K hK => ?_); go_big_quiet_op; refine hK _ ?_; clear hK K
        refine wpMix_pure (by kernel_rfl) (fun K hK => ?_); go_big_quiet_op; refine hK _ ?_; clear hK K
        refine wpMix_pure (by kernel_rfl) (fun K hK => ?_); go_big_quiet_op; refine hK _ ?_; clear hK K
        refine wpMix_pure (by kernel_rfl) (fun K hK => ?_); go_big_quiet_op; refine hK _ ?_; clear hK K
        refine wpMix_pure (by kernel_rfl) (fun K hK => ?_); go_big_quiet_op; refine hK _ ?_; clear hK K
        refine wpMix_pure (by kernel_rfl) (fun K hK => ?_); go_big_quiet_op; refine hK _ ?_; clear hK K
        refine wpMix_pure (by kernel_rfl) (fun K hK => ?_); go_big_quiet_op; refine hK _ ?_; clear hK K
        refine wpMix_act (by kernel_rfl) (fun K hK => ?_)
        go_big_op
        refine (lessI_any _ _ _).mono ?_
        rintro e w' ⟨rfl, rfl⟩
        refine hK _ _ (regrown_of_below hS0) ?_
        clear hK K
        cases hq13 : ltInt y x
        · skip
          refine wpMix_pure (by kernel_rfl) (fun K hK => ?_); go_big_quiet_op; refine hK _ ?_; clear hK K
          refine wpMix_nil ?_
          have HS : Hid (M.Perm xs ∧ Srt1 M (i + 1 + 1)) := ⟨HP.out.1, Ins1.stop HP.out.2 (by rw [← HX.out, ← HY.out]; have := hq13; unfold ltInt at this; have := of_decide_eq_false this; omega)⟩
          have ho9 := ho.below (hS0)
          have hor9 := Only.trans hor (Only.of_below (hS0))
          clear HP c1 c2 gc1 gc2 hS0
          go_wp2
          go_roundw
          case rel => exact ⟨i + 1, M, by go_num, by omega, ho9, HS, hor9⟩
          case measure => simp [intOf]; omega
        · skip
          refine wpMix_pure (by kernel_rfl) (fun K hK => ?_); go_big_quiet_op; refine hK _ ?_; clear hK K
          refine wpMix_nil ?_
          have HS : Hid ((swpL M j).Perm xs ∧ Ins1 (swpL M j) (i + 1) j) := ⟨(swpL_perm hj1).trans HP.out.1, Ins1.step HP.out.2 (by rw [← HX.out, ← HY.out]; have := hq13; unfold ltInt at this; exact of_decide_eq_true this) (by omega) hj1⟩
          have hS9 : Below wr.heap.size wr wr.drew := hS0
          have ho9 := ho.below hS9
          have hor9 := Only.trans hor (Only.of_below hS9)
          have d1 : wr.drew.cell? ⟨g, j + 1, none⟩ = some (.int .i64 y) := (hS9.cell (p := ⟨g, j + 1, none⟩) (block_lt_of_cell c1)).trans c1
          have d2 : wr.drew.cell? ⟨g, j, none⟩ = some (.int .i64 x) := (hS9.cell (p := ⟨g, j, none⟩) (block_lt_of_cell c2)).trans c2
          have z1 := ho9.frozenS (j + 1)
          have z2 := ho9.frozenS j
          have HO2 := Lib.hid (own_swp ho9 hj1 HX.out HY.out)
          have HR2 := Lib.hid ((hor9.set (j + 1) (.int .i64 x)).set j (.int .i64 y))
          clear HP c1 c2 gc1 gc2 hS0 hS9 ho9 hor9
          generalize wr.drew = W9 at *
          go_wp2
          refine wp_region_fork (C := fun _ => True) [0, 1, 2, 3, 4, 5, 6, 7, 8, 10, 11, 12] 9 [13, 14, 15, 16, 17] [false, true, false, true, false] 13 [9, 14, 15, 16, 17] [false, true, false, true, false] (by kernel_rfl) (by kernel_rfl) (by kernel_rfl) (fun _ _ d _ _ h => by cases d <;> exact h) trivial ?_
          simp only [List.map_cons, List.map_nil, List.getD_cons_zero, List.getD_cons_succ]
          have hS0 : Below (W9.heap.size) W9 W9.drew := Below.drew (Below.refl _ _)
          refine wpFork_pure (by kernel_rfl) (fun K hK => ?_)
          go_big_quiet_op
          refine hK _ ?_; clear hK K
          refine wpFork_pure (by kernel_rfl) (fun K hK => ?_)
          go_big_quiet_op
          refine hK _ ?_; clear hK K
          refine wpFork_pure (by kernel_rfl) (fun K hK => ?_)
          go_big_quiet_op
          refine hK _ ?_; clear hK K
          refine wpFork_pure (by kernel_rfl) (fun K hK => ?_)
          go_big_quiet_op
          refine hK _ ?_; clear hK K
          refine wpFork_pure (by kernel_rfl) (fun K hK => ?_)
          go_big_quiet_op
          refine hK _ ?_; clear hK K
          refine wpFork_pure (by kernel_rfl) (fun K hK => ?_)
          go_big_quiet_op
          refine hK _ ?_; clear hK K
          refine wpFork_pure (by kernel_rfl) (fun K hK => ?_)
          go_big_quiet_op
          refine hK _ ?_; clear hK K
          refine wpFork_pure (by kernel_rfl) (fun K hK => ?_)
          go_big_quiet_op
          refine hK _ ?_; clear hK K
          refine wpFork_pure (by kernel_rfl) (fun K hK => ?_)
          go_big_quiet_op
          refine hK _ ?_; clear hK K
          refine wpFork_pure (by kernel_rfl) (fun K hK => ?_)
          go_big_quiet_op
          refine hK _ ?_; clear hK K
          refine wpFork_pure (by kernel_rfl) (fun K hK => ?_)
          go_big_quiet_op
          refine hK _ ?_; clear hK K
          refine wpFork_pure (by kernel_rfl) (fun K hK => ?_)
          go_big_quiet_op
          refine hK _ ?_; clear hK K
          refine wpFork_split ?_ ?_
          · skip
            refine wpMix_act (by kernel_rfl) (fun K hK => ?_)
            go_big_op
            try simp only [Act.put, List.setIfInBounds_toArray, List.set_cons_zero, List.set_cons_succ]
            refine hK _ _ trivial ?_
            clear hK K
            refine wpMix_act (by kernel_rfl) (fun K hK => ?_)
            go_big_op
            try simp only [Act.put, List.setIfInBounds_toArray, List.set_cons_zero, List.set_cons_succ]
            refine hK _ _ trivial ?_
            clear hK K
            refine wpMix_pure (by kernel_rfl) (fun K hK => ?_); go_big_quiet_op; refine hK _ ?_; clear hK K
            refine wpMix_act (by kernel_rfl) (fun K hK => ?_)
            go_big_op
            try simp only [Act.put, List.setIfInBounds_toArray, List.set_cons_zero, List.set_cons_succ]
            refine hK _ _ trivial ?_
            clear hK K
            refine wpMix_pure (by kernel_rfl) (fun K hK => ?_); go_big_quiet_op; refine hK _ ?_; clear hK K
            refine wpMix_act (by kernel_rfl) (fun K hK => ?_)
            go_big_op
            try simp only [Act.put, List.setIfInBounds_toArray, List.set_cons_zero, List.set_cons_succ]
            refine hK _ _ trivial ?_
            clear hK K
            refine wpMix_nil ?_
            have hj12 : (j : Int) ≤ 12 := by omega
            clear hq13 HX HY
            go_wp2
            go_roundw
            case rel => exact ⟨j, swpL M j, by go_num, by omega, HO2.out.below (Below.drew (Below.refl _ _)), HS, Only.trans HR2.out (Only.of_below (Below.drew (Below.refl _ _)))⟩
            case measure => simp [intOf]
          · skip
            refine wpMix_act (by kernel_rfl) (fun K hK => ?_)
            go_big_op
            try simp only [Act.put, List.setIfInBounds_toArray, List.set_cons_zero, List.set_cons_succ]
            refine hK _ _ trivial ?_
            clear hK K
            refine wpMix_act (by kernel_rfl) (fun K hK => ?_)
            go_big_op
            try simp only [Act.put, List.setIfInBounds_toArray, List.set_cons_zero, List.set_cons_succ]
            refine hK _ _ trivial ?_
            clear hK K
            refine wpMix_pure (by kernel_rfl) (fun K hK => ?_); go_big_quiet_op; refine hK _ ?_; clear hK K
            refine wpMix_act (by kernel_rfl) (fun K hK => ?_)
            go_big_op
            try simp only [Act.put, List.setIfInBounds_toArray, List.set_cons_zero, List.set_cons_succ]
            refine hK _ _ trivial ?_
            clear hK K
            refine wpMix_pure (by kernel_rfl) (fun K hK => ?_); go_big_quiet_op; refine hK _ ?_; clear hK K
            refine wpMix_act (by kernel_rfl) (fun K hK => ?_)
            go_big_op
            try simp only [Act.put, List.setIfInBounds_toArray, List.set_cons_zero, List.set_cons_succ]
            refine hK _ _ trivial ?_
            clear hK K
            refine wpMix_nil ?_
            have hj12 : (j : Int) ≤ 12 := by omega
            clear hq13 HX HY
            go_wp2
            go_roundw
            case rel => exact ⟨j, swpL M j, by go_num, by omega, HO2.out.below (Below.drew (Below.refl _ _)), HS, Only.trans HR2.out (Only.of_below (Below.drew (Below.refl _ _)))⟩
            case measure => simp [intOf]
set_option maxRecDepth 100000 in
set_option maxHeartbeats 4000000 in
theorem pdqI_any (g cap base : Nat) (xs : List Int) (lim : Int) (w : World) (ho : Own fInt w base 2 (.slice (some ⟨g, 0, none⟩) xs.length cap) xs) (hl : xs.length ≤ 12) :
    Calls Tryz.prog 106 #[.slice (some ⟨g, 0, none⟩) xs.length cap, .int .i64 0, .int .i64 xs.length, .int .i64 lim] w fun e w' =>
      e = .returned (.tuple #[]) ∧ ∃ L, Own fInt w' base 2 (.slice (some ⟨g, 0, none⟩) xs.length cap) L ∧ L.Perm xs ∧ L.Pairwise (· ≤ ·) ∧ Only [g] w w' := by
  have hl' : (xs.length : Int) ≤ 12 := by omega
  go_enter Tryz.func106, Tryz.ntmps106
  go_wp2
  go_loopw [1, 2] (fun a b wr => a = .int .i64 0 ∧ b = .int .i64 xs.length ∧ wr = w) (fun _ _ _ => 0)
  case atStart => exact ⟨rfl, rfl, rfl⟩
  case round =>
    obtain ⟨rfl, rfl, rfl⟩ := hrel
    go_wp2_with fail
    refine (insSortI_any g cap base xs _ ho hl).mono ?_
    rintro e w1 ⟨rfl, h⟩
    go_wp2
    exact bodyPost_ret (v := .tuple #[]) (by simp [results, Tryz.results106, go_sem]) rfl ⟨rfl, h⟩
set_option maxRecDepth 100000 in
set_option maxHeartbeats 4000000 in
theorem sortI_any (g cap base : Nat) (xs : List Int) (w : World) (ho : Own fInt w base 2 (.slice (some ⟨g, 0, none⟩) xs.length cap) xs) (hl : xs.length ≤ 12) :
    Calls Tryz.prog 70 #[.slice (some ⟨g, 0, none⟩) xs.length cap] w fun e w' =>
      e = .returned (.tuple #[]) ∧ ∃ L, Own fInt w' base 2 (.slice (some ⟨g, 0, none⟩) xs.length cap) L ∧ L.Perm xs ∧ L.Pairwise (· ≤ ·) ∧ Only [g] w w' := by
  go_enter Tryz.func70, Tryz.ntmps70
  go_wp2_with fail
  refine (Tryz.bits_Len (xs.length : Int) _ (by omega) (by omega)).mono ?_
  rintro e w' ⟨rfl, rfl⟩
  go_wp2_with fail
  refine (pdqI_any g cap base xs _ _ ho hl).mono ?_
  rintro e w1 ⟨rfl, h⟩
  go_wp2
  go_end0
  exact ⟨rfl, h⟩

end Go.Proofs.YtgnbhcgagdfaiaaGreatDoor
