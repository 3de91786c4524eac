/- Draws of gates and blocks. Written by wip/gen/dw.py. -/
import Derived.Test.YtdlihohkamajbaaGreatDoorDs
import Derived.Test.YtdlihohkamajbaaGreatDoorDe
import Derived.Test.YtdlihohkamajbaaGreatDoorBt
import Derived.Test.YtdlihohkamajbaaGreatDoorLt
import Derived.Test.YtdlihohkamajbaaGreatDoorFk
namespace Go.Proofs.YtdlihohkamajbaaGreatDoor
open Go.RowKit
set_option linter.unusedVariables false

theorem byte_mod (r : Int) (h : 0 ≤ r ∧ r ≤ 255) : r % 256 = ((UInt8.ofNat r.toNat).toNat : Int) := by
  rw [UInt8.toNat_ofNat']; omega
set_option maxRecDepth 100000 in
set_option maxHeartbeats 2000000 in
theorem word_any (n g : Nat) (m : Int) (w : World) (hs : SrcD n g w) (hn : n ≤ 999999990000) (hm : m ≤ 100) :
    Calls Tryz.prog 63 #[.pointer (some ⟨g, 0, none⟩), .int .i64 m] w fun e w' => ∃ s : ByteArray, e = .returned (.string s) ∧ s.size ≤ 100 ∧ SrcD (n + 102) g w' ∧ Only [g] w w' := by
  obtain ⟨i0, hi, hz0, hz1, hz2⟩ := info_parts infoU8d
  have hg := hs.lt
  have hB0 : Below w.heap.size w (w.alloc (.cells #[] 5)) := (Below.refl _ _).alloc (Nat.le_refl _) _
  go_enter Tryz.func63, Tryz.ntmps63
  go_wp2_with fail
  refine (pick_any n g m _ (hs.below hB0) (by omega) (by omega)).mono ?_
  rintro e w1 ⟨x, rfl, ⟨hx0, hx1, hx2⟩, hs1, ho1⟩
  have hx3 : x ≤ 100 := by
    rcases Int.lt_or_le 1 m with h | h
    · have := hx1 (by omega); omega
    · have := hx2 h; omega
  obtain ⟨q, rfl⟩ : ∃ q : Nat, x = q := ⟨x.toNat, by omega⟩
  have hO1 : Only [g] w w1 := Only.later hB0 ho1
  have hown0 : Own fByte w1 w.heap.size 5 (.slice (some ⟨w.heap.size, 0, none⟩) 0 0) [] := Own.only (Own.lit0 fByte w _) ho1 (fun b hb => by simp at hb; subst hb; exact hg)
  go_wp2
  go_loopw [5, 6] (fun v i wr => ∃ (j : Nat) (L : List UInt8), i = .int .i64 j ∧ j + L.length ≤ 100 ∧ Own fByte wr w.heap.size 5 v L ∧ SrcD (n + 2 + L.length) g wr ∧ Only [g] w wr) (fun _ i _ => (intOf i).toNat)
  case atStart => exact ⟨q, [], rfl, by rw [List.length_nil]; omega, hown0, hs1, hO1⟩
  case round =>
    obtain ⟨j, L, rfl, hj, ho, hsr, hor⟩ := hrel
    have hsz := hor.size
    cases j with
    | zero =>
      have hcv := ho.text
      have hL : (⟨L.toArray⟩ : ByteArray).size ≤ 100 := by show L.toArray.size ≤ 100; simp; omega
      go_wp2
      go_ret
      exact ⟨_, rfl, hL, hsr.mono (by omega), hor⟩
    | succ j =>
      go_wp2_with fail
      refine (next_any _ g _ hsr (by omega)).mono ?_
      rintro e w2 ⟨r, rfl, hr, hs2, ho2⟩
      have hor2 := hor.trans ho2
      have hoW : w2.ownsRow w.heap.size 5 1 u5 L.length (L.flatMap fByte.enc) := Own.only ho ho2 (fun b hb => by simp at hb; subst hb; exact hg)
      have hsz2 := hor2.size
      obtain ⟨c, rfl⟩ : ∃ c : UInt8, r = (c.toNat : Int) := ⟨UInt8.ofNat r.toNat, by rw [← byte_mod r hr]; omega⟩
      clear ho
      go_wp2_with (at_builtin; refine wpList_append_one rfl _ _ 22 rfl w.heap.size 5 i0 (.int .u8 0) 1 1 Tryz.underlying22 hi hz0 hz1 hz2 rfl (by decide) u5 L.length _ rfl hoW [.int .u8 (c.toNat : Int)] rfl (by intro u hu; rw [List.mem_singleton] at hu; subst hu; rfl) rfl (by omega) (by decide) hsz2 ?_)
      intro v' u hown hbu _ _
      have hoD : Own fByte u w.heap.size 5 v' (L ++ [c]) := Own.push c rfl hown
      have hs3 : SrcD (n + 2 + (L ++ [c]).length) g u := (hs2.belowB hbu hg).mono (by simp; omega)
      have hor3 : Only [g] w u := hor2.then hbu
      clear hown
      go_wp2
      go_roundw
      case rel => exact ⟨j, L ++ [c], by go_num, by rw [List.length_append, List.length_singleton]; omega, hoD, hs3, hor3⟩
      case measure => simp [intOf]
theorem hit_cellD {w : World} {p : Addr} {x : Value} (h : (w.cell? p).isSome = true) : (w.setCell p x).cell? p = some x := by
  obtain ⟨v, hv⟩ := Option.isSome_iff_exists.1 h
  exact World.cell?_setCell_same w p x hv
def gAg (x : DGate) : Value := .agg #[.string x.id, .int .i64 x.shut, .int .i64 x.open_, .int .i64 x.hold, .bool x.shuts, .int .i64 x.calm]
structure Bx6 (w : World) (g : Nat) : Prop where
  d0 : w.cell? ⟨g, 0, none⟩ = some (.string ⟨#[]⟩)
  d1 : w.cell? ⟨g, 1, none⟩ = some (.int .i64 0)
  d2 : w.cell? ⟨g, 2, none⟩ = some (.int .i64 0)
  d3 : w.cell? ⟨g, 3, none⟩ = some (.int .i64 0)
  d4 : w.cell? ⟨g, 4, none⟩ = some (.bool false)
  d5 : w.cell? ⟨g, 5, none⟩ = some (.int .i64 0)
  z0 : w.frozen? ⟨g, 0, none⟩ = false
  z1 : w.frozen? ⟨g, 1, none⟩ = false
  z2 : w.frozen? ⟨g, 2, none⟩ = false
  z3 : w.frozen? ⟨g, 3, none⟩ = false
  z4 : w.frozen? ⟨g, 4, none⟩ = false
  z5 : w.frozen? ⟨g, 5, none⟩ = false
theorem Bx6.new (w : World) (T : TypeId) : Bx6 (w.alloc (.cells #[.string ⟨#[]⟩, .int .i64 0, .int .i64 0, .int .i64 0, .bool false, .int .i64 0] T)) w.heap.size := by
  constructor <;> simp
theorem Bx6.keep {w w' : World} {g : Nat} (h : Bx6 w g) (hk : w'.heap[g]? = w.heap[g]?) : Bx6 w' g := by
  have kc : ∀ j, w'.cell? ⟨g, j, none⟩ = w.cell? ⟨g, j, none⟩ := fun j => World.cell?_of_block (w := w) (a := ⟨g, j, none⟩) hk
  have kf : ∀ j, w'.frozen? ⟨g, j, none⟩ = w.frozen? ⟨g, j, none⟩ := fun j => World.frozen?_of_block (w := w) (a := ⟨g, j, none⟩) hk
  exact ⟨(kc _).trans h.d0, (kc _).trans h.d1, (kc _).trans h.d2, (kc _).trans h.d3, (kc _).trans h.d4, (kc _).trans h.d5, (kf _).trans h.z0, (kf _).trans h.z1, (kf _).trans h.z2, (kf _).trans h.z3, (kf _).trans h.z4, (kf _).trans h.z5⟩
theorem Bx6.belowB {w w' : World} {g B : Nat} (h : Bx6 w g) (hb : Below B w w') (hg : g < B) : Bx6 w' g := h.keep (hb.block g hg)
structure DG (n g r b : Nat) (x : DGate) (w0 w : World) : Prop where
  src : SrcD n g w
  only : Only [g] w0 w
  box : Bx6 w r
  pg : PGate w b 0 x
  zf : ∀ j, w.frozen? ⟨b, j, none⟩ = false
  l0 : g < w0.heap.size
  l1 : w0.heap.size ≤ r
  l2 : r < b
theorem DG.next {n m g r b : Nat} {x : DGate} {w0 w w' : World} (h : DG n g r b x w0 w) (ho : Only [g] w w') (hs : SrcD m g w') : DG m g r b x w0 w' := by
  have l0 := h.l0; have l1 := h.l1; have l2 := h.l2; have lb := h.pg.lt
  have hbb : w'.heap[b]? = w.heap[b]? := ho.block b lb (by simp; omega)
  have kc : ∀ j, w'.cell? ⟨b, j, none⟩ = w.cell? ⟨b, j, none⟩ := fun j => World.cell?_of_block (w := w) (a := ⟨b, j, none⟩) hbb
  have kf : ∀ j, w'.frozen? ⟨b, j, none⟩ = w.frozen? ⟨b, j, none⟩ := fun j => World.frozen?_of_block (w := w) (a := ⟨b, j, none⟩) hbb
  exact ⟨hs, h.only.trans ho, h.box.keep (ho.block r (by omega) (by simp; omega)), ⟨(kc _).trans h.pg.c0, (kc _).trans h.pg.c1, (kc _).trans h.pg.c2, (kc _).trans h.pg.c3, (kc _).trans h.pg.c4, (kc _).trans h.pg.c5⟩, fun j => (kf j).trans (h.zf j), l0, l1, l2⟩
theorem DG.fin {n g r b : Nat} {x : DGate} {w0 w w' : World} (h : DG n g r b x w0 w) (hb : Below r w w') : SrcD n g w' ∧ Only [g] w0 w' := by
  have l0 := h.l0; have l1 := h.l1; have l2 := h.l2
  exact ⟨h.src.belowB hb (by omega), h.only.then (hb.mono l1)⟩
theorem PGate.dset2 {V : World} {g : Nat} {x : DGate} (h : PGate V g 0 x) (c : Int) : PGate (V.setCell ⟨g, 2, none⟩ (.int .i64 c)) g 0 ⟨x.id, x.shut, c, x.hold, x.shuts, x.calm⟩ := by
  have nk : ∀ j, j ≠ 2 → (⟨g, 2, none⟩ : Addr) ≠ ⟨g, j, none⟩ := fun j hj e => by injection e with _ e _; exact hj e.symm
  have k : ∀ j, j ≠ 2 → (V.setCell ⟨g, 2, none⟩ (.int .i64 c)).cell? ⟨g, j, none⟩ = V.cell? ⟨g, j, none⟩ := fun j hj => World.cell?_setCell_other _ _ _ _ (nk j hj)
  exact ⟨(k _ (by decide)).trans h.c0, (k _ (by decide)).trans h.c1, hit_cellD (by have := h.c2; rw [show (0 + 2 : Nat) = 2 from rfl] at this; rw [this]; rfl), (k _ (by decide)).trans h.c3, (k _ (by decide)).trans h.c4, (k _ (by decide)).trans h.c5⟩
theorem DG.set2 {n g r b : Nat} {x : DGate} {w0 V : World} (h : DG n g r b x w0 V) (c : Int) : DG n g r b ⟨x.id, x.shut, c, x.hold, x.shuts, x.calm⟩ w0 (V.setCell ⟨b, 2, none⟩ (.int .i64 c)) := by
  have hb : Below b V (V.setCell ⟨b, 2, none⟩ (.int .i64 c)) := (Below.refl _ _).setCell (p := ⟨b, 2, none⟩) (Nat.le_refl _) _
  have l0 := h.l0; have l1 := h.l1; have l2 := h.l2
  exact ⟨h.src.belowB hb (by omega), h.only.then (hb.mono (by omega)), h.box.belowB hb l2, h.pg.dset2 c, fun j => (frozen?_setCell _ _ _ _).trans (h.zf j), h.l0, h.l1, h.l2⟩
theorem PGate.dset3 {V : World} {g : Nat} {x : DGate} (h : PGate V g 0 x) (c : Int) : PGate (V.setCell ⟨g, 3, none⟩ (.int .i64 c)) g 0 ⟨x.id, x.shut, x.open_, c, x.shuts, x.calm⟩ := by
  have nk : ∀ j, j ≠ 3 → (⟨g, 3, none⟩ : Addr) ≠ ⟨g, j, none⟩ := fun j hj e => by injection e with _ e _; exact hj e.symm
  have k : ∀ j, j ≠ 3 → (V.setCell ⟨g, 3, none⟩ (.int .i64 c)).cell? ⟨g, j, none⟩ = V.cell? ⟨g, j, none⟩ := fun j hj => World.cell?_setCell_other _ _ _ _ (nk j hj)
  exact ⟨(k _ (by decide)).trans h.c0, (k _ (by decide)).trans h.c1, (k _ (by decide)).trans h.c2, hit_cellD (by have := h.c3; rw [show (0 + 3 : Nat) = 3 from rfl] at this; rw [this]; rfl), (k _ (by decide)).trans h.c4, (k _ (by decide)).trans h.c5⟩
theorem DG.set3 {n g r b : Nat} {x : DGate} {w0 V : World} (h : DG n g r b x w0 V) (c : Int) : DG n g r b ⟨x.id, x.shut, x.open_, c, x.shuts, x.calm⟩ w0 (V.setCell ⟨b, 3, none⟩ (.int .i64 c)) := by
  have hb : Below b V (V.setCell ⟨b, 3, none⟩ (.int .i64 c)) := (Below.refl _ _).setCell (p := ⟨b, 3, none⟩) (Nat.le_refl _) _
  have l0 := h.l0; have l1 := h.l1; have l2 := h.l2
  exact ⟨h.src.belowB hb (by omega), h.only.then (hb.mono (by omega)), h.box.belowB hb l2, h.pg.dset3 c, fun j => (frozen?_setCell _ _ _ _).trans (h.zf j), h.l0, h.l1, h.l2⟩
theorem PGate.dset4 {V : World} {g : Nat} {x : DGate} (h : PGate V g 0 x) (c : Bool) : PGate (V.setCell ⟨g, 4, none⟩ (.bool c)) g 0 ⟨x.id, x.shut, x.open_, x.hold, c, x.calm⟩ := by
  have nk : ∀ j, j ≠ 4 → (⟨g, 4, none⟩ : Addr) ≠ ⟨g, j, none⟩ := fun j hj e => by injection e with _ e _; exact hj e.symm
  have k : ∀ j, j ≠ 4 → (V.setCell ⟨g, 4, none⟩ (.bool c)).cell? ⟨g, j, none⟩ = V.cell? ⟨g, j, none⟩ := fun j hj => World.cell?_setCell_other _ _ _ _ (nk j hj)
  exact ⟨(k _ (by decide)).trans h.c0, (k _ (by decide)).trans h.c1, (k _ (by decide)).trans h.c2, (k _ (by decide)).trans h.c3, hit_cellD (by have := h.c4; rw [show (0 + 4 : Nat) = 4 from rfl] at this; rw [this]; rfl), (k _ (by decide)).trans h.c5⟩
theorem DG.set4 {n g r b : Nat} {x : DGate} {w0 V : World} (h : DG n g r b x w0 V) (c : Bool) : DG n g r b ⟨x.id, x.shut, x.open_, x.hold, c, x.calm⟩ w0 (V.setCell ⟨b, 4, none⟩ (.bool c)) := by
  have hb : Below b V (V.setCell ⟨b, 4, none⟩ (.bool c)) := (Below.refl _ _).setCell (p := ⟨b, 4, none⟩) (Nat.le_refl _) _
  have l0 := h.l0; have l1 := h.l1; have l2 := h.l2
  exact ⟨h.src.belowB hb (by omega), h.only.then (hb.mono (by omega)), h.box.belowB hb l2, h.pg.dset4 c, fun j => (frozen?_setCell _ _ _ _).trans (h.zf j), h.l0, h.l1, h.l2⟩
theorem PGate.dset5 {V : World} {g : Nat} {x : DGate} (h : PGate V g 0 x) (c : Int) : PGate (V.setCell ⟨g, 5, none⟩ (.int .i64 c)) g 0 ⟨x.id, x.shut, x.open_, x.hold, x.shuts, c⟩ := by
  have nk : ∀ j, j ≠ 5 → (⟨g, 5, none⟩ : Addr) ≠ ⟨g, j, none⟩ := fun j hj e => by injection e with _ e _; exact hj e.symm
  have k : ∀ j, j ≠ 5 → (V.setCell ⟨g, 5, none⟩ (.int .i64 c)).cell? ⟨g, j, none⟩ = V.cell? ⟨g, j, none⟩ := fun j hj => World.cell?_setCell_other _ _ _ _ (nk j hj)
  exact ⟨(k _ (by decide)).trans h.c0, (k _ (by decide)).trans h.c1, (k _ (by decide)).trans h.c2, (k _ (by decide)).trans h.c3, (k _ (by decide)).trans h.c4, hit_cellD (by have := h.c5; rw [show (0 + 5 : Nat) = 5 from rfl] at this; rw [this]; rfl)⟩
theorem DG.set5 {n g r b : Nat} {x : DGate} {w0 V : World} (h : DG n g r b x w0 V) (c : Int) : DG n g r b ⟨x.id, x.shut, x.open_, x.hold, x.shuts, c⟩ w0 (V.setCell ⟨b, 5, none⟩ (.int .i64 c)) := by
  have hb : Below b V (V.setCell ⟨b, 5, none⟩ (.int .i64 c)) := (Below.refl _ _).setCell (p := ⟨b, 5, none⟩) (Nat.le_refl _) _
  have l0 := h.l0; have l1 := h.l1; have l2 := h.l2
  exact ⟨h.src.belowB hb (by omega), h.only.then (hb.mono (by omega)), h.box.belowB hb l2, h.pg.dset5 c, fun j => (frozen?_setCell _ _ _ _).trans (h.zf j), h.l0, h.l1, h.l2⟩
set_option maxRecDepth 100000 in
set_option maxHeartbeats 4000000 in
theorem l21DrawOne_any (n g : Nat) (name : ByteArray) (w : World) (hs : SrcD n g w) (hn : n ≤ 999999990000) :
    Calls Tryz.prog 64 #[.pointer (some ⟨g, 0, none⟩), .string name] w fun e w' => ∃ x : DGate, e = .returned (gAg x) ∧ (nameB name = true → gateB x = true) ∧ SrcD (n + 20) g w' ∧ Only [g] w w' := by
  have hg := hs.lt
  go_enter Tryz.func64, Tryz.ntmps64
  go_wp2_with fail
  refine (pick_any n g 50 _ (hs.below ((Below.refl _ _).alloc (Nat.le_refl _) _)) (by omega) (by omega)).mono ?_
  rintro e w1 ⟨q1, rfl, ⟨hq10, hq11, _⟩, hs1, ho1⟩
  have hq12 := hq11 (by omega)
  have e10 : wrap64 (10 * q1) = 10 * q1 := w64_inD _ (by omega)
  have e11 : wrap64 (300 + 10 * q1) = 300 + 10 * q1 := w64_inD _ (by omega)
  have hbx : Bx6 w1 w.heap.size := (Bx6.new w _).keep (ho1.block w.heap.size (by simp) (by simp; omega))
  have hr1 : w.heap.size < w1.heap.size := by have := ho1.size; simp at this; omega
  have hO1 : Only [g] w w1 := Only.later ((Below.refl _ _).alloc (Nat.le_refl _) _) ho1
  obtain ⟨s, hsv⟩ : ∃ s, s = 300 + 10 * q1 := ⟨_, rfl⟩
  have hBA : Below w1.heap.size w1 (w1.alloc (.cells #[.string name, .int .i64 s, .int .i64 0, .int .i64 0, .bool false, .int .i64 0] 60)) := (Below.refl _ _).alloc (Nat.le_refl _) _
  have hD : DG (n + 2) g w.heap.size w1.heap.size ⟨name, s, 0, 0, false, 0⟩ w (w1.alloc (.cells #[.string name, .int .i64 s, .int .i64 0, .int .i64 0, .bool false, .int .i64 0] 60)) :=
    ⟨hs1.below hBA, hO1.then (hBA.mono hO1.size), hbx.belowB hBA hr1, PGate.box w1 ⟨name, s, 0, 0, false, 0⟩ _, fun j => World.frozen?_alloc_at _ _ _ _ rfl, hg, Nat.le_refl _, hr1⟩
  rw [hsv] at hD
  clear hbx hBA hs1 ho1 hO1 hq11
  go_wp2
  refine at_world (fun W => DG (n + 2) g w.heap.size w1.heap.size ⟨name, 300 + 10 * q1, 0, 0, false, 0⟩ w W) hD ?_
  clear hD
  generalize w1.heap.size = b at *
  intro W hD
  rw [← hsv] at hD ⊢
  have hs0 : 300 ≤ s ∧ s ≤ 790 := by omega
  clear hsv e10 e11
  have hbW : g ≤ W.heap.size := Nat.le_of_lt hD.src.lt
  have hDd : DG (n + 2) g w.heap.size b ⟨name, s, 0, 0, false, 0⟩ w W.drew := hD.next (Only.of_below (Below.drew (Below.refl _ _))) (hD.src.below (Below.drew (Below.refl _ _)))
  have gk1 : ∀ p : KeptW (g) W (fun N => N.cell? ⟨b, 1, none⟩ = some (.int .i64 s)), p.v.cell? ⟨b, 1, none⟩ = some (.int .i64 s) := fun p => p.x
  haveI hKne : Nonempty (KeptW (g) W (fun N => N.cell? ⟨b, 1, none⟩ = some (.int .i64 s))) := ⟨⟨_, Below.drew (Below.refl _ _), hDd.pg.c1⟩⟩
  refine wp_region_mix (C := fun w' => ∃ p : KeptW (g) W (fun N => N.cell? ⟨b, 1, none⟩ = some (.int .i64 s)), w' = p.v) [true, true, true, false, true, true, true, false] (by kernel_rfl) (by kernel_rfl) (by kernel_rfl) (fun _ _ d _ _ h => by cases d <;> exact h) ⟨⟨_, Below.drew (Below.refl _ _), hDd.pg.c1⟩, rfl⟩ ?_
  have hS0 : Below (g) W W.drew := Below.drew (Below.refl _ _)
  refine wpMix_pure (by kernel_rfl) (fun K hK => ?_)
  go_big_quiet_op
  refine hK _ ?_; clear hK K
  refine wpMix_pure (by kernel_rfl) (fun K hK => ?_)
  go_big_quiet_op
  refine hK _ ?_; clear hK K
  refine wpMix_pure (by kernel_rfl) (fun K hK => ?_)
  go_big_quiet_op
  refine hK _ ?_; clear hK K
  refine wpMix_act (by kernel_rfl) (fun K hK => ?_)
  go_big_op
  refine (pick_any (n + 2) g 20 _ hDd.src (by omega) (by omega)).mono ?_
  rintro e u ⟨q2, rfl, ⟨hq20, hq21, _⟩, hs2, ho2⟩
  have hq22 := hq21 (by omega)
  have hD2 := hDd.next ho2 hs2
  have hbu : Below g W.drew u := ho2.below (by have := hs2.lt; have := hDd.src.lt; omega) (by simp)
  have hx3 : u.cell? ⟨b, 1, none⟩ = some (.int .i64 s) := hD2.pg.c1
  have e20 : wrap64 (10 * q2) = 10 * q2 := w64_inD _ (by omega)
  have e21 : wrap64 (s - 10 * q2) = s - 10 * q2 := w64_inD _ (by omega)
  have hbuS : Below (g) W u := hS0.trans hbu
  try simp only [Act.put, List.setIfInBounds_toArray, List.set_cons_zero, List.set_cons_succ]
  refine hK _ _ ⟨⟨_, hbuS, hx3⟩, rfl⟩ ?_
  clear hK K
  refine wpMix_pure (by kernel_rfl) (fun K hK => ?_)
  go_big_quiet_op
  refine hK _ ?_; clear hK K
  refine wpMix_pure (by kernel_rfl) (fun K hK => ?_)
  go_big_quiet_op
  refine hK _ ?_; clear hK K
  refine wpMix_pure (by kernel_rfl) (fun K hK => ?_)
  go_big_quiet_op
  refine hK _ ?_; clear hK K
  refine wpMix_act (by kernel_rfl) (fun K hK => ?_)
  obtain ⟨V3, rfl⟩ : ∃ N, N = u := ⟨u, rfl⟩
  have c2 : V3.cell? ⟨b, 2, none⟩ = some (.int .i64 0) := hD2.pg.c2
  have z2 := hD2.zf 2
  go_big_op
  have hD3 := hD2.set2 (s - 10 * q2)
  have hbu : Below g V3 (V3.setCell ⟨b, 2, none⟩ (.int .i64 (s - 10 * q2))) := (Below.refl _ _).setCell (by have := hD2.l0; have := hD2.l1; have := hD2.l2; show g ≤ b; omega) _
  generalize V3.setCell ⟨b, 2, none⟩ (.int .i64 (s - 10 * q2)) = u at *
  have hx7 : u.cell? ⟨b, 1, none⟩ = some (.int .i64 s) := hD3.pg.c1
  have hbuS : Below (g) W u := hbuS.trans hbu
  try simp only [Act.put, List.setIfInBounds_toArray, List.set_cons_zero, List.set_cons_succ]
  refine hK _ _ ⟨⟨_, hbuS, hx7⟩, rfl⟩ ?_
  clear hK K
  refine wpMix_nil ?_
  clear hq21 hDd hD2 c2 z2 hx3 hx7 hbuS e20 e21
  go_wp2_with fail
  refine (pick_any (n + 2 + 2) g 5 _ hD3.src (by omega) (by omega)).mono ?_
  rintro e V4 ⟨q3, rfl, ⟨hq30, hq31, _⟩, hs4, ho4⟩
  have hq32 := hq31 (by omega)
  have hD4 := hD3.next ho4 hs4
  have c3 : V4.cell? ⟨b, 3, none⟩ = some (.int .i64 0) := hD4.pg.c3
  have z3 := hD4.zf 3
  have e30 : wrap64 (1 + q3) = 1 + q3 := w64_inD _ (by omega)
  have hD5 := hD4.set3 (1 + q3)
  clear hq31 hD3 hD4 ho4 hs4
  go_wp2_with fail
  generalize V4.setCell ⟨b, 3, none⟩ (.int .i64 (1 + q3)) = V5 at *
  refine (one_any (n + 2 + 2 + 2) g 2 _ hD5.src (by omega) (by omega)).mono ?_
  rintro e V6 ⟨o1, rfl, hs6, ho6⟩
  have hD6 := hD5.next ho6 hs6
  clear hD5 ho6 hs6 c3 z3
  cases o1
  · skip
    have hDz := hD6
    obtain ⟨d0, d1, d2, d3, d4, d5, z0, z1, z2, z3, z4, z5⟩ := hDz.box
    obtain ⟨x0, x1, x2, x3, x4, x5⟩ := id hDz.pg
    have HG : Hid (nameB name = true → gateB ⟨name, s, s - 10 * q2, 1 + q3, false, 0⟩ = true) := fun h => by unfold gateB inB; simp [h]; omega
    go_wp2
    exact bodyPost_ret (v := gAg ⟨name, s, s - 10 * q2, 1 + q3, false, 0⟩) (by simp [gAg, results, hit_cellD, d0, d1, d2, d3, d4, d5, Tryz.results64, go_sem]) rfl ⟨_, rfl, HG.out, ((hDz.fin (by (repeat (refine Below.setCell ?_ (by exact Nat.le_refl _) _)); exact Below.refl _ _)).1).mono (by omega), (hDz.fin (by (repeat (refine Below.setCell ?_ (by exact Nat.le_refl _) _)); exact Below.refl _ _)).2⟩
  · have c4 : V6.cell? ⟨b, 4, none⟩ = some (.bool false) := hD6.pg.c4
    have z4 := hD6.zf 4
    have c3 : V6.cell? ⟨b, 3, none⟩ = some (.int .i64 (1 + q3)) := hD6.pg.c3
    have hD7 := hD6.set4 true
    have c37 : (V6.setCell ⟨b, 4, none⟩ (.bool true)).cell? ⟨b, 3, none⟩ = some (.int .i64 (1 + q3)) := hD7.pg.c3
    clear hD6
    go_wp2_with fail
    generalize V6.setCell ⟨b, 4, none⟩ (.bool true) = V7 at *
    refine (pick_any (n + 2 + 2 + 2 + 2) g (1 + q3) _ hD7.src (by omega) (by omega)).mono ?_
    rintro e V8 ⟨q4, rfl, ⟨hq40, hq41, _⟩, hs8, ho8⟩
    have hq42 := hq41 (by omega)
    have hD8 := hD7.next ho8 hs8
    have c5 : V8.cell? ⟨b, 5, none⟩ = some (.int .i64 0) := hD8.pg.c5
    have z5_ := hD8.zf 5
    have hD9 := hD8.set5 q4
    clear hq41 hD7 hs8 ho8 c37 c3 c4 z4
    have hDz := hD9
    obtain ⟨d0, d1, d2, d3, d4, d5, z0, z1, z2, z3, z4, z5⟩ := hDz.box
    obtain ⟨x0, x1, x2, x3, x4, x5⟩ := id hDz.pg
    have HG : Hid (nameB name = true → gateB ⟨name, s, s - 10 * q2, 1 + q3, true, q4⟩ = true) := fun h => by unfold gateB inB; simp [h]; omega
    go_wp2
    exact bodyPost_ret (v := gAg ⟨name, s, s - 10 * q2, 1 + q3, true, q4⟩) (by simp [gAg, results, hit_cellD, d0, d1, d2, d3, d4, d5, Tryz.results64, go_sem]) rfl ⟨_, rfl, HG.out, ((hDz.fin (by (repeat (refine Below.setCell ?_ (by exact Nat.le_refl _) _)); exact Below.refl _ _)).1).mono (by omega), (hDz.fin (by (repeat (refine Below.setCell ?_ (by exact Nat.le_refl _) _)); exact Below.refl _ _)).2⟩
def bAg (x : DBlock) : Value := .agg #[.string x.kind, .string x.name, .string x.text]
def kindL : List ByteArray := [⟨#[103, 97, 116, 101]⟩, ⟨#[110, 111, 116, 101]⟩, ⟨#[102, 97, 99, 101]⟩]
def nameL : List ByteArray := [⟨#[97]⟩, ⟨#[98]⟩, ⟨#[99]⟩, ⟨#[100]⟩]
def textL : List ByteArray := [⟨#[]⟩, ⟨#[120]⟩, ⟨#[97, 32, 98, 32, 99]⟩, ⟨#[49, 50, 32, 51, 52]⟩, ⟨#[111, 97, 107, 47, 52, 48]⟩]
def gateKd : ByteArray := ⟨#[103, 97, 116, 101]⟩
structure Bx3 (w : World) (g : Nat) : Prop where
  d0 : w.cell? ⟨g, 0, none⟩ = some (.string ⟨#[]⟩)
  d1 : w.cell? ⟨g, 1, none⟩ = some (.string ⟨#[]⟩)
  d2 : w.cell? ⟨g, 2, none⟩ = some (.string ⟨#[]⟩)
  z0 : w.frozen? ⟨g, 0, none⟩ = false
  z1 : w.frozen? ⟨g, 1, none⟩ = false
  z2 : w.frozen? ⟨g, 2, none⟩ = false
theorem Bx3.new (w : World) (T : TypeId) : Bx3 (w.alloc (.cells #[.string ⟨#[]⟩, .string ⟨#[]⟩, .string ⟨#[]⟩] T)) w.heap.size := by
  constructor <;> simp
theorem Bx3.keep {w w' : World} {g : Nat} (h : Bx3 w g) (hk : w'.heap[g]? = w.heap[g]?) : Bx3 w' g := by
  have kc : ∀ j, w'.cell? ⟨g, j, none⟩ = w.cell? ⟨g, j, none⟩ := fun j => World.cell?_of_block (w := w) (a := ⟨g, j, none⟩) hk
  have kf : ∀ j, w'.frozen? ⟨g, j, none⟩ = w.frozen? ⟨g, j, none⟩ := fun j => World.frozen?_of_block (w := w) (a := ⟨g, j, none⟩) hk
  exact ⟨(kc _).trans h.d0, (kc _).trans h.d1, (kc _).trans h.d2, (kf _).trans h.z0, (kf _).trans h.z1, (kf _).trans h.z2⟩
theorem Bx3.belowB {w w' : World} {g B : Nat} (h : Bx3 w g) (hb : Below B w w') (hg : g < B) : Bx3 w' g := h.keep (hb.block g hg)
structure DB (n g r b : Nat) (x : DBlock) (w0 w : World) : Prop where
  src : SrcD n g w
  only : Only [g] w0 w
  box : Bx3 w r
  pg : PBlock w b 0 x
  zf : ∀ j, w.frozen? ⟨b, j, none⟩ = false
  l0 : g < w0.heap.size
  l1 : w0.heap.size ≤ r
  l2 : r < b
theorem DB.next {n m g r b : Nat} {x : DBlock} {w0 w w' : World} (h : DB n g r b x w0 w) (ho : Only [g] w w') (hs : SrcD m g w') : DB m g r b x w0 w' := by
  have l0 := h.l0; have l1 := h.l1; have l2 := h.l2; have lb := h.pg.lt
  have hbb : w'.heap[b]? = w.heap[b]? := ho.block b lb (by simp; omega)
  have kc : ∀ j, w'.cell? ⟨b, j, none⟩ = w.cell? ⟨b, j, none⟩ := fun j => World.cell?_of_block (w := w) (a := ⟨b, j, none⟩) hbb
  have kf : ∀ j, w'.frozen? ⟨b, j, none⟩ = w.frozen? ⟨b, j, none⟩ := fun j => World.frozen?_of_block (w := w) (a := ⟨b, j, none⟩) hbb
  exact ⟨hs, h.only.trans ho, h.box.keep (ho.block r (by omega) (by simp; omega)), ⟨(kc _).trans h.pg.c0, (kc _).trans h.pg.c1, (kc _).trans h.pg.c2⟩, fun j => (kf j).trans (h.zf j), l0, l1, l2⟩
theorem DB.grow {n g r b : Nat} {x : DBlock} {w0 w w' : World} (h : DB n g r b x w0 w) (hb : Below w.heap.size w w') : DB n g r b x w0 w' := h.next (Only.of_below hb) (h.src.below hb)
theorem DB.mono {n m g r b : Nat} {x : DBlock} {w0 w : World} (h : DB n g r b x w0 w) (hm : n ≤ m) : DB m g r b x w0 w := ⟨h.src.mono hm, h.only, h.box, h.pg, h.zf, h.l0, h.l1, h.l2⟩
theorem DB.fin {n g r b : Nat} {x : DBlock} {w0 w w' : World} (h : DB n g r b x w0 w) (hb : Below r w w') : SrcD n g w' ∧ Only [g] w0 w' := by
  have l0 := h.l0; have l1 := h.l1; have l2 := h.l2
  exact ⟨h.src.belowB hb (by omega), h.only.then (hb.mono l1)⟩
theorem slLit (V : World) (T : TypeId) (xs : List ByteArray) (cs : Array Value) (hcs : cs = (xs.flatMap fStr.enc).toArray) (hok : ∀ x ∈ xs, x.size ≤ 1000) (hne : 0 < xs.length) (hm : xs.length ≤ 1000) (k m : Nat) (hk : k = V.heap.size) (hn : m = xs.length) :
    Sl fStr.cod (V.alloc (.cells cs T)) (.slice (some ⟨k, 0, none⟩) m m) xs [k] := by
  subst hk hn
  exact Sl.lit2 (E := fStr) V xs T cs hcs (fun x hx => by have := hok x hx; show _ ≤ _; omega) hne (by omega)
theorem zerosText (W : World) (n : Nat) (hn : 0 < n) : (convert 22 9 (.slice (some ⟨W.heap.size, 0, none⟩) n n)).run Tryz.prog (W.alloc (.cells (madeCells #[.int .u8 0] n) 5)) = .ok (.string (strOfNums (List.replicate n 0))) (W.alloc (.cells (madeCells #[.int .u8 0] n) 5)) := by
  refine run_convert_bytes_arg _ _ _ Tryz.underlying22 Tryz.underlying5 W.heap.size 0 n n (List.replicate n 0) (by simp) (fun i hi => ?_) _ Tryz.underlying9
  rw [World.cell?_alloc_at _ _ _ _ rfl]
  unfold madeCells
  simp [hi, Nat.mod_one, List.getD_eq_getElem?_getD, List.getElem?_replicate]
theorem PBlock.dset1 {V : World} {g : Nat} {x : DBlock} (h : PBlock V g 0 x) (c : ByteArray) : PBlock (V.setCell ⟨g, 1, none⟩ (.string c)) g 0 ⟨x.kind, c, x.text⟩ := by
  have nk : ∀ j, j ≠ 1 → (⟨g, 1, none⟩ : Addr) ≠ ⟨g, j, none⟩ := fun j hj e => by injection e with _ e _; exact hj e.symm
  have k : ∀ j, j ≠ 1 → (V.setCell ⟨g, 1, none⟩ (.string c)).cell? ⟨g, j, none⟩ = V.cell? ⟨g, j, none⟩ := fun j hj => World.cell?_setCell_other _ _ _ _ (nk j hj)
  exact ⟨(k _ (by decide)).trans h.c0, hit_cellD (by have := h.c1; rw [show (0 + 1 : Nat) = 1 from rfl] at this; rw [this]; rfl), (k _ (by decide)).trans h.c2⟩
theorem DB.set1 {n g r b : Nat} {x : DBlock} {w0 V : World} (h : DB n g r b x w0 V) (c : ByteArray) : DB n g r b ⟨x.kind, c, x.text⟩ w0 (V.setCell ⟨b, 1, none⟩ (.string c)) := by
  have hb : Below b V (V.setCell ⟨b, 1, none⟩ (.string c)) := (Below.refl _ _).setCell (p := ⟨b, 1, none⟩) (Nat.le_refl _) _
  have l0 := h.l0; have l1 := h.l1; have l2 := h.l2
  exact ⟨h.src.belowB hb (by omega), h.only.then (hb.mono (by omega)), h.box.belowB hb l2, h.pg.dset1 c, fun j => (frozen?_setCell _ _ _ _).trans (h.zf j), h.l0, h.l1, h.l2⟩
theorem PBlock.dset2 {V : World} {g : Nat} {x : DBlock} (h : PBlock V g 0 x) (c : ByteArray) : PBlock (V.setCell ⟨g, 2, none⟩ (.string c)) g 0 ⟨x.kind, x.name, c⟩ := by
  have nk : ∀ j, j ≠ 2 → (⟨g, 2, none⟩ : Addr) ≠ ⟨g, j, none⟩ := fun j hj e => by injection e with _ e _; exact hj e.symm
  have k : ∀ j, j ≠ 2 → (V.setCell ⟨g, 2, none⟩ (.string c)).cell? ⟨g, j, none⟩ = V.cell? ⟨g, j, none⟩ := fun j hj => World.cell?_setCell_other _ _ _ _ (nk j hj)
  exact ⟨(k _ (by decide)).trans h.c0, (k _ (by decide)).trans h.c1, hit_cellD (by have := h.c2; rw [show (0 + 2 : Nat) = 2 from rfl] at this; rw [this]; rfl)⟩
theorem DB.set2 {n g r b : Nat} {x : DBlock} {w0 V : World} (h : DB n g r b x w0 V) (c : ByteArray) : DB n g r b ⟨x.kind, x.name, c⟩ w0 (V.setCell ⟨b, 2, none⟩ (.string c)) := by
  have hb : Below b V (V.setCell ⟨b, 2, none⟩ (.string c)) := (Below.refl _ _).setCell (p := ⟨b, 2, none⟩) (Nat.le_refl _) _
  have l0 := h.l0; have l1 := h.l1; have l2 := h.l2
  exact ⟨h.src.belowB hb (by omega), h.only.then (hb.mono (by omega)), h.box.belowB hb l2, h.pg.dset2 c, fun j => (frozen?_setCell _ _ _ _).trans (h.zf j), h.l0, h.l1, h.l2⟩
theorem nameL_ok {t : ByteArray} (h : t ∈ nameL) : nameB t = true := by
  unfold nameL at h
  simp at h
  rcases h with rfl | rfl | rfl | rfl <;> decide
set_option maxRecDepth 100000 in
set_option maxHeartbeats 8000000 in
theorem l29DrawOne_any (n g : Nat) (w : World) (hs : SrcD n g w) (hn : n ≤ 999999980000) :
    Calls Tryz.prog 41 #[.pointer (some ⟨g, 0, none⟩)] w fun e w' => ∃ x : DBlock, e = .returned (bAg x) ∧ x.kind ∈ kindL ∧ x.text.size ≤ 1000 ∧ x.name ∈ nameL ∧ SrcD (n + 250) g w' ∧ Only [g] w w' := by
  have hg := hs.lt
  obtain ⟨i0, hi, hz0, hz1, hz2⟩ := info_parts infoU8d
  have hmk : ∀ (W : World) (k : Nat), k < 3 → (Instr.makeSlice 22 (.int .i64 (399 + (k : Int))) (.int .i64 (399 + (k : Int)))).run Tryz.prog W = .ok (.slice (some ⟨W.heap.size, 0, none⟩) (399 + k) (399 + k)) (W.alloc (.cells (madeCells #[.int .u8 0] (399 + k)) 5)) := fun W k hk => by
    have h := run_make_rowN (P := Tryz.prog) 22 5 i0 _ Tryz.underlying22 hi hz0 .i64 .i64 (399 + k) (399 + k) (Nat.le_refl _) (by rw [hz2]; omega) (by omega) W
    rw [hz1, Nat.mul_one] at h
    exact h
  have hB1 : Below w.heap.size w (w.alloc (.cells #[.string ⟨#[]⟩, .string ⟨#[]⟩, .string ⟨#[]⟩] 52)) := (Below.refl _ _).alloc (Nat.le_refl _) _
  have hB2 : Below w.heap.size w ((w.alloc (.cells #[.string ⟨#[]⟩, .string ⟨#[]⟩, .string ⟨#[]⟩] 52)).alloc (.cells #[.string ⟨#[103, 97, 116, 101]⟩, .string ⟨#[110, 111, 116, 101]⟩, .string ⟨#[102, 97, 99, 101]⟩] 9)) := hB1.alloc hB1.size _
  go_enter Tryz.func41, Tryz.ntmps41
  go_wp2_with fail
  refine (text_any n g _ kindL [w.heap.size + 1] _ (hs.below hB2) (by omega) (slLit (w.alloc (.cells #[.string ⟨#[]⟩, .string ⟨#[]⟩, .string ⟨#[]⟩] 52)) 9 kindL _ rfl (by decide) (by decide) (by decide) _ _ (by simp) rfl) (by simp; omega) (by decide) (by decide)).mono ?_
  rintro e w1 ⟨t1, ht1, rfl, hs1, ho1⟩
  have hbx : Bx3 w1 w.heap.size := ((Bx3.new w _).belowB ((Below.refl _ _).alloc (Nat.le_refl _) _) (by simp)).keep (ho1.block w.heap.size (by simp; omega) (by simp; omega))
  have hr1 : w.heap.size < w1.heap.size := by have := ho1.size; simp at this; omega
  have hO1 : Only [g] w w1 := Only.later hB2 ho1
  have hBA : Below w1.heap.size w1 (w1.alloc (.cells #[.string t1, .string ⟨#[]⟩, .string ⟨#[]⟩] 52)) := (Below.refl _ _).alloc (Nat.le_refl _) _
  have hD : DB (n + 2) g w.heap.size w1.heap.size ⟨t1, ⟨#[]⟩, ⟨#[]⟩⟩ w (w1.alloc (.cells #[.string t1, .string ⟨#[]⟩, .string ⟨#[]⟩] 52)) :=
    ⟨hs1.below hBA, hO1.then (hBA.mono hO1.size), hbx.belowB hBA hr1, PBlock.box w1 ⟨t1, ⟨#[]⟩, ⟨#[]⟩⟩ _, fun j => World.frozen?_alloc_at _ _ _ _ rfl, hg, Nat.le_refl _, hr1⟩
  clear hbx hBA hs1 ho1 hO1 hB1 hB2
  have hD2 := hD.grow ((Below.refl _ _).alloc (Nat.le_refl _) (.cells #[.string ⟨#[97]⟩, .string ⟨#[98]⟩, .string ⟨#[99]⟩, .string ⟨#[100]⟩] 9))
  clear hD
  go_wp2_with fail
  refine (text_any _ g _ nameL [w1.heap.size + 1] _ hD2.src (by omega) (slLit (w1.alloc (.cells #[.string t1, .string ⟨#[]⟩, .string ⟨#[]⟩] 52)) 9 nameL _ rfl (by decide) (by decide) (by decide) _ _ (by simp) rfl) (by simp; omega) (by decide) (by decide)).mono ?_
  rintro e w2 ⟨t2, ht2, rfl, hs2, ho2⟩
  have hD := hD2.next ho2 hs2
  clear hD2 ho2 hs2
  generalize w1.heap.size = b at *
  have c1 : w2.cell? ⟨b, 1, none⟩ = some (.string ⟨#[]⟩) := hD.pg.c1
  have z1_ := hD.zf 1
  have hD2 := (hD.set1 t2).grow ((Below.refl _ _).alloc (Nat.le_refl _) (.cells #[.string ⟨#[]⟩, .string ⟨#[120]⟩, .string ⟨#[97, 32, 98, 32, 99]⟩, .string ⟨#[49, 50, 32, 51, 52]⟩, .string ⟨#[111, 97, 107, 47, 52, 48]⟩] 9))
  have hgw2 : g < w2.heap.size := hD.src.lt
  clear hD
  go_wp2_with fail
  refine (text_any _ g _ textL [w2.heap.size] _ hD2.src (by omega) (slLit (w2.setCell ⟨b, 1, none⟩ (.string t2)) 9 textL _ rfl (by decide) (by decide) (by decide) _ _ (by simp) rfl) (by simp; omega) (by decide) (by decide)).mono ?_
  rintro e w3 ⟨t3, ht3, rfl, hs3, ho3⟩
  have hD3 := hD2.next ho3 hs3
  have ht30 : t3.size ≤ 6 := by
    have h : ∀ x ∈ textL, x.size ≤ 6 := by decide
    exact h _ ht3
  have HT : Hid (t3.size ≤ 1000) := by show _ ≤ _; omega
  clear hD2 ho3 hs3 c1 z1_ ht3
  have c2 : w3.cell? ⟨b, 2, none⟩ = some (.string ⟨#[]⟩) := hD3.pg.c2
  have z2_ := hD3.zf 2
  have hD := hD3.set2 t3
  clear hD3
  go_wp2_with fail
  generalize w3.setCell ⟨b, 2, none⟩ (.string t3) = V3 at *
  refine (one_any _ g 4 _ hD.src (by omega) (by omega)).mono ?_
  rintro e W ⟨o4, rfl, hs4, ho4⟩
  have hDw := hD.next ho4 hs4
  clear hD hs4 ho4 c2 z2_
  have hD := hDw
  clear hDw
  rename_i K6 hK6 KA hKA KB hKB
  have TAIL6 : ∀ {u1 u4 u5 u6 u7 u8 u9 u10 u11 u12 u13 u14 u15 u16 u17 u18 u19 u20 u21 u22 u23 u24 u25 u26 u27 u28 u29 u30 u31 u32 u33 u34 u35 u36 u37 u38 u39 u40 u41 u42 u43 u44 u45 u46 : Value} {V : World} {T : ByteArray}, DB (n + 120) g w.heap.size b ⟨t1, t2, T⟩ w V → Hid (T.size ≤ 1000) → K6 ⟨#[.pointer (some ⟨g, 0, none⟩), u1, .pointer (some ⟨w.heap.size, 0, none⟩), .pointer (some ⟨b, 0, none⟩), u4, u5, u6, u7, u8, u9, u10, u11, u12, u13, u14, u15, u16, u17, u18, u19, u20, u21, u22, u23, u24, u25, u26, u27, u28, u29, u30, u31, u32, u33, u34, u35, u36, u37, u38, u39, u40, u41, u42, u43, u44, u45, u46], []⟩ V := by
    intro u1 u4 u5 u6 u7 u8 u9 u10 u11 u12 u13 u14 u15 u16 u17 u18 u19 u20 u21 u22 u23 u24 u25 u26 u27 u28 u29 u30 u31 u32 u33 u34 u35 u36 u37 u38 u39 u40 u41 u42 u43 u44 u45 u46 V T hD HT
    refine hK6 _ _ ?_
    clear hKA hKB hK6
    obtain ⟨x0, x1, x2⟩ := id hD.pg
    by_cases hk : t1 = gateKd
    · have e1 : (t1.toList == [103, 97, 116, 101]) = true := by rw [hk, beq_iff_eq]; unfold gateKd; simp [ByteArray.toList_eq]
      have hk' := Lib.hid hk
      clear hk
      go_wp2_with fail
      refine (one_any _ g 2 _ hD.src (by omega) (by omega)).mono ?_
      rintro e X ⟨o2, rfl, hsx, hox⟩
      have hD' := hD.next hox hsx
      clear hD hsx hox x0 x1 x2
      have hD := hD'
      clear hD'
      cases o2
      · go_wp2_with fail
        refine (one_any _ g 24 _ hD.src (by omega) (by omega)).mono ?_
        rintro e Y ⟨o24, rfl, hsy, hoy⟩
        have hD' := hD.next hoy hsy
        clear hD hsy hoy
        have hD := hD'
        clear hD'
        cases o24
        · skip
          have hDz := hD
          obtain ⟨d0, d1, d2, z0, z1, z2⟩ := hDz.box
          obtain ⟨x0, x1, x2⟩ := id hDz.pg
          go_wp2
          exact bodyPost_ret (v := bAg ⟨t1, t2, T⟩) (by simp [bAg, results, hit_cellD, d0, d1, d2, Tryz.results41, go_sem]) rfl ⟨⟨t1, t2, T⟩, rfl, ht1, HT.out, ht2, ((hDz.fin (by (repeat (refine Below.setCell ?_ (by exact Nat.le_refl _) _)); exact Below.refl _ _)).1).mono (by omega), (hDz.fin (by (repeat (refine Below.setCell ?_ (by exact Nat.le_refl _) _)); exact Below.refl _ _)).2⟩
        · have c2 : Y.cell? ⟨b, 2, none⟩ = some (.string T) := hD.pg.c2
          have z2_ := hD.zf 2
          go_wp2_with fail
          refine (pick_any _ g 3 _ hD.src (by omega) (by omega)).mono ?_
          rintro e Z ⟨q, rfl, ⟨hq0, hq1, _⟩, hsz, hoz⟩
          have hq2 := hq1 (by omega)
          have hD' := hD.next hoz hsz
          clear hD hsz hoz c2 z2_ hq1
          have hD := hD'
          clear hD'
          obtain ⟨m, rfl⟩ : ∃ m : Nat, q = m := ⟨q.toNat, by omega⟩
          have e39 : wrap64 (399 + (m : Int)) = 399 + (m : Int) := w64_inD _ (by omega)
          have hm3 : m < 3 := by omega
          have hcv := zerosText Z (399 + m) (by omega)
          have HT : Hid ((strOfNums (List.replicate (399 + m) 0)).size ≤ 1000) := by show _ ≤ _; rw [strOfNums_size, List.length_replicate]; omega
          have hD' := (hD.grow ((Below.refl _ _).alloc (Nat.le_refl _) (.cells (madeCells #[.int .u8 0] (399 + m)) 5))).set2 (strOfNums (List.replicate (399 + m) 0))
          have c2 : (Z.alloc (.cells (madeCells #[.int .u8 0] (399 + m)) 5)).cell? ⟨b, 2, none⟩ = some (.string T) := ((hD.grow ((Below.refl _ _).alloc (Nat.le_refl _) (.cells (madeCells #[.int .u8 0] (399 + m)) 5))).pg.c2)
          have z2_ := (hD.grow ((Below.refl _ _).alloc (Nat.le_refl _) (.cells (madeCells #[.int .u8 0] (399 + m)) 5))).zf 2
          clear hD
          generalize strOfNums (List.replicate (399 + m) 0) = zs at *
          have hDz := hD'
          obtain ⟨d0, d1, d2, z0, z1, z2⟩ := hDz.box
          obtain ⟨x0, x1, x2⟩ := id hDz.pg
          go_wp2
          exact bodyPost_ret (v := bAg ⟨t1, t2, zs⟩) (by simp [bAg, results, hit_cellD, d0, d1, d2, Tryz.results41, go_sem]) rfl ⟨⟨t1, t2, zs⟩, rfl, ht1, HT.out, ht2, ((hDz.fin (by (repeat (refine Below.setCell ?_ (by exact Nat.le_refl _) _)); exact Below.refl _ _)).1).mono (by omega), (hDz.fin (by (repeat (refine Below.setCell ?_ (by exact Nat.le_refl _) _)); exact Below.refl _ _)).2⟩
      · have x1 : X.cell? ⟨b, 1, none⟩ = some (.string t2) := hD.pg.c1
        go_wp2_with fail
        refine (l21DrawOne_any _ g t2 _ hD.src (by omega)).mono ?_
        rintro e G ⟨ga, he, hga, hsg, hog⟩
        unfold gAg at he
        subst he
        have hgv := hga (nameL_ok ht2)
        have hD' := hD.next hog hsg
        clear hD hsg hog x1 hga
        have hD := hD'
        clear hD'
        have hpa := PGate.box G ga 60
        have hD' := hD.grow ((Below.refl _ _).alloc (Nat.le_refl _) (.cells #[.string ga.id, .int .i64 ga.shut, .int .i64 ga.open_, .int .i64 ga.hold, .bool ga.shuts, .int .i64 ga.calm] 60))
        clear hD
        have hD := hD'
        clear hD'
        go_wp2_with fail
        refine (l21Text_any _ _ ga _ hpa hgv).mono ?_
        rintro e H ⟨rfl, hbH⟩
        have hD' := hD.grow hbH
        clear hD hpa hbH
        have c2 : H.cell? ⟨b, 2, none⟩ = some (.string T) := hD'.pg.c2
        have z2_ := hD'.zf 2
        have hD := hD'.set2 (gtS ga)
        clear hD'
        have HT : Hid ((gtS ga).size ≤ 1000) := by have := gtS_size hgv; show _ ≤ _; omega
        generalize gtS ga = tg at *
        clear hgv
        go_wp2_with fail
        generalize H.setCell ⟨b, 2, none⟩ (.string tg) = H2 at *
        refine (one_any _ g 24 _ hD.src (by omega) (by omega)).mono ?_
        rintro e Y ⟨o24, rfl, hsy, hoy⟩
        have hD' := hD.next hoy hsy
        clear hD hsy hoy
        have hD := hD'
        clear hD'
        cases o24
        · skip
          have hDz := hD
          obtain ⟨d0, d1, d2, z0, z1, z2⟩ := hDz.box
          obtain ⟨x0, x1, x2⟩ := id hDz.pg
          go_wp2
          exact bodyPost_ret (v := bAg ⟨t1, t2, tg⟩) (by simp [bAg, results, hit_cellD, d0, d1, d2, Tryz.results41, go_sem]) rfl ⟨⟨t1, t2, tg⟩, rfl, ht1, HT.out, ht2, ((hDz.fin (by (repeat (refine Below.setCell ?_ (by exact Nat.le_refl _) _)); exact Below.refl _ _)).1).mono (by omega), (hDz.fin (by (repeat (refine Below.setCell ?_ (by exact Nat.le_refl _) _)); exact Below.refl _ _)).2⟩
        · have c2 : Y.cell? ⟨b, 2, none⟩ = some (.string tg) := hD.pg.c2
          have z2_ := hD.zf 2
          go_wp2_with fail
          refine (pick_any _ g 3 _ hD.src (by omega) (by omega)).mono ?_
          rintro e Z ⟨q, rfl, ⟨hq0, hq1, _⟩, hsz, hoz⟩
          have hq2 := hq1 (by omega)
          have hD' := hD.next hoz hsz
          clear hD hsz hoz c2 z2_ hq1
          have hD := hD'
          clear hD'
          obtain ⟨m, rfl⟩ : ∃ m : Nat, q = m := ⟨q.toNat, by omega⟩
          have e39 : wrap64 (399 + (m : Int)) = 399 + (m : Int) := w64_inD _ (by omega)
          have hm3 : m < 3 := by omega
          have hcv := zerosText Z (399 + m) (by omega)
          have HT : Hid ((strOfNums (List.replicate (399 + m) 0)).size ≤ 1000) := by show _ ≤ _; rw [strOfNums_size, List.length_replicate]; omega
          have hD' := (hD.grow ((Below.refl _ _).alloc (Nat.le_refl _) (.cells (madeCells #[.int .u8 0] (399 + m)) 5))).set2 (strOfNums (List.replicate (399 + m) 0))
          have c2 : (Z.alloc (.cells (madeCells #[.int .u8 0] (399 + m)) 5)).cell? ⟨b, 2, none⟩ = some (.string tg) := ((hD.grow ((Below.refl _ _).alloc (Nat.le_refl _) (.cells (madeCells #[.int .u8 0] (399 + m)) 5))).pg.c2)
          have z2_ := (hD.grow ((Below.refl _ _).alloc (Nat.le_refl _) (.cells (madeCells #[.int .u8 0] (399 + m)) 5))).zf 2
          clear hD
          generalize strOfNums (List.replicate (399 + m) 0) = zs at *
          have hDz := hD'
          obtain ⟨d0, d1, d2, z0, z1, z2⟩ := hDz.box
          obtain ⟨x0, x1, x2⟩ := id hDz.pg
          go_wp2
          exact bodyPost_ret (v := bAg ⟨t1, t2, zs⟩) (by simp [bAg, results, hit_cellD, d0, d1, d2, Tryz.results41, go_sem]) rfl ⟨⟨t1, t2, zs⟩, rfl, ht1, HT.out, ht2, ((hDz.fin (by (repeat (refine Below.setCell ?_ (by exact Nat.le_refl _) _)); exact Below.refl _ _)).1).mono (by omega), (hDz.fin (by (repeat (refine Below.setCell ?_ (by exact Nat.le_refl _) _)); exact Below.refl _ _)).2⟩
    · have e1 : (t1.toList == [103, 97, 116, 101]) = false := by
        rw [beq_eq_false_iff_ne]; intro e
        exact hk (bytes_toList_inj (e.trans (by unfold gateKd; simp [ByteArray.toList_eq])))
      clear hk
      go_wp2_with fail
      clear x0 x1 x2
      refine (one_any _ g 24 _ hD.src (by omega) (by omega)).mono ?_
      rintro e Y ⟨o24, rfl, hsy, hoy⟩
      have hD' := hD.next hoy hsy
      clear hD hsy hoy
      have hD := hD'
      clear hD'
      cases o24
      · skip
        have hDz := hD
        obtain ⟨d0, d1, d2, z0, z1, z2⟩ := hDz.box
        obtain ⟨x0, x1, x2⟩ := id hDz.pg
        go_wp2
        exact bodyPost_ret (v := bAg ⟨t1, t2, T⟩) (by simp [bAg, results, hit_cellD, d0, d1, d2, Tryz.results41, go_sem]) rfl ⟨⟨t1, t2, T⟩, rfl, ht1, HT.out, ht2, ((hDz.fin (by (repeat (refine Below.setCell ?_ (by exact Nat.le_refl _) _)); exact Below.refl _ _)).1).mono (by omega), (hDz.fin (by (repeat (refine Below.setCell ?_ (by exact Nat.le_refl _) _)); exact Below.refl _ _)).2⟩
      · have c2 : Y.cell? ⟨b, 2, none⟩ = some (.string T) := hD.pg.c2
        have z2_ := hD.zf 2
        go_wp2_with fail
        refine (pick_any _ g 3 _ hD.src (by omega) (by omega)).mono ?_
        rintro e Z ⟨q, rfl, ⟨hq0, hq1, _⟩, hsz, hoz⟩
        have hq2 := hq1 (by omega)
        have hD' := hD.next hoz hsz
        clear hD hsz hoz c2 z2_ hq1
        have hD := hD'
        clear hD'
        obtain ⟨m, rfl⟩ : ∃ m : Nat, q = m := ⟨q.toNat, by omega⟩
        have e39 : wrap64 (399 + (m : Int)) = 399 + (m : Int) := w64_inD _ (by omega)
        have hm3 : m < 3 := by omega
        have hcv := zerosText Z (399 + m) (by omega)
        have HT : Hid ((strOfNums (List.replicate (399 + m) 0)).size ≤ 1000) := by show _ ≤ _; rw [strOfNums_size, List.length_replicate]; omega
        have hD' := (hD.grow ((Below.refl _ _).alloc (Nat.le_refl _) (.cells (madeCells #[.int .u8 0] (399 + m)) 5))).set2 (strOfNums (List.replicate (399 + m) 0))
        have c2 : (Z.alloc (.cells (madeCells #[.int .u8 0] (399 + m)) 5)).cell? ⟨b, 2, none⟩ = some (.string T) := ((hD.grow ((Below.refl _ _).alloc (Nat.le_refl _) (.cells (madeCells #[.int .u8 0] (399 + m)) 5))).pg.c2)
        have z2_ := (hD.grow ((Below.refl _ _).alloc (Nat.le_refl _) (.cells (madeCells #[.int .u8 0] (399 + m)) 5))).zf 2
        clear hD
        generalize strOfNums (List.replicate (399 + m) 0) = zs at *
        have hDz := hD'
        obtain ⟨d0, d1, d2, z0, z1, z2⟩ := hDz.box
        obtain ⟨x0, x1, x2⟩ := id hDz.pg
        go_wp2
        exact bodyPost_ret (v := bAg ⟨t1, t2, zs⟩) (by simp [bAg, results, hit_cellD, d0, d1, d2, Tryz.results41, go_sem]) rfl ⟨⟨t1, t2, zs⟩, rfl, ht1, HT.out, ht2, ((hDz.fin (by (repeat (refine Below.setCell ?_ (by exact Nat.le_refl _) _)); exact Below.refl _ _)).1).mono (by omega), (hDz.fin (by (repeat (refine Below.setCell ?_ (by exact Nat.le_refl _) _)); exact Below.refl _ _)).2⟩
  clear hK6
  cases o4
  · go_wp2
    exact TAIL6 (hD.mono (by omega)) HT
  · go_wp2
    have hDd := hD.grow (Below.drew (Below.refl _ _))
    clear hD HT
    refine wp_region_fork (C := fun _ => True) [0, 2] 1 [3, 4, 5, 6] [false, true, true, false] 3 [1, 4, 5, 6] [false, true, true, false] (by kernel_rfl) (by kernel_rfl) (by kernel_rfl) (fun _ _ d _ _ h => by cases d <;> exact h) trivial ?_
    simp only [List.map_cons, List.map_nil, List.getD_cons_zero, List.getD_cons_succ]
    have hS0 : Below (W.heap.size) W W.drew := Below.drew (Below.refl _ _)
    refine wpFork_pure (by kernel_rfl) (fun K hK => ?_)
    go_big_quiet_op
    refine hK _ ?_; clear hK K
    refine wpFork_pure (by kernel_rfl) (fun K hK => ?_)
    go_big_quiet_op
    refine hK _ ?_; clear hK K
    refine wpFork_split ?_ ?_
    · skip
      refine wpMix_act (by kernel_rfl) (fun K hK => ?_)
      have x2l : W.drew.cell? ⟨b, 2, none⟩ = some (.string t3) := hDd.pg.c2
      try have x2m : u.cell? ⟨b, 2, none⟩ = some (.string t3) := hD2.pg.c2
      go_big_op
      try simp only [Act.put, List.setIfInBounds_toArray, List.set_cons_zero, List.set_cons_succ]
      refine hK _ _ trivial ?_
      clear hK K
      refine wpMix_act (by kernel_rfl) (fun K hK => ?_)
      go_big_op
      refine (word_any _ g 9 _ hDd.src (by omega) (by omega)).mono ?_
      rintro e u ⟨wd, rfl, hwd, hs2, ho2⟩
      have hD2 := hDd.next ho2 hs2
      try simp only [Act.put, List.setIfInBounds_toArray, List.set_cons_zero, List.set_cons_succ]
      refine hK _ _ trivial ?_
      clear hK K
      refine wpMix_pure (by kernel_rfl) (fun K hK => ?_)
      go_big_quiet_op
      refine hK _ ?_; clear hK K
      refine wpMix_pure (by kernel_rfl) (fun K hK => ?_)
      go_big_quiet_op
      refine hK _ ?_; clear hK K
      refine wpMix_act (by kernel_rfl) (fun K hK => ?_)
      have x2 : u.cell? ⟨b, 2, none⟩ = some (.string t3) := hD2.pg.c2
      have z2_ := hD2.zf 2
      go_big_op
      have hD := hD2.set2 (t3 ++ wd)
      try simp only [Act.put, List.setIfInBounds_toArray, List.set_cons_zero, List.set_cons_succ]
      refine hK _ _ trivial ?_
      clear hK K
      refine wpMix_nil ?_
      have HT : Hid ((t3 ++ wd).size ≤ 1000) := by show _ ≤ _; rw [ByteArray.size_append]; omega
      generalize t3 ++ wd = t4 at *
      generalize u.setCell ⟨b, 2, none⟩ (.string t4) = U at *
      go_wp2
      exact TAIL6 (hD.mono (by omega)) HT
    · skip
      refine wpMix_act (by kernel_rfl) (fun K hK => ?_)
      go_big_op
      refine (word_any _ g 9 _ hDd.src (by omega) (by omega)).mono ?_
      rintro e u ⟨wd, rfl, hwd, hs2, ho2⟩
      have hD2 := hDd.next ho2 hs2
      try simp only [Act.put, List.setIfInBounds_toArray, List.set_cons_zero, List.set_cons_succ]
      refine hK _ _ trivial ?_
      clear hK K
      refine wpMix_act (by kernel_rfl) (fun K hK => ?_)
      have x2l : W.drew.cell? ⟨b, 2, none⟩ = some (.string t3) := hDd.pg.c2
      try have x2m : u.cell? ⟨b, 2, none⟩ = some (.string t3) := hD2.pg.c2
      go_big_op
      try simp only [Act.put, List.setIfInBounds_toArray, List.set_cons_zero, List.set_cons_succ]
      refine hK _ _ trivial ?_
      clear hK K
      refine wpMix_pure (by kernel_rfl) (fun K hK => ?_)
      go_big_quiet_op
      refine hK _ ?_; clear hK K
      refine wpMix_pure (by kernel_rfl) (fun K hK => ?_)
      go_big_quiet_op
      refine hK _ ?_; clear hK K
      refine wpMix_act (by kernel_rfl) (fun K hK => ?_)
      have x2 : u.cell? ⟨b, 2, none⟩ = some (.string t3) := hD2.pg.c2
      have z2_ := hD2.zf 2
      go_big_op
      have hD := hD2.set2 (t3 ++ wd)
      try simp only [Act.put, List.setIfInBounds_toArray, List.set_cons_zero, List.set_cons_succ]
      refine hK _ _ trivial ?_
      clear hK K
      refine wpMix_nil ?_
      have HT : Hid ((t3 ++ wd).size ≤ 1000) := by show _ ≤ _; rw [ByteArray.size_append]; omega
      generalize t3 ++ wd = t4 at *
      generalize u.setCell ⟨b, 2, none⟩ (.string t4) = U at *
      go_wp2
      exact TAIL6 (hD.mono (by omega)) HT

end Go.Proofs.YtdlihohkamajbaaGreatDoor
