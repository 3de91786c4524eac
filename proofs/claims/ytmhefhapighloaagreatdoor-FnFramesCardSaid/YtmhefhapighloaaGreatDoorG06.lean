/- Parts of the proof: Dw, Dl, Fs, Nu, Ld, Fr, Rd. -/
import Derived.Test.YtmhefhapighloaaGreatDoorG05
import Derived.Test.YtmhefhapighloaaGreatDoorG01
import Derived.Test.YtmhefhapighloaaGreatDoorG04
import Derived.Test.YtmhefhapighloaaGreatDoorG03
import Derived.Lib.ParseIntBTie
import Derived.Stop.LaidErr
import Derived.RowKitTokens
namespace Go.Proofs.YtmhefhapighloaaGreatDoor
open Go.RowKit
set_option linter.unusedVariables false

theorem byte_mod (r : Int) (h : 0 ≤ r ∧ r ≤ 255) : r % 256 = ((UInt8.ofNat r.toNat).toNat : Int) := by
  rw [UInt8.toNat_ofNat']; omega
set_option maxRecDepth 100000 in
set_option maxHeartbeats 2000000 in
theorem word_any (n g : Nat) (m : Int) (w : World) (hs : SrcD n g w) (hn : n ≤ 999999990000) (hm : m ≤ 100) :
    Calls Tryz.prog 76 #[.pointer (some ⟨g, 0, none⟩), .int .i64 m] w fun e w' => ∃ s : ByteArray, e = .returned (.string s) ∧ s.size ≤ 100 ∧ SrcD (n + 102) g w' ∧ Only [g] w w' := by
  obtain ⟨i0, hi, hz0, hz1, hz2⟩ := info_parts infoU8d
  have hg := hs.lt
  have hB0 : Below w.heap.size w (w.alloc (.cells #[] 5)) := (Below.refl _ _).alloc (Nat.le_refl _) _
  go_enter Tryz.func76, Tryz.ntmps76
  go_wp2_with fail
  refine (pick_any n g m _ (hs.below hB0) (by omega) (by omega)).mono ?_
  rintro e w1 ⟨x, rfl, ⟨hx0, hx1, hx2⟩, hs1, ho1⟩
  have hx3 : x ≤ 100 := by
    rcases Int.lt_or_le 1 m with h | h
    · have := hx1 (by omega); omega
    · have := hx2 h; omega
  obtain ⟨q, rfl⟩ : ∃ q : Nat, x = q := ⟨x.toNat, by omega⟩
  have hO1 : Only [g] w w1 := Only.later hB0 ho1
  have hown0 : Own fByte w1 w.heap.size 5 (.slice (some ⟨w.heap.size, 0, none⟩) 0 0) [] := Own.only (Own.lit0 fByte w _) ho1 (fun b hb => by simp at hb; subst hb; exact hg)
  go_wp2
  go_loopw [5, 6] (fun v i wr => ∃ (j : Nat) (L : List UInt8), i = .int .i64 j ∧ j + L.length ≤ 100 ∧ Own fByte wr w.heap.size 5 v L ∧ SrcD (n + 2 + L.length) g wr ∧ Only [g] w wr) (fun _ i _ => (intOf i).toNat)
  case atStart => exact ⟨q, [], rfl, by rw [List.length_nil]; omega, hown0, hs1, hO1⟩
  case round =>
    obtain ⟨j, L, rfl, hj, ho, hsr, hor⟩ := hrel
    have hsz := hor.size
    cases j with
    | zero =>
      have hcv := ho.text
      have hL : (⟨L.toArray⟩ : ByteArray).size ≤ 100 := by show L.toArray.size ≤ 100; simp; omega
      go_wp2
      go_ret
      exact ⟨_, rfl, hL, hsr.mono (by omega), hor⟩
    | succ j =>
      go_wp2_with fail
      refine (next_any _ g _ hsr (by omega)).mono ?_
      rintro e w2 ⟨r, rfl, hr, hs2, ho2⟩
      have hor2 := hor.trans ho2
      have hoW : w2.ownsRow w.heap.size 5 1 u5 L.length (L.flatMap fByte.enc) := Own.only ho ho2 (fun b hb => by simp at hb; subst hb; exact hg)
      have hsz2 := hor2.size
      obtain ⟨c, rfl⟩ : ∃ c : UInt8, r = (c.toNat : Int) := ⟨UInt8.ofNat r.toNat, by rw [← byte_mod r hr]; omega⟩
      clear ho
      go_wp2_with (at_builtin; refine wpList_append_one rfl _ _ 22 rfl w.heap.size 5 i0 (.int .u8 0) 1 1 Tryz.underlying22 hi hz0 hz1 hz2 rfl (by decide) u5 L.length _ rfl hoW [.int .u8 (c.toNat : Int)] rfl (by intro u hu; rw [List.mem_singleton] at hu; subst hu; rfl) rfl (by omega) (by decide) hsz2 ?_)
      intro v' u hown hbu _ _
      have hoD : Own fByte u w.heap.size 5 v' (L ++ [c]) := Own.push c rfl hown
      have hs3 : SrcD (n + 2 + (L ++ [c]).length) g u := (hs2.belowB hbu hg).mono (by simp; omega)
      have hor3 : Only [g] w u := hor2.then hbu
      clear hown
      go_wp2
      go_roundw
      case rel => exact ⟨j, L ++ [c], by go_num, by rw [List.length_append, List.length_singleton]; omega, hoD, hs3, hor3⟩
      case measure => simp [intOf]
theorem hit_cellD {w : World} {p : Addr} {x : Value} (h : (w.cell? p).isSome = true) : (w.setCell p x).cell? p = some x := by
  obtain ⟨v, hv⟩ := Option.isSome_iff_exists.1 h
  exact World.cell?_setCell_same w p x hv
def gAg (x : DGate) : Value := .agg #[.string x.id, .int .i64 x.shut, .int .i64 x.open_, .int .i64 x.hold, .bool x.shuts, .int .i64 x.calm]
structure Bx6 (w : World) (g : Nat) : Prop where
  d0 : w.cell? ⟨g, 0, none⟩ = some (.string ⟨#[]⟩)
  d1 : w.cell? ⟨g, 1, none⟩ = some (.int .i64 0)
  d2 : w.cell? ⟨g, 2, none⟩ = some (.int .i64 0)
  d3 : w.cell? ⟨g, 3, none⟩ = some (.int .i64 0)
  d4 : w.cell? ⟨g, 4, none⟩ = some (.bool false)
  d5 : w.cell? ⟨g, 5, none⟩ = some (.int .i64 0)
  z0 : w.frozen? ⟨g, 0, none⟩ = false
  z1 : w.frozen? ⟨g, 1, none⟩ = false
  z2 : w.frozen? ⟨g, 2, none⟩ = false
  z3 : w.frozen? ⟨g, 3, none⟩ = false
  z4 : w.frozen? ⟨g, 4, none⟩ = false
  z5 : w.frozen? ⟨g, 5, none⟩ = false
theorem Bx6.new (w : World) (T : TypeId) : Bx6 (w.alloc (.cells #[.string ⟨#[]⟩, .int .i64 0, .int .i64 0, .int .i64 0, .bool false, .int .i64 0] T)) w.heap.size := by
  constructor <;> simp
theorem Bx6.keep {w w' : World} {g : Nat} (h : Bx6 w g) (hk : w'.heap[g]? = w.heap[g]?) : Bx6 w' g := by
  have kc : ∀ j, w'.cell? ⟨g, j, none⟩ = w.cell? ⟨g, j, none⟩ := fun j => World.cell?_of_block (w := w) (a := ⟨g, j, none⟩) hk
  have kf : ∀ j, w'.frozen? ⟨g, j, none⟩ = w.frozen? ⟨g, j, none⟩ := fun j => World.frozen?_of_block (w := w) (a := ⟨g, j, none⟩) hk
  exact ⟨(kc _).trans h.d0, (kc _).trans h.d1, (kc _).trans h.d2, (kc _).trans h.d3, (kc _).trans h.d4, (kc _).trans h.d5, (kf _).trans h.z0, (kf _).trans h.z1, (kf _).trans h.z2, (kf _).trans h.z3, (kf _).trans h.z4, (kf _).trans h.z5⟩
theorem Bx6.belowB {w w' : World} {g B : Nat} (h : Bx6 w g) (hb : Below B w w') (hg : g < B) : Bx6 w' g := h.keep (hb.block g hg)
structure DG (n g r b : Nat) (x : DGate) (w0 w : World) : Prop where
  src : SrcD n g w
  only : Only [g] w0 w
  box : Bx6 w r
  pg : PGate w b 0 x
  zf : ∀ j, w.frozen? ⟨b, j, none⟩ = false
  l0 : g < w0.heap.size
  l1 : w0.heap.size ≤ r
  l2 : r < b
theorem DG.next {n m g r b : Nat} {x : DGate} {w0 w w' : World} (h : DG n g r b x w0 w) (ho : Only [g] w w') (hs : SrcD m g w') : DG m g r b x w0 w' := by
  have l0 := h.l0; have l1 := h.l1; have l2 := h.l2; have lb := h.pg.lt
  have hbb : w'.heap[b]? = w.heap[b]? := ho.block b lb (by simp; omega)
  have kc : ∀ j, w'.cell? ⟨b, j, none⟩ = w.cell? ⟨b, j, none⟩ := fun j => World.cell?_of_block (w := w) (a := ⟨b, j, none⟩) hbb
  have kf : ∀ j, w'.frozen? ⟨b, j, none⟩ = w.frozen? ⟨b, j, none⟩ := fun j => World.frozen?_of_block (w := w) (a := ⟨b, j, none⟩) hbb
  exact ⟨hs, h.only.trans ho, h.box.keep (ho.block r (by omega) (by simp; omega)), ⟨(kc _).trans h.pg.c0, (kc _).trans h.pg.c1, (kc _).trans h.pg.c2, (kc _).trans h.pg.c3, (kc _).trans h.pg.c4, (kc _).trans h.pg.c5⟩, fun j => (kf j).trans (h.zf j), l0, l1, l2⟩
theorem DG.fin {n g r b : Nat} {x : DGate} {w0 w w' : World} (h : DG n g r b x w0 w) (hb : Below r w w') : SrcD n g w' ∧ Only [g] w0 w' := by
  have l0 := h.l0; have l1 := h.l1; have l2 := h.l2
  exact ⟨h.src.belowB hb (by omega), h.only.then (hb.mono l1)⟩
theorem PGate.dset2 {V : World} {g : Nat} {x : DGate} (h : PGate V g 0 x) (c : Int) : PGate (V.setCell ⟨g, 2, none⟩ (.int .i64 c)) g 0 ⟨x.id, x.shut, c, x.hold, x.shuts, x.calm⟩ := by
  have nk : ∀ j, j ≠ 2 → (⟨g, 2, none⟩ : Addr) ≠ ⟨g, j, none⟩ := fun j hj e => by injection e with _ e _; exact hj e.symm
  have k : ∀ j, j ≠ 2 → (V.setCell ⟨g, 2, none⟩ (.int .i64 c)).cell? ⟨g, j, none⟩ = V.cell? ⟨g, j, none⟩ := fun j hj => World.cell?_setCell_other _ _ _ _ (nk j hj)
  exact ⟨(k _ (by decide)).trans h.c0, (k _ (by decide)).trans h.c1, hit_cellD (by have := h.c2; rw [show (0 + 2 : Nat) = 2 from rfl] at this; rw [this]; rfl), (k _ (by decide)).trans h.c3, (k _ (by decide)).trans h.c4, (k _ (by decide)).trans h.c5⟩
theorem DG.set2 {n g r b : Nat} {x : DGate} {w0 V : World} (h : DG n g r b x w0 V) (c : Int) : DG n g r b ⟨x.id, x.shut, c, x.hold, x.shuts, x.calm⟩ w0 (V.setCell ⟨b, 2, none⟩ (.int .i64 c)) := by
  have hb : Below b V (V.setCell ⟨b, 2, none⟩ (.int .i64 c)) := (Below.refl _ _).setCell (p := ⟨b, 2, none⟩) (Nat.le_refl _) _
  have l0 := h.l0; have l1 := h.l1; have l2 := h.l2
  exact ⟨h.src.belowB hb (by omega), h.only.then (hb.mono (by omega)), h.box.belowB hb l2, h.pg.dset2 c, fun j => (frozen?_setCell _ _ _ _).trans (h.zf j), h.l0, h.l1, h.l2⟩
theorem PGate.dset3 {V : World} {g : Nat} {x : DGate} (h : PGate V g 0 x) (c : Int) : PGate (V.setCell ⟨g, 3, none⟩ (.int .i64 c)) g 0 ⟨x.id, x.shut, x.open_, c, x.shuts, x.calm⟩ := by
  have nk : ∀ j, j ≠ 3 → (⟨g, 3, none⟩ : Addr) ≠ ⟨g, j, none⟩ := fun j hj e => by injection e with _ e _; exact hj e.symm
  have k : ∀ j, j ≠ 3 → (V.setCell ⟨g, 3, none⟩ (.int .i64 c)).cell? ⟨g, j, none⟩ = V.cell? ⟨g, j, none⟩ := fun j hj => World.cell?_setCell_other _ _ _ _ (nk j hj)
  exact ⟨(k _ (by decide)).trans h.c0, (k _ (by decide)).trans h.c1, (k _ (by decide)).trans h.c2, hit_cellD (by have := h.c3; rw [show (0 + 3 : Nat) = 3 from rfl] at this; rw [this]; rfl), (k _ (by decide)).trans h.c4, (k _ (by decide)).trans h.c5⟩
theorem DG.set3 {n g r b : Nat} {x : DGate} {w0 V : World} (h : DG n g r b x w0 V) (c : Int) : DG n g r b ⟨x.id, x.shut, x.open_, c, x.shuts, x.calm⟩ w0 (V.setCell ⟨b, 3, none⟩ (.int .i64 c)) := by
  have hb : Below b V (V.setCell ⟨b, 3, none⟩ (.int .i64 c)) := (Below.refl _ _).setCell (p := ⟨b, 3, none⟩) (Nat.le_refl _) _
  have l0 := h.l0; have l1 := h.l1; have l2 := h.l2
  exact ⟨h.src.belowB hb (by omega), h.only.then (hb.mono (by omega)), h.box.belowB hb l2, h.pg.dset3 c, fun j => (frozen?_setCell _ _ _ _).trans (h.zf j), h.l0, h.l1, h.l2⟩
theorem PGate.dset4 {V : World} {g : Nat} {x : DGate} (h : PGate V g 0 x) (c : Bool) : PGate (V.setCell ⟨g, 4, none⟩ (.bool c)) g 0 ⟨x.id, x.shut, x.open_, x.hold, c, x.calm⟩ := by
  have nk : ∀ j, j ≠ 4 → (⟨g, 4, none⟩ : Addr) ≠ ⟨g, j, none⟩ := fun j hj e => by injection e with _ e _; exact hj e.symm
  have k : ∀ j, j ≠ 4 → (V.setCell ⟨g, 4, none⟩ (.bool c)).cell? ⟨g, j, none⟩ = V.cell? ⟨g, j, none⟩ := fun j hj => World.cell?_setCell_other _ _ _ _ (nk j hj)
  exact ⟨(k _ (by decide)).trans h.c0, (k _ (by decide)).trans h.c1, (k _ (by decide)).trans h.c2, (k _ (by decide)).trans h.c3, hit_cellD (by have := h.c4; rw [show (0 + 4 : Nat) = 4 from rfl] at this; rw [this]; rfl), (k _ (by decide)).trans h.c5⟩
theorem DG.set4 {n g r b : Nat} {x : DGate} {w0 V : World} (h : DG n g r b x w0 V) (c : Bool) : DG n g r b ⟨x.id, x.shut, x.open_, x.hold, c, x.calm⟩ w0 (V.setCell ⟨b, 4, none⟩ (.bool c)) := by
  have hb : Below b V (V.setCell ⟨b, 4, none⟩ (.bool c)) := (Below.refl _ _).setCell (p := ⟨b, 4, none⟩) (Nat.le_refl _) _
  have l0 := h.l0; have l1 := h.l1; have l2 := h.l2
  exact ⟨h.src.belowB hb (by omega), h.only.then (hb.mono (by omega)), h.box.belowB hb l2, h.pg.dset4 c, fun j => (frozen?_setCell _ _ _ _).trans (h.zf j), h.l0, h.l1, h.l2⟩
theorem PGate.dset5 {V : World} {g : Nat} {x : DGate} (h : PGate V g 0 x) (c : Int) : PGate (V.setCell ⟨g, 5, none⟩ (.int .i64 c)) g 0 ⟨x.id, x.shut, x.open_, x.hold, x.shuts, c⟩ := by
  have nk : ∀ j, j ≠ 5 → (⟨g, 5, none⟩ : Addr) ≠ ⟨g, j, none⟩ := fun j hj e => by injection e with _ e _; exact hj e.symm
  have k : ∀ j, j ≠ 5 → (V.setCell ⟨g, 5, none⟩ (.int .i64 c)).cell? ⟨g, j, none⟩ = V.cell? ⟨g, j, none⟩ := fun j hj => World.cell?_setCell_other _ _ _ _ (nk j hj)
  exact ⟨(k _ (by decide)).trans h.c0, (k _ (by decide)).trans h.c1, (k _ (by decide)).trans h.c2, (k _ (by decide)).trans h.c3, (k _ (by decide)).trans h.c4, hit_cellD (by have := h.c5; rw [show (0 + 5 : Nat) = 5 from rfl] at this; rw [this]; rfl)⟩
theorem DG.set5 {n g r b : Nat} {x : DGate} {w0 V : World} (h : DG n g r b x w0 V) (c : Int) : DG n g r b ⟨x.id, x.shut, x.open_, x.hold, x.shuts, c⟩ w0 (V.setCell ⟨b, 5, none⟩ (.int .i64 c)) := by
  have hb : Below b V (V.setCell ⟨b, 5, none⟩ (.int .i64 c)) := (Below.refl _ _).setCell (p := ⟨b, 5, none⟩) (Nat.le_refl _) _
  have l0 := h.l0; have l1 := h.l1; have l2 := h.l2
  exact ⟨h.src.belowB hb (by omega), h.only.then (hb.mono (by omega)), h.box.belowB hb l2, h.pg.dset5 c, fun j => (frozen?_setCell _ _ _ _).trans (h.zf j), h.l0, h.l1, h.l2⟩
set_option maxRecDepth 100000 in
set_option maxHeartbeats 4000000 in
theorem l21DrawOne_any (n g : Nat) (name : ByteArray) (w : World) (hs : SrcD n g w) (hn : n ≤ 999999990000) :
    Calls Tryz.prog 66 #[.pointer (some ⟨g, 0, none⟩), .string name] w fun e w' => ∃ x : DGate, e = .returned (gAg x) ∧ ((nameB name = true → gateB x = true) ∧ x.id = name) ∧ SrcD (n + 20) g w' ∧ Only [g] w w' := by
  have hg := hs.lt
  go_enter Tryz.func66, Tryz.ntmps66
  go_wp2_with fail
  refine (pick_any n g 50 _ (hs.below ((Below.refl _ _).alloc (Nat.le_refl _) _)) (by omega) (by omega)).mono ?_
  rintro e w1 ⟨q1, rfl, ⟨hq10, hq11, _⟩, hs1, ho1⟩
  have hq12 := hq11 (by omega)
  have e10 : wrap64 (10 * q1) = 10 * q1 := w64_inD _ (by omega)
  have e11 : wrap64 (300 + 10 * q1) = 300 + 10 * q1 := w64_inD _ (by omega)
  have hbx : Bx6 w1 w.heap.size := (Bx6.new w _).keep (ho1.block w.heap.size (by simp) (by simp; omega))
  have hr1 : w.heap.size < w1.heap.size := by have := ho1.size; simp at this; omega
  have hO1 : Only [g] w w1 := Only.later ((Below.refl _ _).alloc (Nat.le_refl _) _) ho1
  obtain ⟨s, hsv⟩ : ∃ s, s = 300 + 10 * q1 := ⟨_, rfl⟩
  have hBA : Below w1.heap.size w1 (w1.alloc (.cells #[.string name, .int .i64 s, .int .i64 0, .int .i64 0, .bool false, .int .i64 0] 43)) := (Below.refl _ _).alloc (Nat.le_refl _) _
  have hD : DG (n + 2) g w.heap.size w1.heap.size ⟨name, s, 0, 0, false, 0⟩ w (w1.alloc (.cells #[.string name, .int .i64 s, .int .i64 0, .int .i64 0, .bool false, .int .i64 0] 43)) :=
    ⟨hs1.below hBA, hO1.then (hBA.mono hO1.size), hbx.belowB hBA hr1, PGate.box w1 ⟨name, s, 0, 0, false, 0⟩ _, fun j => World.frozen?_alloc_at _ _ _ _ rfl, hg, Nat.le_refl _, hr1⟩
  rw [hsv] at hD
  clear hbx hBA hs1 ho1 hO1 hq11
  go_wp2
  refine at_world (fun W => DG (n + 2) g w.heap.size w1.heap.size ⟨name, 300 + 10 * q1, 0, 0, false, 0⟩ w W) hD ?_
  clear hD
  generalize w1.heap.size = b at *
  intro W hD
  rw [← hsv] at hD ⊢
  have hs0 : 300 ≤ s ∧ s ≤ 790 := by omega
  clear hsv e10 e11
  have hbW : g ≤ W.heap.size := Nat.le_of_lt hD.src.lt
  have hDd : DG (n + 2) g w.heap.size b ⟨name, s, 0, 0, false, 0⟩ w W.drew := hD.next (Only.of_below (Below.drew (Below.refl _ _))) (hD.src.below (Below.drew (Below.refl _ _)))
  have gk1 : ∀ p : KeptW (g) W (fun N => N.cell? ⟨b, 1, none⟩ = some (.int .i64 s)), p.v.cell? ⟨b, 1, none⟩ = some (.int .i64 s) := fun p => p.x
  haveI hKne : Nonempty (KeptW (g) W (fun N => N.cell? ⟨b, 1, none⟩ = some (.int .i64 s))) := ⟨⟨_, Below.drew (Below.refl _ _), hDd.pg.c1⟩⟩
  refine wp_region_mix (C := fun w' => ∃ p : KeptW (g) W (fun N => N.cell? ⟨b, 1, none⟩ = some (.int .i64 s)), w' = p.v) [true, true, true, false, true, true, true, false] (by kernel_rfl) (by kernel_rfl) (by kernel_rfl) (fun _ _ d _ _ h => by cases d <;> exact h) ⟨⟨_, Below.drew (Below.refl _ _), hDd.pg.c1⟩, rfl⟩ ?_
  have hS0 : Below (g) W W.drew := Below.drew (Below.refl _ _)
  refine wpMix_pure (by kernel_rfl) (fun K hK => ?_)
  go_big_quiet_op
  refine hK _ ?_; clear hK K
  refine wpMix_pure (by kernel_rfl) (fun K hK => ?_)
  go_big_quiet_op
  refine hK _ ?_; clear hK K
  refine wpMix_pure (by kernel_rfl) (fun K hK => ?_)
  go_big_quiet_op
  refine hK _ ?_; clear hK K
  refine wpMix_act (by kernel_rfl) (fun K hK => ?_)
  go_big_op
  refine (pick_any (n + 2) g 20 _ hDd.src (by omega) (by omega)).mono ?_
  rintro e u ⟨q2, rfl, ⟨hq20, hq21, _⟩, hs2, ho2⟩
  have hq22 := hq21 (by omega)
  have hD2 := hDd.next ho2 hs2
  have hbu : Below g W.drew u := ho2.below (by have := hs2.lt; have := hDd.src.lt; omega) (by simp)
  have hx3 : u.cell? ⟨b, 1, none⟩ = some (.int .i64 s) := hD2.pg.c1
  have e20 : wrap64 (10 * q2) = 10 * q2 := w64_inD _ (by omega)
  have e21 : wrap64 (s - 10 * q2) = s - 10 * q2 := w64_inD _ (by omega)
  have hbuS : Below (g) W u := hS0.trans hbu
  try simp only [Act.put, List.setIfInBounds_toArray, List.set_cons_zero, List.set_cons_succ]
  refine hK _ _ ⟨⟨_, hbuS, hx3⟩, rfl⟩ ?_
  clear hK K
  refine wpMix_pure (by kernel_rfl) (fun K hK => ?_)
  go_big_quiet_op
  refine hK _ ?_; clear hK K
  refine wpMix_pure (by kernel_rfl) (fun K hK => ?_)
  go_big_quiet_op
  refine hK _ ?_; clear hK K
  refine wpMix_pure (by kernel_rfl) (fun K hK => ?_)
  go_big_quiet_op
  refine hK _ ?_; clear hK K
  refine wpMix_act (by kernel_rfl) (fun K hK => ?_)
  obtain ⟨V3, rfl⟩ : ∃ N, N = u := ⟨u, rfl⟩
  have c2 : V3.cell? ⟨b, 2, none⟩ = some (.int .i64 0) := hD2.pg.c2
  have z2 := hD2.zf 2
  go_big_op
  have hD3 := hD2.set2 (s - 10 * q2)
  have hbu : Below g V3 (V3.setCell ⟨b, 2, none⟩ (.int .i64 (s - 10 * q2))) := (Below.refl _ _).setCell (by have := hD2.l0; have := hD2.l1; have := hD2.l2; show g ≤ b; omega) _
  generalize V3.setCell ⟨b, 2, none⟩ (.int .i64 (s - 10 * q2)) = u at *
  have hx7 : u.cell? ⟨b, 1, none⟩ = some (.int .i64 s) := hD3.pg.c1
  have hbuS : Below (g) W u := hbuS.trans hbu
  try simp only [Act.put, List.setIfInBounds_toArray, List.set_cons_zero, List.set_cons_succ]
  refine hK _ _ ⟨⟨_, hbuS, hx7⟩, rfl⟩ ?_
  clear hK K
  refine wpMix_nil ?_
  clear hq21 hDd hD2 c2 z2 hx3 hx7 hbuS e20 e21
  go_wp2_with fail
  refine (pick_any (n + 2 + 2) g 5 _ hD3.src (by omega) (by omega)).mono ?_
  rintro e V4 ⟨q3, rfl, ⟨hq30, hq31, _⟩, hs4, ho4⟩
  have hq32 := hq31 (by omega)
  have hD4 := hD3.next ho4 hs4
  have c3 : V4.cell? ⟨b, 3, none⟩ = some (.int .i64 0) := hD4.pg.c3
  have z3 := hD4.zf 3
  have e30 : wrap64 (1 + q3) = 1 + q3 := w64_inD _ (by omega)
  have hD5 := hD4.set3 (1 + q3)
  clear hq31 hD3 hD4 ho4 hs4
  go_wp2_with fail
  generalize V4.setCell ⟨b, 3, none⟩ (.int .i64 (1 + q3)) = V5 at *
  refine (one_any (n + 2 + 2 + 2) g 2 _ hD5.src (by omega) (by omega)).mono ?_
  rintro e V6 ⟨o1, rfl, hs6, ho6⟩
  have hD6 := hD5.next ho6 hs6
  clear hD5 ho6 hs6 c3 z3
  cases o1
  · skip
    have hDz := hD6
    obtain ⟨d0, d1, d2, d3, d4, d5, z0, z1, z2, z3, z4, z5⟩ := hDz.box
    obtain ⟨x0, x1, x2, x3, x4, x5⟩ := id hDz.pg
    have HG : Hid (nameB name = true → gateB ⟨name, s, s - 10 * q2, 1 + q3, false, 0⟩ = true) := fun h => by unfold gateB inB; simp [h]; omega
    go_wp2
    exact bodyPost_ret (v := gAg ⟨name, s, s - 10 * q2, 1 + q3, false, 0⟩) (by simp [gAg, results, hit_cellD, d0, d1, d2, d3, d4, d5, Tryz.results66, go_sem]) rfl ⟨_, rfl, ⟨HG.out, rfl⟩, ((hDz.fin (by (repeat (refine Below.setCell ?_ (by exact Nat.le_refl _) _)); exact Below.refl _ _)).1).mono (by omega), (hDz.fin (by (repeat (refine Below.setCell ?_ (by exact Nat.le_refl _) _)); exact Below.refl _ _)).2⟩
  · have c4 : V6.cell? ⟨b, 4, none⟩ = some (.bool false) := hD6.pg.c4
    have z4 := hD6.zf 4
    have c3 : V6.cell? ⟨b, 3, none⟩ = some (.int .i64 (1 + q3)) := hD6.pg.c3
    have hD7 := hD6.set4 true
    have c37 : (V6.setCell ⟨b, 4, none⟩ (.bool true)).cell? ⟨b, 3, none⟩ = some (.int .i64 (1 + q3)) := hD7.pg.c3
    clear hD6
    go_wp2_with fail
    generalize V6.setCell ⟨b, 4, none⟩ (.bool true) = V7 at *
    refine (pick_any (n + 2 + 2 + 2 + 2) g (1 + q3) _ hD7.src (by omega) (by omega)).mono ?_
    rintro e V8 ⟨q4, rfl, ⟨hq40, hq41, _⟩, hs8, ho8⟩
    have hq42 := hq41 (by omega)
    have hD8 := hD7.next ho8 hs8
    have c5 : V8.cell? ⟨b, 5, none⟩ = some (.int .i64 0) := hD8.pg.c5
    have z5_ := hD8.zf 5
    have hD9 := hD8.set5 q4
    clear hq41 hD7 hs8 ho8 c37 c3 c4 z4
    have hDz := hD9
    obtain ⟨d0, d1, d2, d3, d4, d5, z0, z1, z2, z3, z4, z5⟩ := hDz.box
    obtain ⟨x0, x1, x2, x3, x4, x5⟩ := id hDz.pg
    have HG : Hid (nameB name = true → gateB ⟨name, s, s - 10 * q2, 1 + q3, true, q4⟩ = true) := fun h => by unfold gateB inB; simp [h]; omega
    go_wp2
    exact bodyPost_ret (v := gAg ⟨name, s, s - 10 * q2, 1 + q3, true, q4⟩) (by simp [gAg, results, hit_cellD, d0, d1, d2, d3, d4, d5, Tryz.results66, go_sem]) rfl ⟨_, rfl, ⟨HG.out, rfl⟩, ((hDz.fin (by (repeat (refine Below.setCell ?_ (by exact Nat.le_refl _) _)); exact Below.refl _ _)).1).mono (by omega), (hDz.fin (by (repeat (refine Below.setCell ?_ (by exact Nat.le_refl _) _)); exact Below.refl _ _)).2⟩
def bAg (x : DBlock) : Value := .agg #[.string x.kind, .string x.name, .string x.text]
def kindL : List ByteArray := [⟨#[103, 97, 116, 101]⟩, ⟨#[110, 111, 116, 101]⟩, ⟨#[102, 97, 99, 101]⟩]
def nameL : List ByteArray := [⟨#[97]⟩, ⟨#[98]⟩, ⟨#[99]⟩, ⟨#[100]⟩]
def textL : List ByteArray := [⟨#[]⟩, ⟨#[120]⟩, ⟨#[97, 32, 98, 32, 99]⟩, ⟨#[49, 50, 32, 51, 52]⟩, ⟨#[111, 97, 107, 47, 52, 48]⟩]
def gateKd : ByteArray := ⟨#[103, 97, 116, 101]⟩
structure Bx3 (w : World) (g : Nat) : Prop where
  d0 : w.cell? ⟨g, 0, none⟩ = some (.string ⟨#[]⟩)
  d1 : w.cell? ⟨g, 1, none⟩ = some (.string ⟨#[]⟩)
  d2 : w.cell? ⟨g, 2, none⟩ = some (.string ⟨#[]⟩)
  z0 : w.frozen? ⟨g, 0, none⟩ = false
  z1 : w.frozen? ⟨g, 1, none⟩ = false
  z2 : w.frozen? ⟨g, 2, none⟩ = false
theorem Bx3.new (w : World) (T : TypeId) : Bx3 (w.alloc (.cells #[.string ⟨#[]⟩, .string ⟨#[]⟩, .string ⟨#[]⟩] T)) w.heap.size := by
  constructor <;> simp
theorem Bx3.keep {w w' : World} {g : Nat} (h : Bx3 w g) (hk : w'.heap[g]? = w.heap[g]?) : Bx3 w' g := by
  have kc : ∀ j, w'.cell? ⟨g, j, none⟩ = w.cell? ⟨g, j, none⟩ := fun j => World.cell?_of_block (w := w) (a := ⟨g, j, none⟩) hk
  have kf : ∀ j, w'.frozen? ⟨g, j, none⟩ = w.frozen? ⟨g, j, none⟩ := fun j => World.frozen?_of_block (w := w) (a := ⟨g, j, none⟩) hk
  exact ⟨(kc _).trans h.d0, (kc _).trans h.d1, (kc _).trans h.d2, (kf _).trans h.z0, (kf _).trans h.z1, (kf _).trans h.z2⟩
theorem Bx3.belowB {w w' : World} {g B : Nat} (h : Bx3 w g) (hb : Below B w w') (hg : g < B) : Bx3 w' g := h.keep (hb.block g hg)
structure DB (n g r b : Nat) (x : DBlock) (w0 w : World) : Prop where
  src : SrcD n g w
  only : Only [g] w0 w
  box : Bx3 w r
  pg : PBlock w b 0 x
  zf : ∀ j, w.frozen? ⟨b, j, none⟩ = false
  l0 : g < w0.heap.size
  l1 : w0.heap.size ≤ r
  l2 : r < b
theorem DB.next {n m g r b : Nat} {x : DBlock} {w0 w w' : World} (h : DB n g r b x w0 w) (ho : Only [g] w w') (hs : SrcD m g w') : DB m g r b x w0 w' := by
  have l0 := h.l0; have l1 := h.l1; have l2 := h.l2; have lb := h.pg.lt
  have hbb : w'.heap[b]? = w.heap[b]? := ho.block b lb (by simp; omega)
  have kc : ∀ j, w'.cell? ⟨b, j, none⟩ = w.cell? ⟨b, j, none⟩ := fun j => World.cell?_of_block (w := w) (a := ⟨b, j, none⟩) hbb
  have kf : ∀ j, w'.frozen? ⟨b, j, none⟩ = w.frozen? ⟨b, j, none⟩ := fun j => World.frozen?_of_block (w := w) (a := ⟨b, j, none⟩) hbb
  exact ⟨hs, h.only.trans ho, h.box.keep (ho.block r (by omega) (by simp; omega)), ⟨(kc _).trans h.pg.c0, (kc _).trans h.pg.c1, (kc _).trans h.pg.c2⟩, fun j => (kf j).trans (h.zf j), l0, l1, l2⟩
theorem DB.grow {n g r b : Nat} {x : DBlock} {w0 w w' : World} (h : DB n g r b x w0 w) (hb : Below w.heap.size w w') : DB n g r b x w0 w' := h.next (Only.of_below hb) (h.src.below hb)
theorem DB.mono {n m g r b : Nat} {x : DBlock} {w0 w : World} (h : DB n g r b x w0 w) (hm : n ≤ m) : DB m g r b x w0 w := ⟨h.src.mono hm, h.only, h.box, h.pg, h.zf, h.l0, h.l1, h.l2⟩
theorem DB.fin {n g r b : Nat} {x : DBlock} {w0 w w' : World} (h : DB n g r b x w0 w) (hb : Below r w w') : SrcD n g w' ∧ Only [g] w0 w' := by
  have l0 := h.l0; have l1 := h.l1; have l2 := h.l2
  exact ⟨h.src.belowB hb (by omega), h.only.then (hb.mono l1)⟩
theorem slLit (V : World) (T : TypeId) (xs : List ByteArray) (cs : Array Value) (hcs : cs = (xs.flatMap fStr.enc).toArray) (hok : ∀ x ∈ xs, x.size ≤ 1000) (hne : 0 < xs.length) (hm : xs.length ≤ 1000) (k m : Nat) (hk : k = V.heap.size) (hn : m = xs.length) :
    Sl fStr.cod (V.alloc (.cells cs T)) (.slice (some ⟨k, 0, none⟩) m m) xs [k] := by
  subst hk hn
  exact Sl.lit2 (E := fStr) V xs T cs hcs (fun x hx => by have := hok x hx; show _ ≤ _; omega) hne (by omega)
theorem zerosText (W : World) (n : Nat) (hn : 0 < n) : (convert 22 9 (.slice (some ⟨W.heap.size, 0, none⟩) n n)).run Tryz.prog (W.alloc (.cells (madeCells #[.int .u8 0] n) 5)) = .ok (.string (strOfNums (List.replicate n 0))) (W.alloc (.cells (madeCells #[.int .u8 0] n) 5)) := by
  refine run_convert_bytes_arg _ _ _ Tryz.underlying22 Tryz.underlying5 W.heap.size 0 n n (List.replicate n 0) (by simp) (fun i hi => ?_) _ Tryz.underlying9
  rw [World.cell?_alloc_at _ _ _ _ rfl]
  unfold madeCells
  simp [hi, Nat.mod_one, List.getD_eq_getElem?_getD, List.getElem?_replicate]
theorem PBlock.dset1 {V : World} {g : Nat} {x : DBlock} (h : PBlock V g 0 x) (c : ByteArray) : PBlock (V.setCell ⟨g, 1, none⟩ (.string c)) g 0 ⟨x.kind, c, x.text⟩ := by
  have nk : ∀ j, j ≠ 1 → (⟨g, 1, none⟩ : Addr) ≠ ⟨g, j, none⟩ := fun j hj e => by injection e with _ e _; exact hj e.symm
  have k : ∀ j, j ≠ 1 → (V.setCell ⟨g, 1, none⟩ (.string c)).cell? ⟨g, j, none⟩ = V.cell? ⟨g, j, none⟩ := fun j hj => World.cell?_setCell_other _ _ _ _ (nk j hj)
  exact ⟨(k _ (by decide)).trans h.c0, hit_cellD (by have := h.c1; rw [show (0 + 1 : Nat) = 1 from rfl] at this; rw [this]; rfl), (k _ (by decide)).trans h.c2⟩
theorem DB.set1 {n g r b : Nat} {x : DBlock} {w0 V : World} (h : DB n g r b x w0 V) (c : ByteArray) : DB n g r b ⟨x.kind, c, x.text⟩ w0 (V.setCell ⟨b, 1, none⟩ (.string c)) := by
  have hb : Below b V (V.setCell ⟨b, 1, none⟩ (.string c)) := (Below.refl _ _).setCell (p := ⟨b, 1, none⟩) (Nat.le_refl _) _
  have l0 := h.l0; have l1 := h.l1; have l2 := h.l2
  exact ⟨h.src.belowB hb (by omega), h.only.then (hb.mono (by omega)), h.box.belowB hb l2, h.pg.dset1 c, fun j => (frozen?_setCell _ _ _ _).trans (h.zf j), h.l0, h.l1, h.l2⟩
theorem PBlock.dset2 {V : World} {g : Nat} {x : DBlock} (h : PBlock V g 0 x) (c : ByteArray) : PBlock (V.setCell ⟨g, 2, none⟩ (.string c)) g 0 ⟨x.kind, x.name, c⟩ := by
  have nk : ∀ j, j ≠ 2 → (⟨g, 2, none⟩ : Addr) ≠ ⟨g, j, none⟩ := fun j hj e => by injection e with _ e _; exact hj e.symm
  have k : ∀ j, j ≠ 2 → (V.setCell ⟨g, 2, none⟩ (.string c)).cell? ⟨g, j, none⟩ = V.cell? ⟨g, j, none⟩ := fun j hj => World.cell?_setCell_other _ _ _ _ (nk j hj)
  exact ⟨(k _ (by decide)).trans h.c0, (k _ (by decide)).trans h.c1, hit_cellD (by have := h.c2; rw [show (0 + 2 : Nat) = 2 from rfl] at this; rw [this]; rfl)⟩
theorem DB.set2 {n g r b : Nat} {x : DBlock} {w0 V : World} (h : DB n g r b x w0 V) (c : ByteArray) : DB n g r b ⟨x.kind, x.name, c⟩ w0 (V.setCell ⟨b, 2, none⟩ (.string c)) := by
  have hb : Below b V (V.setCell ⟨b, 2, none⟩ (.string c)) := (Below.refl _ _).setCell (p := ⟨b, 2, none⟩) (Nat.le_refl _) _
  have l0 := h.l0; have l1 := h.l1; have l2 := h.l2
  exact ⟨h.src.belowB hb (by omega), h.only.then (hb.mono (by omega)), h.box.belowB hb l2, h.pg.dset2 c, fun j => (frozen?_setCell _ _ _ _).trans (h.zf j), h.l0, h.l1, h.l2⟩
theorem nameL_ok {t : ByteArray} (h : t ∈ nameL) : nameB t = true := by
  unfold nameL at h
  simp at h
  rcases h with rfl | rfl | rfl | rfl <;> decide
set_option maxRecDepth 100000 in
set_option maxHeartbeats 8000000 in
theorem l29DrawOne_any (n g : Nat) (w : World) (hs : SrcD n g w) (hn : n ≤ 999999980000) :
    Calls Tryz.prog 45 #[.pointer (some ⟨g, 0, none⟩)] w fun e w' => ∃ x : DBlock, e = .returned (bAg x) ∧ x.kind ∈ kindL ∧ x.text.size ≤ 1000 ∧ x.name ∈ nameL ∧ SrcD (n + 250) g w' ∧ Only [g] w w' := by
  have hg := hs.lt
  obtain ⟨i0, hi, hz0, hz1, hz2⟩ := info_parts infoU8d
  have hmk : ∀ (W : World) (k : Nat), k < 3 → (Instr.makeSlice 22 (.int .i64 (399 + (k : Int))) (.int .i64 (399 + (k : Int)))).run Tryz.prog W = .ok (.slice (some ⟨W.heap.size, 0, none⟩) (399 + k) (399 + k)) (W.alloc (.cells (madeCells #[.int .u8 0] (399 + k)) 5)) := fun W k hk => by
    have h := run_make_rowN (P := Tryz.prog) 22 5 i0 _ Tryz.underlying22 hi hz0 .i64 .i64 (399 + k) (399 + k) (Nat.le_refl _) (by rw [hz2]; omega) (by omega) W
    rw [hz1, Nat.mul_one] at h
    exact h
  have hB1 : Below w.heap.size w (w.alloc (.cells #[.string ⟨#[]⟩, .string ⟨#[]⟩, .string ⟨#[]⟩] 57)) := (Below.refl _ _).alloc (Nat.le_refl _) _
  have hB2 : Below w.heap.size w ((w.alloc (.cells #[.string ⟨#[]⟩, .string ⟨#[]⟩, .string ⟨#[]⟩] 57)).alloc (.cells #[.string ⟨#[103, 97, 116, 101]⟩, .string ⟨#[110, 111, 116, 101]⟩, .string ⟨#[102, 97, 99, 101]⟩] 9)) := hB1.alloc hB1.size _
  go_enter Tryz.func45, Tryz.ntmps45
  go_wp2_with fail
  refine (text_any n g _ kindL [w.heap.size + 1] _ (hs.below hB2) (by omega) (slLit (w.alloc (.cells #[.string ⟨#[]⟩, .string ⟨#[]⟩, .string ⟨#[]⟩] 57)) 9 kindL _ rfl (by decide) (by decide) (by decide) _ _ (by simp) rfl) (by simp; omega) (by decide) (by decide)).mono ?_
  rintro e w1 ⟨t1, ht1, rfl, hs1, ho1⟩
  have hbx : Bx3 w1 w.heap.size := ((Bx3.new w _).belowB ((Below.refl _ _).alloc (Nat.le_refl _) _) (by simp)).keep (ho1.block w.heap.size (by simp; omega) (by simp; omega))
  have hr1 : w.heap.size < w1.heap.size := by have := ho1.size; simp at this; omega
  have hO1 : Only [g] w w1 := Only.later hB2 ho1
  have hBA : Below w1.heap.size w1 (w1.alloc (.cells #[.string t1, .string ⟨#[]⟩, .string ⟨#[]⟩] 57)) := (Below.refl _ _).alloc (Nat.le_refl _) _
  have hD : DB (n + 2) g w.heap.size w1.heap.size ⟨t1, ⟨#[]⟩, ⟨#[]⟩⟩ w (w1.alloc (.cells #[.string t1, .string ⟨#[]⟩, .string ⟨#[]⟩] 57)) :=
    ⟨hs1.below hBA, hO1.then (hBA.mono hO1.size), hbx.belowB hBA hr1, PBlock.box w1 ⟨t1, ⟨#[]⟩, ⟨#[]⟩⟩ _, fun j => World.frozen?_alloc_at _ _ _ _ rfl, hg, Nat.le_refl _, hr1⟩
  clear hbx hBA hs1 ho1 hO1 hB1 hB2
  have hD2 := hD.grow ((Below.refl _ _).alloc (Nat.le_refl _) (.cells #[.string ⟨#[97]⟩, .string ⟨#[98]⟩, .string ⟨#[99]⟩, .string ⟨#[100]⟩] 9))
  clear hD
  go_wp2_with fail
  refine (text_any _ g _ nameL [w1.heap.size + 1] _ hD2.src (by omega) (slLit (w1.alloc (.cells #[.string t1, .string ⟨#[]⟩, .string ⟨#[]⟩] 57)) 9 nameL _ rfl (by decide) (by decide) (by decide) _ _ (by simp) rfl) (by simp; omega) (by decide) (by decide)).mono ?_
  rintro e w2 ⟨t2, ht2, rfl, hs2, ho2⟩
  have hD := hD2.next ho2 hs2
  clear hD2 ho2 hs2
  generalize w1.heap.size = b at *
  have c1 : w2.cell? ⟨b, 1, none⟩ = some (.string ⟨#[]⟩) := hD.pg.c1
  have z1_ := hD.zf 1
  have hD2 := (hD.set1 t2).grow ((Below.refl _ _).alloc (Nat.le_refl _) (.cells #[.string ⟨#[]⟩, .string ⟨#[120]⟩, .string ⟨#[97, 32, 98, 32, 99]⟩, .string ⟨#[49, 50, 32, 51, 52]⟩, .string ⟨#[111, 97, 107, 47, 52, 48]⟩] 9))
  have hgw2 : g < w2.heap.size := hD.src.lt
  clear hD
  go_wp2_with fail
  refine (text_any _ g _ textL [w2.heap.size] _ hD2.src (by omega) (slLit (w2.setCell ⟨b, 1, none⟩ (.string t2)) 9 textL _ rfl (by decide) (by decide) (by decide) _ _ (by simp) rfl) (by simp; omega) (by decide) (by decide)).mono ?_
  rintro e w3 ⟨t3, ht3, rfl, hs3, ho3⟩
  have hD3 := hD2.next ho3 hs3
  have ht30 : t3.size ≤ 6 := by
    have h : ∀ x ∈ textL, x.size ≤ 6 := by decide
    exact h _ ht3
  have HT : Hid (t3.size ≤ 1000) := by show _ ≤ _; omega
  clear hD2 ho3 hs3 c1 z1_ ht3
  have c2 : w3.cell? ⟨b, 2, none⟩ = some (.string ⟨#[]⟩) := hD3.pg.c2
  have z2_ := hD3.zf 2
  have hD := hD3.set2 t3
  clear hD3
  go_wp2_with fail
  generalize w3.setCell ⟨b, 2, none⟩ (.string t3) = V3 at *
  refine (one_any _ g 4 _ hD.src (by omega) (by omega)).mono ?_
  rintro e W ⟨o4, rfl, hs4, ho4⟩
  have hDw := hD.next ho4 hs4
  clear hD hs4 ho4 c2 z2_
  have hD := hDw
  clear hDw
  rename_i K6 hK6 KA hKA KB hKB
  have TAIL6 : ∀ {u1 u4 u5 u6 u7 u8 u9 u10 u11 u12 u13 u14 u15 u16 u17 u18 u19 u20 u21 u22 u23 u24 u25 u26 u27 u28 u29 u30 u31 u32 u33 u34 u35 u36 u37 u38 u39 u40 u41 u42 u43 u44 u45 u46 : Value} {V : World} {T : ByteArray}, DB (n + 120) g w.heap.size b ⟨t1, t2, T⟩ w V → Hid (T.size ≤ 1000) → K6 ⟨#[.pointer (some ⟨g, 0, none⟩), u1, .pointer (some ⟨w.heap.size, 0, none⟩), .pointer (some ⟨b, 0, none⟩), u4, u5, u6, u7, u8, u9, u10, u11, u12, u13, u14, u15, u16, u17, u18, u19, u20, u21, u22, u23, u24, u25, u26, u27, u28, u29, u30, u31, u32, u33, u34, u35, u36, u37, u38, u39, u40, u41, u42, u43, u44, u45, u46], []⟩ V := by
    intro u1 u4 u5 u6 u7 u8 u9 u10 u11 u12 u13 u14 u15 u16 u17 u18 u19 u20 u21 u22 u23 u24 u25 u26 u27 u28 u29 u30 u31 u32 u33 u34 u35 u36 u37 u38 u39 u40 u41 u42 u43 u44 u45 u46 V T hD HT
    refine hK6 _ _ ?_
    clear hKA hKB hK6
    obtain ⟨x0, x1, x2⟩ := id hD.pg
    by_cases hk : t1 = gateKd
    · have e1 : (t1.toList == [103, 97, 116, 101]) = true := by rw [hk, beq_iff_eq]; unfold gateKd; simp [ByteArray.toList_eq]
      have hk' := Lib.hid hk
      clear hk
      go_wp2_with fail
      refine (one_any _ g 2 _ hD.src (by omega) (by omega)).mono ?_
      rintro e X ⟨o2, rfl, hsx, hox⟩
      have hD' := hD.next hox hsx
      clear hD hsx hox x0 x1 x2
      have hD := hD'
      clear hD'
      cases o2
      · go_wp2_with fail
        refine (one_any _ g 24 _ hD.src (by omega) (by omega)).mono ?_
        rintro e Y ⟨o24, rfl, hsy, hoy⟩
        have hD' := hD.next hoy hsy
        clear hD hsy hoy
        have hD := hD'
        clear hD'
        cases o24
        · skip
          have hDz := hD
          obtain ⟨d0, d1, d2, z0, z1, z2⟩ := hDz.box
          obtain ⟨x0, x1, x2⟩ := id hDz.pg
          go_wp2
          exact bodyPost_ret (v := bAg ⟨t1, t2, T⟩) (by simp [bAg, results, hit_cellD, d0, d1, d2, Tryz.results45, go_sem]) rfl ⟨⟨t1, t2, T⟩, rfl, ht1, HT.out, ht2, ((hDz.fin (by (repeat (refine Below.setCell ?_ (by exact Nat.le_refl _) _)); exact Below.refl _ _)).1).mono (by omega), (hDz.fin (by (repeat (refine Below.setCell ?_ (by exact Nat.le_refl _) _)); exact Below.refl _ _)).2⟩
        · have c2 : Y.cell? ⟨b, 2, none⟩ = some (.string T) := hD.pg.c2
          have z2_ := hD.zf 2
          go_wp2_with fail
          refine (pick_any _ g 3 _ hD.src (by omega) (by omega)).mono ?_
          rintro e Z ⟨q, rfl, ⟨hq0, hq1, _⟩, hsz, hoz⟩
          have hq2 := hq1 (by omega)
          have hD' := hD.next hoz hsz
          clear hD hsz hoz c2 z2_ hq1
          have hD := hD'
          clear hD'
          obtain ⟨m, rfl⟩ : ∃ m : Nat, q = m := ⟨q.toNat, by omega⟩
          have e39 : wrap64 (399 + (m : Int)) = 399 + (m : Int) := w64_inD _ (by omega)
          have hm3 : m < 3 := by omega
          have hcv := zerosText Z (399 + m) (by omega)
          have HT : Hid ((strOfNums (List.replicate (399 + m) 0)).size ≤ 1000) := by show _ ≤ _; rw [strOfNums_size, List.length_replicate]; omega
          have hD' := (hD.grow ((Below.refl _ _).alloc (Nat.le_refl _) (.cells (madeCells #[.int .u8 0] (399 + m)) 5))).set2 (strOfNums (List.replicate (399 + m) 0))
          have c2 : (Z.alloc (.cells (madeCells #[.int .u8 0] (399 + m)) 5)).cell? ⟨b, 2, none⟩ = some (.string T) := ((hD.grow ((Below.refl _ _).alloc (Nat.le_refl _) (.cells (madeCells #[.int .u8 0] (399 + m)) 5))).pg.c2)
          have z2_ := (hD.grow ((Below.refl _ _).alloc (Nat.le_refl _) (.cells (madeCells #[.int .u8 0] (399 + m)) 5))).zf 2
          clear hD
          generalize strOfNums (List.replicate (399 + m) 0) = zs at *
          have hDz := hD'
          obtain ⟨d0, d1, d2, z0, z1, z2⟩ := hDz.box
          obtain ⟨x0, x1, x2⟩ := id hDz.pg
          go_wp2
          exact bodyPost_ret (v := bAg ⟨t1, t2, zs⟩) (by simp [bAg, results, hit_cellD, d0, d1, d2, Tryz.results45, go_sem]) rfl ⟨⟨t1, t2, zs⟩, rfl, ht1, HT.out, ht2, ((hDz.fin (by (repeat (refine Below.setCell ?_ (by exact Nat.le_refl _) _)); exact Below.refl _ _)).1).mono (by omega), (hDz.fin (by (repeat (refine Below.setCell ?_ (by exact Nat.le_refl _) _)); exact Below.refl _ _)).2⟩
      · have x1 : X.cell? ⟨b, 1, none⟩ = some (.string t2) := hD.pg.c1
        go_wp2_with fail
        refine (l21DrawOne_any _ g t2 _ hD.src (by omega)).mono ?_
        rintro e G ⟨ga, he, hga, hsg, hog⟩
        unfold gAg at he
        subst he
        have hgv := hga.1 (nameL_ok ht2)
        have hD' := hD.next hog hsg
        clear hD hsg hog x1 hga
        have hD := hD'
        clear hD'
        have hpa := PGate.box G ga 43
        have hD' := hD.grow ((Below.refl _ _).alloc (Nat.le_refl _) (.cells #[.string ga.id, .int .i64 ga.shut, .int .i64 ga.open_, .int .i64 ga.hold, .bool ga.shuts, .int .i64 ga.calm] 43))
        clear hD
        have hD := hD'
        clear hD'
        go_wp2_with fail
        refine (l21Text_any _ _ ga _ hpa hgv).mono ?_
        rintro e H ⟨rfl, hbH⟩
        have hD' := hD.grow hbH
        clear hD hpa hbH
        have c2 : H.cell? ⟨b, 2, none⟩ = some (.string T) := hD'.pg.c2
        have z2_ := hD'.zf 2
        have hD := hD'.set2 (gtS ga)
        clear hD'
        have HT : Hid ((gtS ga).size ≤ 1000) := by have := gtS_size hgv; show _ ≤ _; omega
        generalize gtS ga = tg at *
        clear hgv
        go_wp2_with fail
        generalize H.setCell ⟨b, 2, none⟩ (.string tg) = H2 at *
        refine (one_any _ g 24 _ hD.src (by omega) (by omega)).mono ?_
        rintro e Y ⟨o24, rfl, hsy, hoy⟩
        have hD' := hD.next hoy hsy
        clear hD hsy hoy
        have hD := hD'
        clear hD'
        cases o24
        · skip
          have hDz := hD
          obtain ⟨d0, d1, d2, z0, z1, z2⟩ := hDz.box
          obtain ⟨x0, x1, x2⟩ := id hDz.pg
          go_wp2
          exact bodyPost_ret (v := bAg ⟨t1, t2, tg⟩) (by simp [bAg, results, hit_cellD, d0, d1, d2, Tryz.results45, go_sem]) rfl ⟨⟨t1, t2, tg⟩, rfl, ht1, HT.out, ht2, ((hDz.fin (by (repeat (refine Below.setCell ?_ (by exact Nat.le_refl _) _)); exact Below.refl _ _)).1).mono (by omega), (hDz.fin (by (repeat (refine Below.setCell ?_ (by exact Nat.le_refl _) _)); exact Below.refl _ _)).2⟩
        · have c2 : Y.cell? ⟨b, 2, none⟩ = some (.string tg) := hD.pg.c2
          have z2_ := hD.zf 2
          go_wp2_with fail
          refine (pick_any _ g 3 _ hD.src (by omega) (by omega)).mono ?_
          rintro e Z ⟨q, rfl, ⟨hq0, hq1, _⟩, hsz, hoz⟩
          have hq2 := hq1 (by omega)
          have hD' := hD.next hoz hsz
          clear hD hsz hoz c2 z2_ hq1
          have hD := hD'
          clear hD'
          obtain ⟨m, rfl⟩ : ∃ m : Nat, q = m := ⟨q.toNat, by omega⟩
          have e39 : wrap64 (399 + (m : Int)) = 399 + (m : Int) := w64_inD _ (by omega)
          have hm3 : m < 3 := by omega
          have hcv := zerosText Z (399 + m) (by omega)
          have HT : Hid ((strOfNums (List.replicate (399 + m) 0)).size ≤ 1000) := by show _ ≤ _; rw [strOfNums_size, List.length_replicate]; omega
          have hD' := (hD.grow ((Below.refl _ _).alloc (Nat.le_refl _) (.cells (madeCells #[.int .u8 0] (399 + m)) 5))).set2 (strOfNums (List.replicate (399 + m) 0))
          have c2 : (Z.alloc (.cells (madeCells #[.int .u8 0] (399 + m)) 5)).cell? ⟨b, 2, none⟩ = some (.string tg) := ((hD.grow ((Below.refl _ _).alloc (Nat.le_refl _) (.cells (madeCells #[.int .u8 0] (399 + m)) 5))).pg.c2)
          have z2_ := (hD.grow ((Below.refl _ _).alloc (Nat.le_refl _) (.cells (madeCells #[.int .u8 0] (399 + m)) 5))).zf 2
          clear hD
          generalize strOfNums (List.replicate (399 + m) 0) = zs at *
          have hDz := hD'
          obtain ⟨d0, d1, d2, z0, z1, z2⟩ := hDz.box
          obtain ⟨x0, x1, x2⟩ := id hDz.pg
          go_wp2
          exact bodyPost_ret (v := bAg ⟨t1, t2, zs⟩) (by simp [bAg, results, hit_cellD, d0, d1, d2, Tryz.results45, go_sem]) rfl ⟨⟨t1, t2, zs⟩, rfl, ht1, HT.out, ht2, ((hDz.fin (by (repeat (refine Below.setCell ?_ (by exact Nat.le_refl _) _)); exact Below.refl _ _)).1).mono (by omega), (hDz.fin (by (repeat (refine Below.setCell ?_ (by exact Nat.le_refl _) _)); exact Below.refl _ _)).2⟩
    · have e1 : (t1.toList == [103, 97, 116, 101]) = false := by
        rw [beq_eq_false_iff_ne]; intro e
        exact hk (bytes_toList_inj (e.trans (by unfold gateKd; simp [ByteArray.toList_eq])))
      clear hk
      go_wp2_with fail
      clear x0 x1 x2
      refine (one_any _ g 24 _ hD.src (by omega) (by omega)).mono ?_
      rintro e Y ⟨o24, rfl, hsy, hoy⟩
      have hD' := hD.next hoy hsy
      clear hD hsy hoy
      have hD := hD'
      clear hD'
      cases o24
      · skip
        have hDz := hD
        obtain ⟨d0, d1, d2, z0, z1, z2⟩ := hDz.box
        obtain ⟨x0, x1, x2⟩ := id hDz.pg
        go_wp2
        exact bodyPost_ret (v := bAg ⟨t1, t2, T⟩) (by simp [bAg, results, hit_cellD, d0, d1, d2, Tryz.results45, go_sem]) rfl ⟨⟨t1, t2, T⟩, rfl, ht1, HT.out, ht2, ((hDz.fin (by (repeat (refine Below.setCell ?_ (by exact Nat.le_refl _) _)); exact Below.refl _ _)).1).mono (by omega), (hDz.fin (by (repeat (refine Below.setCell ?_ (by exact Nat.le_refl _) _)); exact Below.refl _ _)).2⟩
      · have c2 : Y.cell? ⟨b, 2, none⟩ = some (.string T) := hD.pg.c2
        have z2_ := hD.zf 2
        go_wp2_with fail
        refine (pick_any _ g 3 _ hD.src (by omega) (by omega)).mono ?_
        rintro e Z ⟨q, rfl, ⟨hq0, hq1, _⟩, hsz, hoz⟩
        have hq2 := hq1 (by omega)
        have hD' := hD.next hoz hsz
        clear hD hsz hoz c2 z2_ hq1
        have hD := hD'
        clear hD'
        obtain ⟨m, rfl⟩ : ∃ m : Nat, q = m := ⟨q.toNat, by omega⟩
        have e39 : wrap64 (399 + (m : Int)) = 399 + (m : Int) := w64_inD _ (by omega)
        have hm3 : m < 3 := by omega
        have hcv := zerosText Z (399 + m) (by omega)
        have HT : Hid ((strOfNums (List.replicate (399 + m) 0)).size ≤ 1000) := by show _ ≤ _; rw [strOfNums_size, List.length_replicate]; omega
        have hD' := (hD.grow ((Below.refl _ _).alloc (Nat.le_refl _) (.cells (madeCells #[.int .u8 0] (399 + m)) 5))).set2 (strOfNums (List.replicate (399 + m) 0))
        have c2 : (Z.alloc (.cells (madeCells #[.int .u8 0] (399 + m)) 5)).cell? ⟨b, 2, none⟩ = some (.string T) := ((hD.grow ((Below.refl _ _).alloc (Nat.le_refl _) (.cells (madeCells #[.int .u8 0] (399 + m)) 5))).pg.c2)
        have z2_ := (hD.grow ((Below.refl _ _).alloc (Nat.le_refl _) (.cells (madeCells #[.int .u8 0] (399 + m)) 5))).zf 2
        clear hD
        generalize strOfNums (List.replicate (399 + m) 0) = zs at *
        have hDz := hD'
        obtain ⟨d0, d1, d2, z0, z1, z2⟩ := hDz.box
        obtain ⟨x0, x1, x2⟩ := id hDz.pg
        go_wp2
        exact bodyPost_ret (v := bAg ⟨t1, t2, zs⟩) (by simp [bAg, results, hit_cellD, d0, d1, d2, Tryz.results45, go_sem]) rfl ⟨⟨t1, t2, zs⟩, rfl, ht1, HT.out, ht2, ((hDz.fin (by (repeat (refine Below.setCell ?_ (by exact Nat.le_refl _) _)); exact Below.refl _ _)).1).mono (by omega), (hDz.fin (by (repeat (refine Below.setCell ?_ (by exact Nat.le_refl _) _)); exact Below.refl _ _)).2⟩
  clear hK6
  cases o4
  · go_wp2
    exact TAIL6 (hD.mono (by omega)) HT
  · go_wp2
    have hDd := hD.grow (Below.drew (Below.refl _ _))
    clear hD HT
    refine wp_region_fork (C := fun _ => True) [0, 2] 1 [3, 4, 5, 6] [false, true, true, false] 3 [1, 4, 5, 6] [false, true, true, false] (by kernel_rfl) (by kernel_rfl) (by kernel_rfl) (fun _ _ d _ _ h => by cases d <;> exact h) trivial ?_
    simp only [List.map_cons, List.map_nil, List.getD_cons_zero, List.getD_cons_succ]
    have hS0 : Below (W.heap.size) W W.drew := Below.drew (Below.refl _ _)
    refine wpFork_pure (by kernel_rfl) (fun K hK => ?_)
    go_big_quiet_op
    refine hK _ ?_; clear hK K
    refine wpFork_pure (by kernel_rfl) (fun K hK => ?_)
    go_big_quiet_op
    refine hK _ ?_; clear hK K
    refine wpFork_split ?_ ?_
    · skip
      refine wpMix_act (by kernel_rfl) (fun K hK => ?_)
      have x2l : W.drew.cell? ⟨b, 2, none⟩ = some (.string t3) := hDd.pg.c2
      try have x2m : u.cell? ⟨b, 2, none⟩ = some (.string t3) := hD2.pg.c2
      go_big_op
      try simp only [Act.put, List.setIfInBounds_toArray, List.set_cons_zero, List.set_cons_succ]
      refine hK _ _ trivial ?_
      clear hK K
      refine wpMix_act (by kernel_rfl) (fun K hK => ?_)
      go_big_op
      refine (word_any _ g 9 _ hDd.src (by omega) (by omega)).mono ?_
      rintro e u ⟨wd, rfl, hwd, hs2, ho2⟩
      have hD2 := hDd.next ho2 hs2
      try simp only [Act.put, List.setIfInBounds_toArray, List.set_cons_zero, List.set_cons_succ]
      refine hK _ _ trivial ?_
      clear hK K
      refine wpMix_pure (by kernel_rfl) (fun K hK => ?_)
      go_big_quiet_op
      refine hK _ ?_; clear hK K
      refine wpMix_pure (by kernel_rfl) (fun K hK => ?_)
      go_big_quiet_op
      refine hK _ ?_; clear hK K
      refine wpMix_act (by kernel_rfl) (fun K hK => ?_)
      have x2 : u.cell? ⟨b, 2, none⟩ = some (.string t3) := hD2.pg.c2
      have z2_ := hD2.zf 2
      go_big_op
      have hD := hD2.set2 (t3 ++ wd)
      try simp only [Act.put, List.setIfInBounds_toArray, List.set_cons_zero, List.set_cons_succ]
      refine hK _ _ trivial ?_
      clear hK K
      refine wpMix_nil ?_
      have HT : Hid ((t3 ++ wd).size ≤ 1000) := by show _ ≤ _; rw [ByteArray.size_append]; omega
      generalize t3 ++ wd = t4 at *
      generalize u.setCell ⟨b, 2, none⟩ (.string t4) = U at *
      go_wp2
      exact TAIL6 (hD.mono (by omega)) HT
    · skip
      refine wpMix_act (by kernel_rfl) (fun K hK => ?_)
      go_big_op
      refine (word_any _ g 9 _ hDd.src (by omega) (by omega)).mono ?_
      rintro e u ⟨wd, rfl, hwd, hs2, ho2⟩
      have hD2 := hDd.next ho2 hs2
      try simp only [Act.put, List.setIfInBounds_toArray, List.set_cons_zero, List.set_cons_succ]
      refine hK _ _ trivial ?_
      clear hK K
      refine wpMix_act (by kernel_rfl) (fun K hK => ?_)
      have x2l : W.drew.cell? ⟨b, 2, none⟩ = some (.string t3) := hDd.pg.c2
      try have x2m : u.cell? ⟨b, 2, none⟩ = some (.string t3) := hD2.pg.c2
      go_big_op
      try simp only [Act.put, List.setIfInBounds_toArray, List.set_cons_zero, List.set_cons_succ]
      refine hK _ _ trivial ?_
      clear hK K
      refine wpMix_pure (by kernel_rfl) (fun K hK => ?_)
      go_big_quiet_op
      refine hK _ ?_; clear hK K
      refine wpMix_pure (by kernel_rfl) (fun K hK => ?_)
      go_big_quiet_op
      refine hK _ ?_; clear hK K
      refine wpMix_act (by kernel_rfl) (fun K hK => ?_)
      have x2 : u.cell? ⟨b, 2, none⟩ = some (.string t3) := hD2.pg.c2
      have z2_ := hD2.zf 2
      go_big_op
      have hD := hD2.set2 (t3 ++ wd)
      try simp only [Act.put, List.setIfInBounds_toArray, List.set_cons_zero, List.set_cons_succ]
      refine hK _ _ trivial ?_
      clear hK K
      refine wpMix_nil ?_
      have HT : Hid ((t3 ++ wd).size ≤ 1000) := by show _ ≤ _; rw [ByteArray.size_append]; omega
      generalize t3 ++ wd = t4 at *
      generalize u.setCell ⟨b, 2, none⟩ (.string t4) = U at *
      go_wp2
      exact TAIL6 (hD.mono (by omega)) HT

end Go.Proofs.YtmhefhapighloaaGreatDoor

namespace Go.Proofs.YtmhefhapighloaaGreatDoor
open Go.RowKit
set_option linter.unusedVariables false

theorem dBlocks_of {xs : List DBlock} (hb : ∀ x ∈ xs, blockB x = true) (ho : Ordered xs) (hl : xs.length ≤ 32) : blocksB xs = true := by
  unfold blocksB
  rw [decide_eq_true hl, Bool.and_true, allIdx_true]
  intro i hi
  unfold bOk
  rw [List.getD_eq_getElem?_getD, List.getElem?_eq_getElem hi, Option.getD_some, hb _ (List.getElem_mem hi), Bool.true_and]
  rcases Nat.eq_zero_or_pos i with rfl | hp
  · rfl
  · obtain ⟨m, rfl⟩ : ∃ m, i = m + 1 := ⟨i - 1, by omega⟩
    have h1 := ho m hi
    rw [List.getD_eq_getElem?_getD, show m + 1 - 1 = m from rfl, List.getElem?_eq_getElem (by omega : m < xs.length), Option.getD_some, h1, Bool.or_true]
theorem dPut_mem {xs : List DBlock} {t x : DBlock} (h : x ∈ putF xs t) : x ∈ xs ∨ x = t := by
  unfold putF at h
  rw [List.mem_append, List.mem_cons] at h
  rcases h with h | h | h
  · exact .inl (List.mem_of_mem_take h)
  · exact .inr h
  · exact .inl (List.mem_of_mem_drop h)
theorem dBlocks_at {xs : List DBlock} (h : blocksB xs = true) {x : DBlock} (hx : x ∈ xs) : blockB x = true := by
  obtain ⟨k, hk, rfl⟩ := List.getElem_of_mem hx
  exact blocksB_one h hk
theorem dBlocks_put {xs : List DBlock} {t : DBlock} (h : blocksB xs = true) (ht : blockB t = true) (hl : (putF xs t).length ≤ 32) : blocksB (putF xs t) = true := by
  refine dBlocks_of (fun x hx => ?_) (putF_ordered (blocksB_ordered h) t) hl
  rcases dPut_mem hx with hx | rfl
  · exact dBlocks_at h hx
  · exact ht
/-- A list that l29Draw may draw. -/
def drawOk (xs : List DBlock) : Prop := blocksB xs = true ∧ (∀ x ∈ xs, x.kind ∈ kindL)
theorem drawOk_nil : drawOk [] := ⟨rfl, fun x hx => by cases hx⟩
theorem pbC_zero {xs : List DBlock} {t : DBlock} (h : pbC xs t = 0) : pbOk xs t = true ∧ (putF xs t).length ≤ 32 ∧ pbF xs t = putF xs t := by
  unfold pbC at h
  split at h
  · rename_i h1
    split at h
    · rename_i h2
      refine ⟨h1, h2, ?_⟩
      unfold pbF; rw [h1, decide_eq_true h2]; rfl
    · cases h
  · cases h
theorem drawOk_put {xs : List DBlock} {t : DBlock} (h : drawOk xs) (hk : t.kind ∈ kindL) (hc : pbC xs t = 0) : drawOk (pbF xs t) ∧ (pbF xs t).length ≤ xs.length + 1 := by
  obtain ⟨h1, h2, h3⟩ := pbC_zero hc
  rw [h3]
  unfold pbOk at h1
  rw [Bool.and_eq_true] at h1
  refine ⟨⟨dBlocks_put h1.1 h1.2 h2, fun x hx => ?_⟩, putF_len1⟩
  rcases dPut_mem hx with hx | rfl
  · exact h.2 x hx
  · exact hk
theorem kindL_size {k : ByteArray} (h : k ∈ kindL) : k.size ≤ 10 := by
  have h1 : ∀ x ∈ kindL, x.size ≤ 10 := by decide
  exact h1 _ h
theorem nameL_size {k : ByteArray} (h : k ∈ nameL) : k.size ≤ 10 := by
  have h1 : ∀ x ∈ nameL, x.size ≤ 10 := by decide
  exact h1 _ h
set_option maxRecDepth 100000 in
set_option maxHeartbeats 2000000 in
theorem l29Draw_any (n g : Nat) (w : World) (hs : SrcD n g w) (hn : n ≤ 999999970000) :
    Calls Tryz.prog 19 #[.pointer (some ⟨g, 0, none⟩)] w fun e w' => ∃ (v : Value) (xs : List DBlock) (fp : List Nat), e = .returned v ∧ Sl fBlock.cod w' v xs fp ∧ (∀ b ∈ fp, w.heap.size ≤ b) ∧ fp.Nodup ∧ drawOk xs ∧ xs.length ≤ 5 ∧ Only [g] w w' := by
  have hg := hs.lt
  have hB0 : Below w.heap.size w (w.alloc (.cells #[] 57)) := (Below.refl _ _).alloc (Nat.le_refl _) _
  go_enter Tryz.func19, Tryz.ntmps19
  go_wp2_with fail
  refine (pick_any n g 6 _ (hs.below hB0) (by omega) (by omega)).mono ?_
  rintro e w1 ⟨q, rfl, ⟨hq0, hq1, _⟩, hs1, ho1⟩
  have hq2 := hq1 (by omega)
  obtain ⟨m, rfl⟩ : ∃ m : Nat, q = m := ⟨q.toNat, by omega⟩
  have hO1 : Only [g] w w1 := Only.later hB0 ho1
  go_wp2
  go_loopw [3, 4] (fun v k wr => ∃ (j : Nat) (xs : List DBlock) (fp : List Nat), k = .int .i64 j ∧ j ≤ 5 ∧ j + xs.length ≤ 5 ∧ Sl fBlock.cod wr v xs fp ∧ (∀ b ∈ fp, w.heap.size ≤ b) ∧ fp.Nodup ∧ drawOk xs ∧ SrcD (n + 2 + 250 * (5 - j)) g wr ∧ Only [g] w wr) (fun _ k _ => (intOf k).toNat)
  case atStart => exact ⟨m, [], [], rfl, by omega, by rw [List.length_nil]; omega, ⟨_, 0, rfl, by simp, by simp [maxLen], .inl ⟨rfl, rfl⟩⟩, by simp, by simp, drawOk_nil, hs1.mono (by omega), hO1⟩
  case round =>
    obtain ⟨j, xs, fp, rfl, hj5, hj, hsl, hlo, hnd, hdr, hsr, hor⟩ := hrel
    cases j with
    | zero =>
      go_wp2
      go_ret
      exact ⟨_, xs, fp, rfl, hsl, hlo, hnd, hdr, by omega, hor⟩
    | succ j =>
      go_wp2_with fail
      refine (l29DrawOne_any _ g _ hsr (by omega)).mono ?_
      rintro e w2 ⟨x, he, hkx, htx, hnx, hs2, ho2⟩
      unfold bAg at he
      subst he
      have hor2 := hor.trans ho2
      have hsl2 := hsl.only ho2 (fun b hb => by have := hlo b hb; simp; omega)
      have hokx : fBlock.ok x := ⟨by have := kindL_size hkx; show _ ≤ _; omega, by have := nameL_size hnx; show _ ≤ _; omega, by show _ ≤ _; omega⟩
      clear hsl hsr
      go_wp2_with fail
      refine (specPutBlock_any _ xs fp x _ hsl2 hokx).mono ?_
      rintro e w3 ⟨v3, rfl, ⟨⟨fp3, hsl3, hlo3, hnd3⟩, hb3⟩⟩
      have hor3 := hor2.then (hb3.mono hor2.size)
      have hs3 := hs2.below hb3
      by_cases hc : pbC xs x = 0
      · obtain ⟨hd3, hl3⟩ := drawOk_put hdr hkx hc
        have e1 : (pbC xs x == 0) = true := by rw [hc]; rfl
        have hsz2 := hor2.size
        generalize pbF xs x = ys at *
        generalize pbC xs x = cc at *
        clear hc hsl2
        go_wp2
        go_roundw
        case rel => exact ⟨j, ys, fp3, by go_num, by omega, by omega, hsl3, fun b hb => Nat.le_trans hsz2 (hlo3 b hb), hnd3, hd3, hs3.mono (by omega), hor3⟩
        case measure => simp [intOf]
      · have e1 : (pbC xs x == 0) = false := by rw [beq_eq_false_iff_ne]; exact hc
        have hsl4 := hsl2.below' hb3
        generalize pbC xs x = cc at *
        clear hc hsl2 hsl3
        go_wp2
        go_roundw
        case rel => exact ⟨j, xs, fp, by go_num, by omega, by omega, hsl4, hlo, hnd, hdr, hs3.mono (by omega), hor3⟩
        case measure => simp [intOf]
set_option maxRecDepth 100000 in
set_option maxHeartbeats 2000000 in
theorem l00From_any (v : Value) (xs : List UInt8) (fp : List Nat) (w : World) (hx : Sl fByte.cod w v xs fp) :
    Calls Tryz.prog 18 #[v] w fun e w' => e = .returned (.pointer (some ⟨w.heap.size, 0, none⟩)) ∧ SrcD 0 w.heap.size w' ∧ Below w.heap.size w w' := by
  obtain ⟨A, cap, rfl, hlen, hcap⟩ := hx.form
  have hB : ∀ T, Below w.heap.size w (w.alloc (.cells #[.slice A xs.length cap, .int .i64 0, .int .u64 0] T)) := fun T => (Below.refl _ _).alloc (Nat.le_refl _) _
  have hlt := hx.lt
  go_enter Tryz.func18, Tryz.ntmps18
  go_wp2
  go_ret
  exact ⟨rfl, ⟨_, xs, fp, 0, 0, by simp, by simp, by simp, World.frozen?_alloc_at _ _ _ _ rfl, World.frozen?_alloc_at _ _ _ _ rfl, Nat.le_refl _, hx.below' (hB _), hlt⟩, hB _⟩
set_option maxRecDepth 100000 in
set_option maxHeartbeats 2000000 in
theorem R8Blocks_any (v : Value) (xs : List UInt8) (fp : List Nat) (w : World) (hx : Sl fByte.cod w v xs fp) :
    Calls Tryz.prog 5 #[v] w fun e w' => ∃ (y : Value) (ys : List DBlock), e = .returned y ∧ drawOk ys ∧ ys.length ≤ 5 ∧ New fBlock.cod w y ys w' := by
  go_enter Tryz.func5, Tryz.ntmps5
  go_wp2_with fail
  refine (l00From_any _ _ _ _ hx).mono ?_
  rintro e w1 ⟨rfl, hs1, hb1⟩
  go_wp2_with fail
  refine (l29Draw_any _ _ _ hs1 (by omega)).mono ?_
  rintro e w2 ⟨y, ys, fq, rfl, hsl, hlo, hnd, hdr, hl5, ho⟩
  go_wp2
  go_ret
  have hsz := hb1.size
  exact ⟨_, ys, rfl, hdr, hl5, ⟨⟨fq, hsl, fun b hb => Nat.le_trans hsz (hlo b hb), hnd⟩, hb1.trans (ho.below hsz (by simp))⟩⟩

end Go.Proofs.YtmhefhapighloaaGreatDoor

namespace Go.Proofs.YtmhefhapighloaaGreatDoor
open Go.RowKit
set_option linter.unusedVariables false

theorem xor_inj {a b c : Nat} (h : a ^^^ c = b ^^^ c) : a = b := by
  have := congrArg (fun t => t ^^^ c) h
  simpa [Nat.xor_assoc, Nat.xor_self] using this
theorem crcBit_inj {x y : Nat} (hx : x < 65536) (hy : y < 65536) (h : crcBit x = crcBit y) : x = y := by
  have e : ∀ z, z < 65536 → 65535 < 2 * z → 2 * z &&& 65535 = 2 * z - 65536 := fun z h1 h2 => by
    rw [show 65535 = 2 ^ 16 - 1 from rfl, Nat.and_two_pow_sub_one_eq_mod]; omega
  have par : ∀ z, z < 65536 → 65535 < 2 * z → ((2 * z &&& 65535) ^^^ 4129) % 2 = 1 := fun z h1 h2 => by
    rw [Nat.xor_mod_two_eq_one, e z h1 h2]; omega
  unfold crcBit at h
  by_cases h1 : 65535 < 2 * x
  · rw [if_pos h1] at h
    by_cases h2 : 65535 < 2 * y
    · rw [if_pos h2] at h
      have h3 := xor_inj h
      rw [e x hx h1, e y hy h2] at h3
      omega
    · rw [if_neg h2] at h
      have h3 := par x hx h1
      rw [h] at h3
      omega
  · rw [if_neg h1] at h
    by_cases h2 : 65535 < 2 * y
    · rw [if_pos h2] at h
      have h3 := par y hy h2
      rw [← h] at h3
      omega
    · rw [if_neg h2] at h
      omega
theorem crcIt_inj : ∀ (k : Nat) {x y : Nat}, x < 65536 → y < 65536 → crcIt k x = crcIt k y → x = y
  | 0, _, _, _, _, h => h
  | k + 1, _, _, hx, hy, h => crcIt_inj k hx hy (crcBit_inj (crcIt_lt hx k) (crcIt_lt hy k) h)
theorem crcL_cons (b : UInt8) (l : List UInt8) (x : Nat) : crcL (b :: l) x = crcL l (crcIt 8 (crcIn x b)) := by unfold crcL; rw [List.foldl_cons]
theorem crcL_append (p q : List UInt8) (x : Nat) : crcL (p ++ q) x = crcL q (crcL p x) := by unfold crcL; rw [List.foldl_append]
theorem crcL_inj (l : List UInt8) : ∀ {x y : Nat}, x < 65536 → y < 65536 → crcL l x = crcL l y → x = y := by
  induction l with
  | nil =>
    intro x y _ _ h
    unfold crcL at h
    rw [List.foldl_nil, List.foldl_nil] at h
    exact h
  | cons b l ih =>
    intro x y hx hy h
    rw [crcL_cons, crcL_cons] at h
    have h1 := ih (crcIt_lt (crcIn_lt hx b) 8) (crcIt_lt (crcIn_lt hy b) 8) h
    exact xor_inj (crcIt_inj 8 (crcIn_lt hx b) (crcIn_lt hy b) h1)
attribute [local irreducible] crcIt crcBit crcIn crcL
theorem crc_bent {p q : List UInt8} {o c : UInt8} (h : o ≠ c) : crcL (p ++ o :: q) 65535 ≠ crcL (p ++ c :: q) 65535 := by
  intro e
  rw [crcL_append, crcL_append, crcL_cons, crcL_cons] at e
  have hp : crcL p 65535 < 65536 := crcL_lt p (by decide)
  generalize crcL p 65535 = x at *
  have h1 := crcL_inj q (crcIt_lt (crcIn_lt hp o) 8) (crcIt_lt (crcIn_lt hp c) 8) e
  have h2 := crcIt_inj 8 (crcIn_lt hp o) (crcIn_lt hp c) h1
  unfold crcIn at h2
  rw [Nat.xor_comm x, Nat.xor_comm x] at h2
  have h3 := xor_inj h2
  exact h (UInt8.toNat_inj.1 (by omega))
def valZ (l : List UInt8) : Nat := l.foldl (fun a d => 10 * a + (d.toNat - 48)) 0
theorem valZ_snoc (l : List UInt8) (d : UInt8) : valZ (l ++ [d]) = 10 * valZ l + (d.toNat - 48) := by unfold valZ; rw [List.foldl_append]; rfl
theorem valZ_zeros (k : Nat) (l : List UInt8) : valZ (List.replicate k 48 ++ l) = valZ l := by
  unfold valZ
  rw [List.foldl_append]
  have : List.foldl (fun (a : Nat) (d : UInt8) => 10 * a + (d.toNat - 48)) 0 (List.replicate k 48) = 0 := by
    induction k with
    | zero => rfl
    | succ k ih => rw [List.replicate_succ, List.foldl_cons]; exact ih
  rw [this]
theorem valZ_dig : ∀ (k u : Nat), u < k → valZ (dig u) = u
  | 0, _, h => by omega
  | k + 1, u, h => by
    by_cases h0 : u = 0
    · subst h0; rw [dig_zero]; rfl
    · rw [dig_step h0, valZ_snoc, valZ_dig k (u / 10) (by omega), UInt8.toNat_ofNat']
      omega
theorem valZ_itoa (n : Nat) : valZ (Lib.itoa (n : Int)) = n := by
  by_cases h : n = 0
  · subst h
    have h1 : Lib.itoa ((0 : Nat) : Int) = [48] := by
      have h2 := congrArg (fun t : ByteArray => t.data.toList) decS_zero
      have h3 : (decS 0).data.toList = Lib.itoa 0 := by unfold decS; simp
      have h4 : (decS 0).data.toList = [48] := h2
      rw [← h4, h3]; rfl
    rw [h1]; rfl
  · rw [itoa_ne (by omega), if_neg (by omega), List.nil_append, Int.natAbs_natCast]
    exact valZ_dig (n + 1) n (by omega)
theorem fiveL_inj {n m : Nat} (h : fiveL n = fiveL m) : n = m := by
  have h1 := congrArg valZ h
  unfold fiveL at h1
  rw [valZ_zeros, valZ_zeros, valZ_itoa, valZ_itoa] at h1
  exact h1
theorem parseC_zero {line : ByteArray} (h : parseC line = 0) : 6 ≤ line.size ∧ line.data.toList[5]? = some 32 ∧ line.extract 0 5 = fiveS (crcF (restP line)) := by
  unfold parseC at h
  split at h
  · cases h
  · rename_i h1
    split at h
    · cases h
    · rename_i h2
      refine ⟨?_, ?_, Decidable.byContradiction h2⟩
      · rcases Nat.lt_or_ge line.size 6 with h3 | h3
        · exact absurd (.inl h3) h1
        · exact h3
      · exact Decidable.byContradiction fun h3 => h1 (.inr h3)
def mkB (l : List UInt8) : ByteArray := ⟨l.toArray⟩
theorem mkB_data (l : List UInt8) : (mkB l).data.toList = l := by unfold mkB; simp
theorem mkB_size (l : List UInt8) : (mkB l).size = l.length := by show l.toArray.size = _; simp
theorem mkB_self (s : ByteArray) : mkB s.data.toList = s := by cases s; unfold mkB; simp
theorem restP_data (l : List UInt8) : (restP (mkB l)).data.toList = l.drop 6 := by
  unfold restP
  rw [extract_toList, mkB_size, mkB_data, List.take_length]
theorem parse_list {l : List UInt8} (h : parseC (mkB l) = 0) : l[5]? = some 32 ∧ l.take 5 = fiveL (crcL (l.drop 6) 65535) := by
  obtain ⟨h1, h2, h3⟩ := parseC_zero h
  rw [mkB_data] at h2
  refine ⟨h2, ?_⟩
  have h4 : ((mkB l).extract 0 5).data.toList = (fiveS (crcF (restP (mkB l)))).data.toList := by rw [h3]
  rw [extract_toList, mkB_data, List.drop_zero] at h4
  rw [h4]
  unfold fiveS crcF
  rw [restP_data]
theorem parse_bent {p q : List UInt8} {o c : UInt8} (h : parseC (mkB (p ++ o :: q)) = 0) (hne : o ≠ c) : parseC (mkB (p ++ c :: q)) ≠ 0 := by
  intro h'
  obtain ⟨a1, a2⟩ := parse_list h
  obtain ⟨b1, b2⟩ := parse_list h'
  rcases Nat.lt_trichotomy p.length 5 with hj | hj | hj
  · have e : (p ++ o :: q).drop 6 = (p ++ c :: q).drop 6 := by
      obtain ⟨d, hd⟩ : ∃ d, 6 - p.length = d + 1 := ⟨5 - p.length, by omega⟩
      rw [List.drop_append, List.drop_append, List.drop_of_length_le (by omega), hd]; rfl
    rw [e, ← b2] at a2
    have h1 := congrArg (fun t : List UInt8 => t[p.length]?) a2
    simp only [List.getElem?_take] at h1
    rw [if_pos hj, if_pos hj, List.getElem?_append_right (Nat.le_refl _), List.getElem?_append_right (Nat.le_refl _), Nat.sub_self] at h1
    exact hne (by simpa using h1)
  · rw [List.getElem?_append_right (by omega), hj] at a1 b1
    simp at a1 b1
    exact hne (a1.trans b1.symm)
  · have e1 : (p ++ o :: q).take 5 = (p ++ c :: q).take 5 := by
      rw [List.take_append_of_le_length (by omega), List.take_append_of_le_length (by omega)]
    rw [e1, b2] at a2
    have h1 := fiveL_inj a2
    rw [List.drop_append_of_le_length (by omega), List.drop_append_of_le_length (by omega)] at h1
    exact crc_bent hne h1.symm
theorem name_nobyte {x : ByteArray} (h : nameB x = true) {b0' : UInt8} (h0 : okNm b0' = false) : ∀ b ∈ x.data.toList, b ≠ b0' := by
  intro b hb e
  subst e
  unfold nameB at h
  simp only [Bool.and_eq_true] at h
  have ha : allNm x.data.toList = true := h.2
  unfold allNm at ha
  have := List.all_eq_true.1 ha _ hb
  rw [h0] at this; cases this
theorem ixL_app {c : UInt8} : ∀ {x : List UInt8} (y : List UInt8), (∀ b ∈ x, b ≠ c) → ixL c (x ++ c :: y) = x.length
  | [], y, _ => by rw [List.nil_append, ixL_cons, if_pos rfl]; rfl
  | b :: x, y, h => by
    rw [List.cons_append, ixL_cons, if_neg (h b (by simp)), ixL_app y (fun z hz => h z (by simp [hz]))]; rfl
theorem blockB_p {b : DBlock} (h : blockB b = true) : noNl b.text.data.toList = true ∧ nameB b.kind = true ∧ nameB b.name = true := by
  unfold blockB at h
  simp only [Bool.and_eq_true] at h
  exact ⟨h.1.1.1, h.1.1.2, h.1.2⟩
theorem restB_data (b : DBlock) : (restB b).data.toList = b.kind.data.toList ++ 32 :: (b.name.data.toList ++ 32 :: b.text.data.toList) := by
  unfold restB
  rw [data_append, data_append, data_append, data_append]; simp
def lineD (b : DBlock) : List UInt8 := fiveL (crcF (restB b)) ++ 32 :: (restB b).data.toList
theorem fiveL_len {n : Nat} (h : n < 65536) : (fiveL n).length = 5 := by
  have := fiveS_size h
  unfold fiveS at this
  rw [mk_size] at this
  exact this
theorem lineB_data (b : DBlock) : (lineB b).data.toList = lineD b ++ [10] := by
  unfold lineB lineD
  rw [data_append, data_append, data_append]
  unfold fiveS
  simp
theorem parse_line {b : DBlock} (hb : blockB b = true) : parseC (mkB (lineD b)) = 0 ∧ parseB (mkB (lineD b)) = b := by
  obtain ⟨_, hk, hn⟩ := blockB_p hb
  have h5 := fiveL_len (crcF_lt (restB b))
  have hsz : (mkB (lineD b)).size = 6 + (restB b).size := by rw [mkB_size]; unfold lineD; rw [List.length_append, List.length_cons, h5, data_len]; omega
  have hrest : restP (mkB (lineD b)) = restB b := by
    refine data_inj ?_
    rw [restP_data]
    unfold lineD
    rw [List.drop_append, List.drop_of_length_le (by omega), h5]; rfl
  have hf : firK (restB b) = b.kind.data.toList.length := by
    unfold firK; rw [restB_data]; exact ixL_app _ (name_nobyte hk (by decide))
  have hs : secK (restB b) = b.kind.data.toList.length + 1 + b.name.data.toList.length := by
    unfold secK
    rw [hf, restB_data]
    have e : (b.kind.data.toList ++ 32 :: (b.name.data.toList ++ 32 :: b.text.data.toList)).drop (b.kind.data.toList.length + 1) = b.name.data.toList ++ 32 :: b.text.data.toList := by
      rw [List.drop_append, List.drop_of_length_le (by omega), show b.kind.data.toList.length + 1 - b.kind.data.toList.length = 1 by omega]; rfl
    rw [e, ixL_app _ (name_nobyte hn (by decide))]
  have hrs : (restB b).size = b.kind.data.toList.length + 1 + b.name.data.toList.length + 1 + b.text.data.toList.length := by
    have h1 := congrArg List.length (restB_data b)
    rw [data_len] at h1
    rw [h1]; simp; omega
  have hblk : blkP (restB b) = b := by
    have e0 : (restB b).extract 0 (firK (restB b)) = b.kind := by
      refine data_inj ?_
      rw [extract_toList, hf, restB_data, List.drop_zero, List.take_left']; rfl
    have e1 : (restB b).extract (firK (restB b) + 1) (secK (restB b)) = b.name := by
      refine data_inj ?_
      rw [extract_toList, hf, hs, restB_data, List.drop_take, List.drop_append, List.drop_of_length_le (by omega), show b.kind.data.toList.length + 1 - b.kind.data.toList.length = 1 by omega,
        show b.kind.data.toList.length + 1 + b.name.data.toList.length - (b.kind.data.toList.length + 1) = b.name.data.toList.length by omega]
      show (b.name.data.toList ++ 32 :: b.text.data.toList).take _ = _
      rw [List.take_left']; rfl
    have e2 : (restB b).extract (secK (restB b) + 1) (restB b).size = b.text := by
      refine data_inj ?_
      rw [extract_toList, hs, ← data_len, List.take_length, restB_data]
      have e : b.kind.data.toList ++ 32 :: (b.name.data.toList ++ 32 :: b.text.data.toList) = (b.kind.data.toList ++ 32 :: (b.name.data.toList ++ [32])) ++ b.text.data.toList := by simp
      rw [e, List.drop_left']
      simp; omega
    unfold blkP
    rw [e0, e1, e2]
  have hl5 : (mkB (lineD b))[5]'(by omega) = 32 := by
    have h1 : (mkB (lineD b)).data.toList[5]? = some 32 := by
      rw [mkB_data]; unfold lineD
      rw [List.getElem?_append_right (by omega), h5]; rfl
    rw [at_list (by omega)] at h1
    exact Option.some.inj h1
  have hx : (mkB (lineD b)).extract 0 5 = fiveS (crcF (restP (mkB (lineD b)))) := by
    refine data_inj ?_
    rw [hrest, extract_toList, mkB_data, List.drop_zero]
    unfold lineD fiveS
    rw [List.take_append_of_le_length (by omega), List.take_of_length_le (by omega)]
  have := parse_fine (line := mkB (lineD b)) (by omega) hl5 hx (by rw [hrest, hs, hrs]; omega) (by rw [hrest, hblk]; exact hb)
  rw [hrest, hblk] at this
  exact this
def flatW (W : List (List UInt8)) : List UInt8 := W.flatMap (fun w => w ++ [10])
theorem flatW_cons (w : List UInt8) (W : List (List UInt8)) : flatW (w :: W) = w ++ 10 :: flatW W := by unfold flatW; rw [List.flatMap_cons]; simp
theorem cut_at : ∀ (W : List (List UInt8)) (a : Nat) (o c : UInt8), (∀ w ∈ W, ∀ b ∈ w, b ≠ 10) → (flatW W)[a]? = some o → o ≠ 10 →
    ∃ (i : Nat) (p q : List UInt8), i < W.length ∧ W[i]? = some (p ++ o :: q) ∧ ((flatW W).take a).count 10 = i ∧ (flatW W).set a c = flatW (W.set i (p ++ c :: q)) := by
  intro W
  induction W with
  | nil => intro a o c _ h _; simp [flatW] at h
  | cons w W ih =>
    intro a o c hW h ho
    have hw : ∀ b ∈ w, b ≠ 10 := hW w (by simp)
    rw [flatW_cons] at h ⊢
    rcases Nat.lt_trichotomy a w.length with h1 | h1 | h1
    · rw [List.getElem?_append_left h1] at h
      have hg : w[a] = o := by rw [List.getElem?_eq_getElem h1] at h; exact Option.some.inj h
      refine ⟨0, w.take a, w.drop (a + 1), by simp, ?_, ?_, ?_⟩
      · have e : w = w.take a ++ o :: w.drop (a + 1) := by rw [← hg, ← List.drop_eq_getElem_cons h1, List.take_append_drop]
        rw [← e]; rfl
      · rw [List.take_append_of_le_length (by omega), List.count_eq_zero]
        intro hm
        exact hw 10 (List.mem_of_mem_take hm) rfl
      · rw [List.set_append_left _ _ h1, List.set_eq_take_append_cons_drop, if_pos h1, List.set_cons_zero, flatW_cons]
    · rw [List.getElem?_append_right (by omega), h1, Nat.sub_self] at h
      simp at h
      exact absurd h.symm ho
    · obtain ⟨d, rfl⟩ : ∃ d, a = w.length + (d + 1) := ⟨a - w.length - 1, by omega⟩
      rw [List.getElem?_append_right (by omega), Nat.add_sub_cancel_left, List.getElem?_cons_succ] at h
      obtain ⟨i, p, q, q1, q2, q3, q4⟩ := ih d o c (fun x hx => hW x (by simp [hx])) h ho
      refine ⟨i + 1, p, q, by rw [List.length_cons]; omega, by rw [List.getElem?_cons_succ]; exact q2, ?_, ?_⟩
      · rw [List.take_append, List.take_of_length_le (by omega), Nat.add_sub_cancel_left, List.take_succ_cons, List.count_append, List.count_cons, q3]
        have : w.count 10 = 0 := by rw [List.count_eq_zero]; intro hm; exact hw 10 hm rfl
        rw [this]; simp
      · rw [List.set_append_right _ _ (by omega), Nat.add_sub_cancel_left, List.set_cons_succ, q4, List.set_cons_succ, flatW_cons]
theorem splL_appD (c : UInt8) : ∀ (x l : List UInt8), (∀ b ∈ x, b ≠ c) → splL c (x ++ c :: l) = x :: splL c l
  | [], l, _ => by show (if c = c then [] :: splL c l else _) = _; rw [if_pos rfl]
  | b :: x, l, h => by
    rw [List.cons_append]
    show (if b = c then _ else match splL c (x ++ c :: l) with | [] => _ | q :: r => (b :: q) :: r) = _
    rw [if_neg (h b (by simp)), splL_appD c x l (fun y hy => h y (by simp [hy]))]
theorem split_flat : ∀ W : List (List UInt8), (∀ w ∈ W, ∀ b ∈ w, b ≠ 10) → splL 10 (flatW W) = W ++ [[]]
  | [], _ => rfl
  | w :: W, h => by
    rw [flatW_cons, splL_appD 10 w _ (h w (by simp)), split_flat W (fun x hx => h x (by simp [hx]))]; rfl
theorem lines_flat {W : List (List UInt8)} (h : ∀ w ∈ W, ∀ b ∈ w, b ≠ 10) : linL (mkB (flatW W)) = W.map mkB ∧ linQ (mkB (flatW W)) = ⟨#[]⟩ := by
  have e : splS 10 (mkB (flatW W)) = W.map mkB ++ [⟨#[]⟩] := by
    unfold splS; rw [mkB_data, split_flat W h, List.map_append]; rfl
  unfold linL linQ
  rw [e, List.dropLast_concat]
  exact ⟨rfl, by simp [List.getLastD_eq_getLast?]⟩
def headD (n : Nat) : List UInt8 := [97, 114, 99, 104, 105, 118, 101, 32] ++ Lib.itoa n
def W0 (L : List DBlock) : List (List UInt8) := headD L.length :: L.map lineD
theorem save_flat (L : List DBlock) : saveL L L.length = flatW (W0 L) := by
  unfold saveL W0
  rw [flatW_cons, List.take_length]
  have e1 : (headS L.length).data.toList = headD L.length ++ [10] := by
    unfold headS headD decS
    rw [data_append, data_append]
  have e2 : L.flatMap (fun b => (lineB b).data.toList) = flatW (L.map lineD) := by
    unfold flatW
    rw [List.flatMap_map]
    congr 1
    funext b
    exact lineB_data b
  rw [e1, e2]; simp
theorem dig_no10 : ∀ (k u : Nat), u < k → ∀ b ∈ dig u, b ≠ 10
  | 0, _, h => by omega
  | k + 1, u, h => by
    by_cases h0 : u = 0
    · subst h0; rw [dig_zero]; simp
    · rw [dig_step h0]
      intro b hb
      rw [List.mem_append, List.mem_singleton] at hb
      rcases hb with hb | rfl
      · exact dig_no10 k (u / 10) (by omega) b hb
      · intro e
        have := congrArg UInt8.toNat e
        rw [UInt8.toNat_ofNat'] at this
        have h10 : (10 : UInt8).toNat = 10 := rfl
        omega
theorem itoa_no10 (n : Nat) : ∀ b ∈ Lib.itoa (n : Int), b ≠ 10 := by
  by_cases h : n = 0
  · subst h
    have h1 : Lib.itoa ((0 : Nat) : Int) = [48] := by
      have h2 := congrArg (fun t : ByteArray => t.data.toList) decS_zero
      have h3 : (decS 0).data.toList = Lib.itoa 0 := by unfold decS; simp
      have h4 : (decS 0).data.toList = [48] := h2
      rw [← h4, h3]; rfl
    rw [h1]; decide
  · rw [itoa_ne (by omega), if_neg (by omega), List.nil_append, Int.natAbs_natCast]
    exact dig_no10 (n + 1) n (by omega)
theorem lineD_no10 {b : DBlock} (hb : blockB b = true) : ∀ x ∈ lineD b, x ≠ 10 := by
  obtain ⟨ht, hk, hn⟩ := blockB_p hb
  intro x hx
  unfold lineD fiveL at hx
  rw [restB_data] at hx
  simp only [List.mem_append, List.mem_cons, List.mem_replicate] at hx
  rcases hx with (hx | hx) | hx | hx | hx | hx | hx | hx
  · rw [hx.2]; decide
  · exact itoa_no10 _ x hx
  · rw [hx]; decide
  · exact name_nobyte hk (by decide) x hx
  · rw [hx]; decide
  · exact name_nobyte hn (by decide) x hx
  · rw [hx]; decide
  · intro e
    subst e
    unfold noNl at ht
    have := List.all_eq_true.1 ht _ hx
    simp at this
theorem W0_no10 {L : List DBlock} (h : ∀ b ∈ L, blockB b = true) : ∀ w ∈ W0 L, ∀ x ∈ w, x ≠ 10 := by
  intro w hw x hx
  unfold W0 at hw
  rcases List.mem_cons.1 hw with rfl | hw
  · unfold headD at hx
    rcases List.mem_append.1 hx with hx | hx
    · have h9 : ∀ y ∈ ([97, 114, 99, 104, 105, 118, 101, 32] : List UInt8), y ≠ 10 := by decide
      exact h9 x hx
    · exact itoa_no10 _ x hx
  · obtain ⟨b, hb, rfl⟩ := List.mem_map.1 hw
    exact lineD_no10 (h b hb) x hx
theorem putF_end {M : List DBlock} {b : DBlock} (h : ∀ x ∈ M, beforeB x b = true) : putF M b = M ++ [b] := by
  have e : atB M b = M.length := takeWhile_len _ M M.length (Nat.le_refl _) (fun m hm _ => h _ (List.getElem_mem hm)) (fun hh => absurd hh (Nat.lt_irrefl _))
  have hk : hasKey M b = false := by unfold hasKey; rw [e, List.getElem?_eq_none (Nat.le_refl _)]
  unfold putF skB
  rw [hk, e, List.take_length]
  simp
theorem sg_run : ∀ (N M : List DBlock), (M ++ N).Pairwise (fun a b => beforeB a b = true) → (∀ x ∈ N, blockB x = true) → (M ++ N).length ≤ 32 → (N.map (fun b => mkB (lineD b))).foldl sgS M = M ++ N := by
  intro N
  induction N with
  | nil => intro M _ _ _; simp
  | cons b N ih =>
    intro M hp hb hl
    obtain ⟨q1, q2⟩ := parse_line (hb b (by simp))
    have hpe := putF_end (M := M) (b := b) (fun x hx => (List.pairwise_append.1 hp).2.2 x hx b (by simp))
    have hl1 : (M ++ [b]).length ≤ 32 := by simp at hl ⊢; omega
    rw [List.map_cons, List.foldl_cons]
    have hs : sgS M (mkB (lineD b)) = M ++ [b] := by
      unfold sgS; rw [if_pos q1, q2, hpe, if_pos hl1]
    have e : M ++ b :: N = (M ++ [b]) ++ N := by simp
    rw [hs, e]
    exact ih (M ++ [b]) (by rw [← e]; exact hp) (fun x hx => hb x (by simp [hx])) (by rw [← e]; exact hl)
theorem set_split {α β : Type} (f : α → β) (L : List α) (j : Nat) (hj : j < L.length) (x : β) : (L.map f).set j x = (L.take j).map f ++ x :: (L.drop (j + 1)).map f := by
  rw [List.set_eq_take_append_cons_drop, if_pos (by simpa using hj), ← List.map_take, ← List.map_drop]
theorem salvage_plain {L : List DBlock} (h : drawOk L) (hl : L.length ≤ 5) {a : Nat} {o c : UInt8} (ha : (saveL L L.length)[a]? = some o) (ho : o ≠ 10) (hc : c ≠ 10) (hoc : o ≠ c) :
    ∃ i, ((saveL L L.length).take a).count 10 = i ∧ (i = 0 ∨ ∃ j, i = j + 1 ∧ j < L.length ∧ dmF (mkB ((saveL L L.length).set a c)) = [(j : Int) + 2] ∧ sgF (mkB ((saveL L L.length).set a c)) = L.take j ++ L.drop (j + 1)) := by
  have hb : ∀ b ∈ L, blockB b = true := fun b hx => dBlocks_at h.1 hx
  have hW := W0_no10 hb
  rw [save_flat] at ha ⊢
  obtain ⟨i, p, q, h1, h2, h3, h4⟩ := cut_at (W0 L) a o c hW ha ho
  refine ⟨i, h3, ?_⟩
  rcases Nat.eq_zero_or_pos i with h0 | h0
  · exact .inl h0
  · obtain ⟨j, rfl⟩ : ∃ j, i = j + 1 := ⟨i - 1, by omega⟩
    have hj : j < L.length := by unfold W0 at h1; simp at h1; omega
    have hlj : lineD L[j] = p ++ o :: q := by
      unfold W0 at h2
      rw [List.getElem?_cons_succ, List.getElem?_map, List.getElem?_eq_getElem hj] at h2
      exact Option.some.inj h2
    have hbad : parseC (mkB (p ++ c :: q)) ≠ 0 := by
      refine parse_bent (o := o) ?_ hoc
      rw [← hlj]; exact (parse_line (hb _ (List.getElem_mem hj))).1
    have hno : ∀ w ∈ (W0 L).set (j + 1) (p ++ c :: q), ∀ x ∈ w, x ≠ 10 := by
      intro w hw x hx
      rcases List.mem_or_eq_of_mem_set hw with hw | rfl
      · exact hW w hw x hx
      · have hl0 := lineD_no10 (hb _ (List.getElem_mem hj))
        rw [hlj] at hl0
        rcases List.mem_append.1 hx with hx | hx
        · exact hl0 x (by simp [hx])
        · rcases List.mem_cons.1 hx with rfl | hx
          · exact hc
          · exact hl0 x (by simp [hx])
    obtain ⟨e1, e2⟩ := lines_flat hno
    have hset : (W0 L).set (j + 1) (p ++ c :: q) = headD L.length :: (L.map lineD).set j (p ++ c :: q) := rfl
    have hlin : linL (mkB ((flatW (W0 L)).set a c)) = mkB (headD L.length) :: ((L.take j).map (fun b => mkB (lineD b)) ++ mkB (p ++ c :: q) :: (L.drop (j + 1)).map (fun b => mkB (lineD b))) := by
      rw [h4, e1, hset, List.map_cons, set_split lineD L j hj, List.map_append, List.map_cons, List.map_map, List.map_map]; rfl
    have hq : linQ (mkB ((flatW (W0 L)).set a c)) = ⟨#[]⟩ := by rw [h4, e2]
    refine .inr ⟨j, rfl, hj, ?_, ?_⟩
    · have hlen : (linL (mkB ((flatW (W0 L)).set a c))).length = L.length + 1 := by
        rw [hlin]; simp; omega
      have hat : ∀ k, k ≤ L.length + 1 → dmB (linL (mkB ((flatW (W0 L)).set a c))) (linQ (mkB ((flatW (W0 L)).set a c))) k = decide (k = j + 1) := by
        intro k hk
        rw [hq]
        rcases Nat.lt_or_ge k (L.length + 1) with hk1 | hk1
        · rcases Nat.eq_zero_or_pos k with rfl | hk0
          · rw [dmB_first (by omega), decide_eq_false (by omega)]
          · obtain ⟨m, rfl⟩ : ∃ m, k = m + 1 := ⟨k - 1, by omega⟩
            have hkl : m + 1 < (linL (mkB ((flatW (W0 L)).set a c))).length := by omega
            rw [dmB_in hkl (by omega) _ rfl]
            by_cases hm : m = j
            · subst hm
              have hg : (linL (mkB ((flatW (W0 L)).set a c)))[m + 1] = mkB (p ++ c :: q) := by
                rw [List.getElem_of_eq hlin, List.getElem_cons_succ, List.getElem_append_right (by simp; omega)]
                simp [Nat.min_eq_left (Nat.le_of_lt hj)]
              rw [hg, decide_eq_false hbad, decide_eq_true rfl]; rfl
            · have hg : parseC (linL (mkB ((flatW (W0 L)).set a c)))[m + 1] = 0 := by
                have hsm : (linL (mkB ((flatW (W0 L)).set a c)))[m + 1] = mkB (lineD (L[m]'(by omega))) := by
                  have e9 : linL (mkB ((flatW (W0 L)).set a c)) = (headD L.length :: (L.map lineD).set j (p ++ c :: q)).map mkB := by rw [h4, e1, hset]
                  rw [List.getElem_of_eq e9, List.getElem_map, List.getElem_cons_succ, List.getElem_set_ne (fun e => hm e.symm), List.getElem_map]
                rw [hsm]
                exact (parse_line (hb _ (List.getElem_mem _))).1
              rw [hg, decide_eq_true rfl, decide_eq_false (by omega)]; rfl
        · rw [dmB_last (by omega), decide_eq_false (by omega)]; rfl
      have hK : ∀ k, k ≤ L.length + 2 → dmK (linL (mkB ((flatW (W0 L)).set a c))) (linQ (mkB ((flatW (W0 L)).set a c))) k = if k ≤ j + 1 then [] else [(j : Int) + 2] := by
        intro k
        induction k with
        | zero => intro _; rfl
        | succ k ih =>
          intro hk
          have ih := ih (by omega)
          by_cases hkj : k = j + 1
          · rw [dmK_yes (by omega) (by rw [hat k (by omega), decide_eq_true hkj]), ih, if_pos (by omega), if_neg (by omega), hkj]
            simp; omega
          · rw [dmK_no (by omega) (by rw [hat k (by omega), decide_eq_false hkj]), ih]
            by_cases h5 : k ≤ j + 1
            · rw [if_pos h5, if_pos (by omega)]
            · rw [if_neg h5, if_neg (by omega)]
      unfold dmF
      rw [hlen, hK _ (by omega), if_neg (by omega)]
    · have hor := ordered_pairwise.1 (blocksB_ordered h.1)
      unfold sgF sgK
      rw [List.take_length, hlin, List.drop_succ_cons, List.drop_zero, List.foldl_append, List.foldl_cons]
      rw [sg_run (L.take j) [] (by rw [List.nil_append]; exact hor.sublist (List.take_sublist _ _)) (fun x hx => hb x (List.mem_of_mem_take hx)) (by simp; omega), List.nil_append]
      have hbs : sgS (L.take j) (mkB (p ++ c :: q)) = L.take j := by unfold sgS; rw [if_neg hbad]
      rw [hbs]
      refine sg_run (L.drop (j + 1)) (L.take j) (hor.sublist ?_) (fun x hx => hb x (List.mem_of_mem_drop hx)) (by simp; omega)
      have : L.take j ++ L.drop (j + 1) = L.eraseIdx j := (List.eraseIdx_eq_take_drop_succ ..).symm
      rw [this]
      exact List.eraseIdx_sublist ..

end Go.Proofs.YtmhefhapighloaaGreatDoor

namespace Go.Proofs.YtmhefhapighloaaGreatDoor
open Go.RowKit
set_option linter.unusedVariables false

def digB (c : UInt8) : Bool := decide (48 ≤ c.toNat) && decide (c.toNat ≤ 57)
def valL (a : Nat) (l : List UInt8) : Nat := l.foldl (fun n c => 10 * n + (c.toNat - 48)) a
theorem valL_nil (a : Nat) : valL a [] = a := rfl
theorem valL_cons (a : Nat) (c : UInt8) (l : List UInt8) : valL a (c :: l) = valL (10 * a + (c.toNat - 48)) l := by unfold valL; rw [List.foldl_cons]
theorem valL_snoc (a : Nat) (l : List UInt8) (c : UInt8) : valL a (l ++ [c]) = 10 * valL a l + (c.toNat - 48) := by
  unfold valL; rw [List.foldl_append]; rfl
theorem digB_of (k : Nat) : digB (UInt8.ofNat (48 + k % 10)) = true := by
  unfold digB; rw [UInt8.toNat_ofNat']
  simp only [Bool.and_eq_true, decide_eq_true_eq]; omega
theorem digB_val (k : Nat) : (UInt8.ofNat (48 + k % 10)).toNat - 48 = k % 10 := by
  rw [UInt8.toNat_ofNat']; omega
theorem dig_all : ∀ u, (dig u).all digB = true := by
  intro u
  induction u using Nat.strongRecOn with
  | _ u ih =>
    by_cases h : u = 0
    · subst h; rw [dig_zero]; rfl
    · rw [dig_step h, List.all_append, ih (u / 10) (by omega)]
      simp only [List.all_cons, List.all_nil, Bool.and_true, Bool.true_and]
      exact digB_of u
theorem dig_val : ∀ u, valL 0 (dig u) = u := by
  intro u
  induction u using Nat.strongRecOn with
  | _ u ih =>
    by_cases h : u = 0
    · subst h; rw [dig_zero]; rfl
    · rw [dig_step h, valL_snoc, ih (u / 10) (by omega), digB_val]; omega
theorem dig_ge : ∀ (k u : Nat), 10 ^ k ≤ u → k + 1 ≤ (dig u).length
  | 0, u, h => by
    rw [Nat.pow_zero] at h
    rw [dig_step (by omega)]; simp
  | k + 1, u, h => by
    have hp : 0 < 10 ^ k := Nat.pow_pos (by decide)
    rw [Nat.pow_succ] at h
    have := dig_ge k (u / 10) (by omega)
    rw [dig_step (by omega), List.length_append]; simp; omega
theorem dig_lt {k u : Nat} (h : (dig u).length ≤ k) : u < 10 ^ k := by
  rcases Nat.lt_or_ge u (10 ^ k) with h1 | h1
  · exact h1
  · have := dig_ge k u h1; omega
theorem dig_head : ∀ u, (dig u).head? ≠ some 48 := by
  intro u
  induction u using Nat.strongRecOn with
  | _ u ih =>
    by_cases h : u = 0
    · subst h; rw [dig_zero]; simp
    · rw [dig_step h]
      by_cases h1 : u / 10 = 0
      · rw [h1, dig_zero]
        simp only [List.nil_append, List.head?_cons, ne_eq, Option.some.injEq]
        intro e
        have e2 := congrArg UInt8.toNat e
        rw [UInt8.toNat_ofNat'] at e2
        have : (48 : UInt8).toNat = 48 := rfl
        omega
      · have ih1 := ih (u / 10) (by omega)
        rw [dig_step h1] at ih1 ⊢
        rw [List.head?_append] at ih1 ⊢
        simp only [List.head?_append] at ih1 ⊢
        revert ih1
        generalize (dig (u / 10 / 10)).head? = o
        cases o <;> simp
theorem dig_first (u : Nat) (h : u ≠ 0) : ∃ c r, dig u = c :: r := by
  rcases hd : dig u with _ | ⟨c, r⟩
  · rw [dig_step h] at hd; simp at hd
  · exact ⟨c, r, rfl⟩
/-- Digits that do not begin with 0 spell their number's digits. -/
theorem dig_back : ∀ (n : Nat) (l : List UInt8), l.length = n → l.all digB = true → l.head? ≠ some 48 → dig (valL 0 l) = l ∧ (l ≠ [] → valL 0 l ≠ 0) := by
  intro n
  induction n with
  | zero => intro l hl _ _; obtain rfl := List.eq_nil_of_length_eq_zero hl; exact ⟨by rw [valL_nil, dig_zero], fun h => absurd rfl h⟩
  | succ n ih =>
    intro l hl ha hh
    obtain ⟨p, c, rfl⟩ : ∃ p c, l = p ++ [c] := ⟨l.dropLast, l.getLast (by intro h; subst h; simp at hl), (List.dropLast_concat_getLast _).symm⟩
    rw [List.all_append] at ha
    simp only [List.all_cons, List.all_nil, Bool.and_true, Bool.and_eq_true] at ha
    obtain ⟨ha1, ha2⟩ := ha
    unfold digB at ha2
    simp only [Bool.and_eq_true, decide_eq_true_eq] at ha2
    have hpl : p.length = n := by simp at hl; exact hl
    rw [valL_snoc]
    rcases Nat.eq_zero_or_pos n with h0 | h0
    · obtain rfl : p = [] := List.eq_nil_of_length_eq_zero (by omega)
      have hc : c.toNat ≠ 48 := by
        intro e
        refine hh ?_
        simp only [List.nil_append, List.head?_cons, Option.some.injEq]
        exact UInt8.toNat_inj.1 e
      rw [valL_nil]
      refine ⟨?_, fun _ => by omega⟩
      rw [dig_step (by omega), show (10 * 0 + (c.toNat - 48)) / 10 = 0 by omega, dig_zero]
      rw [show 48 + (10 * 0 + (c.toNat - 48)) % 10 = c.toNat by omega, UInt8.ofNat_toNat]
    · have hpn : p ≠ [] := by intro h; subst h; simp at hpl; omega
      have hph : p.head? ≠ some 48 := by
        cases p with
        | nil => exact absurd rfl hpn
        | cons x p => simpa using hh
      obtain ⟨i1, i2⟩ := ih p hpl ha1 hph
      have i3 := i2 hpn
      refine ⟨?_, fun _ => by omega⟩
      rw [dig_step (by omega), show (10 * valL 0 p + (c.toNat - 48)) / 10 = valL 0 p by omega, i1]
      rw [show 48 + (10 * valL 0 p + (c.toNat - 48)) % 10 = c.toNat by omega, UInt8.ofNat_toNat]
theorem valL_lt : ∀ (l : List UInt8) (a k : Nat), l.all digB = true → a < 10 ^ k → valL a l < 10 ^ (k + l.length)
  | [], a, k, _, h => h
  | c :: l, a, k, ha, h => by
    simp only [List.all_cons, Bool.and_eq_true] at ha
    have h1 := ha.1
    unfold digB at h1
    simp only [Bool.and_eq_true, decide_eq_true_eq] at h1
    have := valL_lt l (10 * a + (c.toNat - 48)) (k + 1) ha.2 (by rw [Nat.pow_succ]; omega)
    rw [valL_cons, List.length_cons, show k + (l.length + 1) = k + 1 + l.length by omega]
    exact this

/-- The number behind a sign. -/
def bodyL (l : List UInt8) : List UInt8 := if l.head? = some 45 then l.drop 1 else l
def numL (l : List UInt8) : Option Int :=
  if (bodyL l).isEmpty || decide (18 < (bodyL l).length) || (decide ((bodyL l).head? = some 48) && decide (1 < l.length)) || !(bodyL l).all digB then none
  else some (if l.head? = some 45 then -(valL 0 (bodyL l) : Int) else (valL 0 (bodyL l) : Int))
theorem itoa_natL {u : Nat} (h : u ≠ 0) : Lib.itoa (u : Int) = dig u := by rw [itoa_ne (by omega), if_neg (by omega)]; rfl
theorem itoa_negL {u : Nat} (h : u ≠ 0) : Lib.itoa (-(u : Int)) = 45 :: dig u := by rw [itoa_ne (by omega), if_pos (by omega), Int.natAbs_neg]; rfl
theorem itoa_zeroL : Lib.itoa 0 = [48] := by
  have h := decS_zero
  unfold decS at h
  have := congrArg (fun s : ByteArray => s.data.toList) h
  simpa using this
theorem dig_head45 (u : Nat) : (dig u).head? ≠ some 45 := by
  intro h
  have ha := dig_all u
  cases hd : dig u with
  | nil => rw [hd] at h; cases h
  | cons c r =>
    rw [hd] at h ha
    injection h with h
    subst h
    simp [digB] at ha
theorem itoa_body {v : Int} : (bodyL (Lib.itoa v)).length = if v = 0 then 1 else (dig v.natAbs).length := by
  by_cases h0 : v = 0
  · subst h0; rw [itoa_zeroL, if_pos rfl]; rfl
  · rw [if_neg h0]
    by_cases hn : v < 0
    · obtain ⟨u, rfl⟩ : ∃ u : Nat, v = -(u : Int) := ⟨v.natAbs, by omega⟩
      rw [itoa_negL (by omega), Int.natAbs_neg]; rfl
    · obtain ⟨u, rfl⟩ : ∃ u : Nat, v = (u : Int) := ⟨v.natAbs, by omega⟩
      rw [itoa_natL (by omega)]
      unfold bodyL
      rw [if_neg (dig_head45 u)]; rfl
/-- The number whose decimal form the bytes are. -/
theorem numL_itoa (v : Int) (h : v.natAbs < 10 ^ 18) : numL (Lib.itoa v) = some v := by
  by_cases h0 : v = 0
  · subst h0; rw [itoa_zeroL]; decide
  · have hne : v.natAbs ≠ 0 := by omega
    obtain ⟨c, r, hcr⟩ := dig_first v.natAbs hne
    have hl := dig_len 18 v.natAbs h
    have hv := dig_val v.natAbs
    have hh := dig_head v.natAbs
    have h45 := dig_head45 v.natAbs
    have ha := dig_all v.natAbs
    by_cases hn : v < 0
    · obtain ⟨u, rfl⟩ : ∃ u : Nat, v = -(u : Int) := ⟨v.natAbs, by omega⟩
      rw [Int.natAbs_neg, Int.natAbs_natCast] at *
      rw [itoa_negL (by omega)]
      have hb : bodyL (45 :: dig u) = dig u := rfl
      unfold numL
      rw [hb, if_neg, List.head?_cons, if_pos rfl, hv]
      rw [ha, hcr]
      rw [hcr] at hh hl
      simp only [List.head?_cons, Option.some.injEq, ne_eq] at hh
      simp [hh]; simpa using hl
    · obtain ⟨u, rfl⟩ : ∃ u : Nat, v = (u : Int) := ⟨v.natAbs, by omega⟩
      rw [Int.natAbs_natCast] at *
      rw [itoa_natL (by omega)]
      have hb : bodyL (dig u) = dig u := by unfold bodyL; rw [if_neg h45]
      unfold numL
      rw [hb, if_neg, if_neg h45, hv]
      rw [ha, hcr]
      rw [hcr] at hh hl
      simp only [List.head?_cons, Option.some.injEq, ne_eq] at hh
      simp [hh]; simpa using hl
theorem numL_back {l : List UInt8} {v : Int} (h : numL l = some v) : Lib.itoa v = l ∧ v.natAbs < 10 ^ 18 ∧ (bodyL l).length ≤ 18 := by
  unfold numL at h
  split at h
  · cases h
  · rename_i hc
    simp only [Bool.or_eq_true, decide_eq_true_eq, Bool.and_eq_true, Bool.not_eq_true', not_or, List.isEmpty_iff] at hc
    obtain ⟨⟨⟨h1, h2⟩, h3⟩, h4⟩ := hc
    have ha : (bodyL l).all digB = true := by simpa using h4
    have h18 : (bodyL l).length ≤ 18 := by omega
    have hlt := valL_lt (bodyL l) 0 0 ha (by decide)
    have hlt2 : valL 0 (bodyL l) < 10 ^ 18 := Nat.lt_of_lt_of_le hlt (Nat.pow_le_pow_right (by decide) (by omega))
    injection h with h
    by_cases h45 : l.head? = some 45
    · rw [if_pos h45] at h
      have hb : bodyL l = l.drop 1 := by unfold bodyL; rw [if_pos h45]
      obtain ⟨r, rfl⟩ : ∃ r, l = 45 :: r := by
        cases l with
        | nil => cases h45
        | cons c r => injection h45 with h45; exact ⟨r, by rw [h45]⟩
      rw [show bodyL (45 :: r) = r from rfl] at *
      have h48 : r.head? ≠ some 48 := by
        intro e
        refine h3 ⟨e, ?_⟩
        cases r with
        | nil => exact absurd rfl h1
        | cons _ _ => simp
      obtain ⟨d1, d2⟩ := dig_back _ r rfl ha h48
      have d3 := d2 h1
      refine ⟨?_, by omega, h18⟩
      rw [← h, itoa_negL d3, d1]
    · rw [if_neg h45] at h
      have hb : bodyL l = l := by unfold bodyL; rw [if_neg h45]
      rw [hb] at h h1 h2 h3 ha h18 hlt hlt2
      by_cases h48 : l.head? = some 48
      · have hl1 : l.length = 1 := by
          have hp : l.length ≠ 0 := by intro e; exact h1 (List.eq_nil_of_length_eq_zero e)
          have : ¬ 1 < l.length := fun e => h3 ⟨h48, e⟩
          omega
        match l, hl1, h48 with
        | [c], _, h48 =>
          injection h48 with h48
          subst h48
          subst h
          exact ⟨itoa_zeroL, by decide, by decide⟩
      · obtain ⟨d1, d2⟩ := dig_back _ l rfl ha h48
        have d3 := d2 h1
        refine ⟨?_, by omega, by rw [hb]; exact h18⟩
        rw [← h, itoa_natL d3, d1]
theorem parseUintM_digits (M : Nat) : ∀ (l : List UInt8) (a k : Nat), l.all digB = true → a < 10 ^ k → k + l.length ≤ 18 → 10 ^ 18 ≤ M → Lib.parseUintM M a l = .ok (valL a l)
  | [], a, k, _, _, _, _ => rfl
  | c :: l, a, k, ha, h, hk, hM => by
    simp only [List.all_cons, Bool.and_eq_true] at ha
    have h1 := ha.1
    unfold digB at h1
    simp only [Bool.and_eq_true, decide_eq_true_eq] at h1
    rw [List.length_cons] at hk
    have h10 : a * 10 + (c.toNat - 48) < 10 ^ (k + 1) := by rw [Nat.pow_succ]; omega
    have h18 : 10 ^ (k + 1) ≤ 10 ^ 18 := Nat.pow_le_pow_right (by decide) (by omega)
    have h17 : (10 : Nat) ^ 18 = 1000000000000000000 := by decide
    unfold Lib.parseUintM
    rw [if_pos h1, if_neg (by omega), if_neg (by omega), parseUintM_digits M l _ (k + 1) ha.2 h10 (by omega) hM, valL_cons, Nat.mul_comm]
theorem parse_of_num {l : List UInt8} {v : Int} (h : numL l = some v) : Lib.parseIntB 64 l = .ok v := by
  obtain ⟨e, hv, _⟩ := numL_back h
  subst e
  have h17 : (10 : Nat) ^ 18 = 1000000000000000000 := by decide
  by_cases h0 : v = 0
  · subst h0; rw [itoa_zeroL]; rfl
  · have hne : v.natAbs ≠ 0 := by omega
    obtain ⟨c, r, hcr⟩ := dig_first v.natAbs hne
    have hl := dig_len 18 v.natAbs hv
    have hval := dig_val v.natAbs
    have ha := dig_all v.natAbs
    have h45 := dig_head45 v.natAbs
    have hp := parseUintM_digits (2 ^ 64 - 1) (dig v.natAbs) 0 0 ha (by decide) (by omega) (by decide)
    rw [hval] at hp
    have hpu : Lib.parseUintB 64 (dig v.natAbs) = .ok v.natAbs := by
      unfold Lib.parseUintB; rw [if_neg (by rw [hcr]; simp)]; exact hp
    by_cases hn : v < 0
    · obtain ⟨u, rfl⟩ : ∃ u : Nat, v = -(u : Int) := ⟨v.natAbs, by omega⟩
      rw [Int.natAbs_neg, Int.natAbs_natCast] at *
      rw [itoa_negL (by omega), Lib.parseIntB_minus, hpu]
      unfold Lib.signedC
      simp only
      rw [if_neg (by omega)]
    · obtain ⟨u, rfl⟩ : ∃ u : Nat, v = (u : Int) := ⟨v.natAbs, by omega⟩
      rw [Int.natAbs_natCast] at *
      rw [itoa_natL (by omega), hcr]
      rw [hcr] at ha h45 hpu
      simp only [List.all_cons, Bool.and_eq_true] at ha
      have h1 := ha.1
      unfold digB at h1
      simp only [Bool.and_eq_true, decide_eq_true_eq] at h1
      rw [Lib.parseIntB_plain 64 c r (by omega) (by omega), hpu]
      unfold Lib.signlessC
      simp only
      rw [if_neg (by omega)]
/-- What the program's reading asks: it parses, is short, and spells itself. -/
theorem num_of_parse {l : List UInt8} {v : Int} (h1 : (bodyL l).length ≤ 18) (h2 : Lib.itoa v = l) : numL l = some v := by
  subst h2
  refine numL_itoa v ?_
  have hb := itoa_body (v := v)
  by_cases h0 : v = 0
  · subst h0; decide
  · rw [if_neg h0] at hb
    rw [hb] at h1
    exact dig_lt h1
end Go.Proofs.YtmhefhapighloaaGreatDoor

namespace Go.Proofs.YtmhefhapighloaaGreatDoor
open Go.RowKit
set_option linter.unusedVariables false

def lineAt (L : List ByteArray) (k : Nat) : ByteArray := L.getD k ⟨#[]⟩
theorem lineAt_get {L : List ByteArray} {k : Nat} (h : k < L.length) : lineAt L k = L[k] := by
  unfold lineAt; rw [List.getD_eq_getElem?_getD, List.getElem?_eq_getElem h]; rfl
def ldC (L : List ByteArray) (k : Nat) : Int := if parseC (lineAt L k) ≠ 0 then parseC (lineAt L k) else if 1 < k ∧ beforeB (parseB (lineAt L (k - 1))) (parseB (lineAt L k)) = false then 7 else 0
def ldP (L : List ByteArray) (k : Nat) : Bool := decide (0 < k) && decide (ldC L k ≠ 0)
def ldBad (L : List ByteArray) : Option Nat := (List.range L.length).find? (ldP L)
def ldFine (L : List ByteArray) (k : Nat) : Prop := ∀ j, 0 < j → j < k → ldC L j = 0
theorem ldFine_one (L : List ByteArray) : ldFine L 1 := fun j h1 h2 => by omega
theorem ldFine_step {L : List ByteArray} {k : Nat} (h : ldFine L k) (h1 : ldC L k = 0) : ldFine L (k + 1) := fun j h2 h3 => by
  rcases Nat.lt_or_ge j k with h4 | h4
  · exact h j h2 h4
  · obtain rfl : j = k := by omega
    exact h1
theorem ldBad_some {L : List ByteArray} {k : Nat} (hk : k < L.length) (h0 : 0 < k) (hf : ldFine L k) (h1 : ldC L k ≠ 0) : ldBad L = some k := by
  unfold ldBad
  rw [List.find?_range_eq_some]
  refine ⟨by unfold ldP; simp [h0, h1], List.mem_range.2 hk, fun j hj => ?_⟩
  unfold ldP
  rcases Nat.eq_zero_or_pos j with rfl | hp
  · rfl
  · simp [hf j hp hj]
theorem ldBad_none {L : List ByteArray} (hf : ldFine L L.length) : ldBad L = none := by
  unfold ldBad
  rw [List.find?_eq_none]
  intro j hj
  have hj' := List.mem_range.1 hj
  unfold ldP
  rcases Nat.eq_zero_or_pos j with rfl | hp
  · simp
  · simp [hf j hp hj']
def ldRows (L : List ByteArray) (k : Nat) : List DBlock := ((L.take k).drop 1).map parseB
theorem ldRows_one (L : List ByteArray) : ldRows L 1 = [] := by
  unfold ldRows; rw [List.drop_of_length_le (by rw [List.length_take]; omega)]; rfl
theorem ldRows_step {L : List ByteArray} {k : Nat} (hk : k < L.length) (h0 : 0 < k) : ldRows L (k + 1) = ldRows L k ++ [parseB L[k]] := by
  unfold ldRows
  rw [List.take_succ_eq_append_getElem hk, List.drop_append_of_le_length (by rw [List.length_take]; omega), List.map_append]; rfl
theorem ldRows_len {L : List ByteArray} {k : Nat} (hk : k ≤ L.length) : (ldRows L k).length = k - 1 := by
  unfold ldRows; simp; omega
theorem ldRows_last {L : List ByteArray} {k : Nat} (hk : k ≤ L.length) (h1 : 1 < k) : (ldRows L k)[k - 2]'(by rw [ldRows_len hk]; omega) = parseB (lineAt L (k - 1)) := by
  unfold ldRows
  rw [List.getElem_map, List.getElem_drop, List.getElem_take, lineAt_get (by omega)]
  congr 2; omega
theorem ldRows_ok {L : List ByteArray} {k : Nat} (hk : k ≤ L.length) (hf : ldFine L k) : ∀ x ∈ ldRows L k, fBlock.ok x := by
  intro x hx
  unfold ldRows at hx
  obtain ⟨y, hy, rfl⟩ := List.mem_map.1 hx
  obtain ⟨j, hj, rfl⟩ := List.getElem_of_mem hy
  rw [List.length_drop, List.length_take] at hj
  have h1 := hf (j + 1) (by omega) (by omega)
  rw [List.getElem_drop, List.getElem_take]
  have e : L[1 + j]'(by omega) = lineAt L (j + 1) := by rw [lineAt_get (by omega)]; congr 1; omega
  rw [e]
  unfold ldC at h1
  split at h1
  · rename_i h2; exact absurd h1 h2
  · rename_i h2
    exact blockB_ok (parse_valid (by simpa using h2))
def arcL : List UInt8 := [97, 114, 99, 104, 105, 118, 101, 32]
def inHead (n : Int) : Bool := decide (0 ≤ n) && decide (n ≤ 32)
def ldHead (line : ByteArray) : Option Int := if arcL.isPrefixOf line.data.toList then (match numL (line.data.toList.drop 8) with | some n => if inHead n then some n else none | none => none) else none
def ldGo (s : ByteArray) : Bool := emptyB (linQ s) && !(linL s).isEmpty
def ldRes (s : ByteArray) : List DBlock × Int × Int :=
  if ldGo s then
    match ldHead (lineAt (linL s) 0) with
    | none => ([], 1, 9)
    | some n => match ldBad (linL s) with
      | some k => ([], (k : Int) + 1, ldC (linL s) k)
      | none => if ((ldRows (linL s) (linL s).length).length : Int) = n then (ldRows (linL s) (linL s).length, 0, 0) else ([], 0, 11)
  else ([], 0, 11)
theorem ldRes_no {s : ByteArray} (h : ldGo s = false) : ldRes s = ([], 0, 11) := by unfold ldRes; rw [h]; rfl
theorem ldRes_head {s : ByteArray} (h : ldGo s = true) (h1 : ldHead (lineAt (linL s) 0) = none) : ldRes s = ([], 1, 9) := by unfold ldRes; rw [h, h1]; rfl
theorem ldRes_bad {s : ByteArray} {n : Int} {k : Nat} (h : ldGo s = true) (h1 : ldHead (lineAt (linL s) 0) = some n) (h2 : ldBad (linL s) = some k) : ldRes s = ([], (k : Int) + 1, ldC (linL s) k) := by unfold ldRes; rw [h, h1, h2]; rfl
theorem ldRes_short {s : ByteArray} {n : Int} (h : ldGo s = true) (h1 : ldHead (lineAt (linL s) 0) = some n) (h2 : ldBad (linL s) = none) (h3 : ¬ ((ldRows (linL s) (linL s).length).length : Int) = n) : ldRes s = ([], 0, 11) := by
  unfold ldRes; rw [h, h1, h2, if_pos rfl]; simp only; rw [if_neg h3]
theorem ldRes_ok {s : ByteArray} {n : Int} (h : ldGo s = true) (h1 : ldHead (lineAt (linL s) 0) = some n) (h2 : ldBad (linL s) = none) (h3 : ((ldRows (linL s) (linL s).length).length : Int) = n) : ldRes s = (ldRows (linL s) (linL s).length, 0, 0) := by
  unfold ldRes; rw [h, h1, h2, if_pos rfl]; simp only; rw [if_pos h3]
theorem ldRes_len {s : ByteArray} (hs : s.size ≤ 1048576) : (ldRes s).1.length ≤ 100000000000 := by
  unfold ldRes
  repeat' split
  all_goals first
    | (simp; done)
    | (show (ldRows _ _).length ≤ _; rw [ldRows_len (Nat.le_refl _)]; have := lin_len s; omega)

/-- A newline at the end. -/
theorem splL_end (c : UInt8) (p : List UInt8) : splL c (p ++ [c]) = splL c p ++ [[]] := by
  obtain ⟨P, q, h⟩ : ∃ P q, splL c p = P ++ [q] := ⟨_, _, (List.dropLast_concat_getLast (splL_ne c p)).symm⟩
  rw [splL_snoc c c p P q h, if_pos rfl, h]
theorem suffix_one (l : List UInt8) (c : UInt8) : Lib.hasSuffix l [c] = true ↔ ∃ p, l = p ++ [c] := by
  unfold Lib.hasSuffix
  rw [List.isSuffixOf_iff_suffix]
  exact ⟨fun ⟨p, h⟩ => ⟨p, h.symm⟩, fun ⟨p, h⟩ => ⟨p, h.symm⟩⟩
theorem lin_end {s : ByteArray} {p : List UInt8} (h : s.data.toList = p ++ [10]) : linL s = splS 10 ⟨p.toArray⟩ ∧ linQ s = ⟨#[]⟩ := by
  have h1 : splS 10 s = splS 10 ⟨p.toArray⟩ ++ [⟨#[]⟩] := by
    unfold splS; rw [h, splL_end, List.map_append]; rfl
  constructor
  · unfold linL; rw [h1, List.dropLast_concat]
  · unfold linQ; rw [h1]; simp [List.getLastD_eq_getLast?]
theorem splS_ne (c : UInt8) (s : ByteArray) : splS c s ≠ [] := by unfold splS; rw [Ne, List.map_eq_nil_iff]; exact splL_ne c _
theorem ldGo_suffix (s : ByteArray) : Lib.hasSuffix s.data.toList [10] = ldGo s := by
  rw [Bool.eq_iff_iff, suffix_one]
  constructor
  · rintro ⟨p, h⟩
    obtain ⟨h1, h2⟩ := lin_end h
    unfold ldGo emptyB
    rw [h2, h1, decide_eq_true rfl]
    have := splS_ne 10 ⟨p.toArray⟩
    cases hq : splS 10 ⟨p.toArray⟩ with
    | nil => exact absurd hq this
    | cons a l => rfl
  · intro h
    unfold ldGo emptyB at h
    simp only [Bool.and_eq_true, decide_eq_true_eq, Bool.not_eq_true', List.isEmpty_eq_false_iff] at h
    obtain ⟨h1, h2⟩ := h
    obtain ⟨_, h3⟩ := lin_cut s
    rw [h1] at h3
    have h4 : s.data.toList = (linL s).flatMap fun p : ByteArray => p.data.toList ++ [10] := by simpa using h3.symm
    obtain ⟨A, a, hA⟩ : ∃ A a, linL s = A ++ [a] := ⟨_, _, (List.dropLast_concat_getLast h2).symm⟩
    rw [hA, List.flatMap_append] at h4
    exact ⟨(A.flatMap fun p : ByteArray => p.data.toList ++ [10]) ++ a.data.toList, by rw [h4]; simp⟩
theorem lin_trim {s : ByteArray} (h : ldGo s = true) : splS 10 ⟨(Lib.trimSuffix s.data.toList [10]).toArray⟩ = linL s := by
  rw [← ldGo_suffix] at h
  unfold Lib.trimSuffix
  rw [if_pos h]
  obtain ⟨p, hp⟩ := (suffix_one _ _).1 h
  rw [(lin_end hp).1, hp]
  simp
/-- The head. -/
theorem num_noblank {r : List UInt8} {v : Int} (h : numL r = some v) : splL 32 r = [r] := by
  refine splL_none fun b hb e => ?_
  subst e
  unfold numL at h
  split at h
  · cases h
  · rename_i hc
    simp only [Bool.or_eq_true, not_or, Bool.not_eq_true', Bool.not_eq_false] at hc
    have ha := hc.2
    have hm : (32 : UInt8) ∈ bodyL r := by
      unfold bodyL
      split
      · rename_i h45
        cases r with
        | nil => cases hb
        | cons c r =>
          rw [List.head?_cons, Option.some.injEq] at h45
          rcases List.mem_cons.1 hb with h1 | h1
          · rw [← h1] at h45; exact absurd h45 (by decide)
          · exact h1
      · exact hb
    have := List.all_eq_true.1 ha _ hm
    exact absurd this (by decide)
theorem spl_arc (r : List UInt8) : splL 32 (arcL ++ r) = [97, 114, 99, 104, 105, 118, 101] :: splL 32 r := by
  unfold arcL
  simp [splL]
theorem head_two {line a b : ByteArray} (h : splS 32 line = [a, b]) : ldHead line = if a = ⟨#[97, 114, 99, 104, 105, 118, 101]⟩ then (match numL b.data.toList with | some n => if inHead n then some n else none | none => none) else none := by
  have hd := splS_data 32 line
  rw [h] at hd
  have hj := splL_join 32 line.data.toList [a.data.toList] b.data.toList hd.symm
  by_cases ha : a = ⟨#[97, 114, 99, 104, 105, 118, 101]⟩
  · rw [if_pos ha]
    subst ha
    have hl : line.data.toList = arcL ++ b.data.toList := by rw [← hj]; rfl
    unfold ldHead
    rw [hl, if_pos (by unfold arcL; simp), show (arcL ++ b.data.toList).drop 8 = b.data.toList from rfl]
  · rw [if_neg ha]
    unfold ldHead
    rw [if_neg]
    intro hp
    obtain ⟨r, hr⟩ := List.isPrefixOf_iff_prefix.1 hp
    rw [← hr, spl_arc] at hd
    have h1 : a.data.toList = [97, 114, 99, 104, 105, 118, 101] := by
      have := congrArg (fun l : List (List UInt8) => l.head?) hd
      simpa using this
    exact ha (data_inj h1)
theorem head_other {line : ByteArray} (h : (splS 32 line).length ≠ 2) : ldHead line = none := by
  unfold ldHead
  split
  · rename_i hp
    obtain ⟨r, hr⟩ := List.isPrefixOf_iff_prefix.1 hp
    have hd := splS_data 32 line
    rw [← hr, spl_arc] at hd
    rw [← hr, show (arcL ++ r).drop 8 = r from rfl]
    cases hn : numL r with
    | none => rfl
    | some v =>
      rw [num_noblank hn] at hd
      have := congrArg List.length hd
      rw [List.length_map] at this
      exact absurd this h
  · rfl

end Go.Proofs.YtmhefhapighloaaGreatDoor

namespace Go.Proofs.YtmhefhapighloaaGreatDoor
open Go.RowKit
set_option linter.unusedVariables false

theorem splL_count (c : UInt8) : ∀ l : List UInt8, (splL c l).length = l.count c + 1
  | [] => rfl
  | b :: l => by
    have ih := splL_count c l
    by_cases hb : b = c
    · have e : splL c (b :: l) = [] :: splL c l := by subst hb; exact splL_appD b [] l (fun x hx => by cases hx)
      rw [e, List.length_cons, ih, hb, List.count_cons_self]
    · have e : (splL c (b :: l)).length = (splL c l).length := by
        show (if b = c then _ else match splL c l with | [] => _ | q :: r => (b :: q) :: r : List (List UInt8)).length = _
        rw [if_neg hb]
        cases hs : splL c l with
        | nil => exact absurd hs (splL_ne c l)
        | cons q r => rfl
      rw [e, ih, List.count_cons_of_ne (fun h => hb h)]
theorem linL_count (l : List UInt8) : (linL (mkB l)).length = l.count 10 := by
  unfold linL splS
  rw [List.length_dropLast, List.length_map, mkB_data, splL_count]; omega
theorem lin_first {x r : List UInt8} (hx : ∀ b ∈ x, b ≠ 10) : lineAt (linL (mkB (x ++ 10 :: r))) 0 = mkB x := by
  unfold linL splS
  rw [mkB_data, splL_appD 10 x r hx]
  cases hs : splL 10 r with
  | nil => exact absurd hs (splL_ne 10 r)
  | cons q t => rfl
theorem head_inv {l : List UInt8} {n : Int} (h : ldHead (mkB l) = some n) : l = arcL ++ Lib.itoa n ∧ 0 ≤ n ∧ n ≤ 32 := by
  unfold ldHead at h
  rw [mkB_data] at h
  split at h
  · rename_i hp
    obtain ⟨r, rfl⟩ := List.isPrefixOf_iff_prefix.1 hp
    have e : (arcL ++ r).drop 8 = r := rfl
    rw [e] at h
    cases hn : numL r with
    | none => rw [hn] at h; cases h
    | some m =>
      rw [hn] at h
      simp only at h
      split at h
      · rename_i hi
        obtain rfl : m = n := Option.some.inj h
        unfold inHead at hi
        rw [Bool.and_eq_true, decide_eq_true_eq, decide_eq_true_eq] at hi
        exact ⟨by rw [(numL_back hn).1], hi.1, hi.2⟩
      · cases h
  · cases h
theorem head_ok {n : Nat} (h : n ≤ 32) : ldHead (mkB (headD n)) = some (n : Int) := by
  unfold ldHead
  rw [mkB_data, show headD n = arcL ++ Lib.itoa (n : Int) from rfl]
  have e : (arcL ++ Lib.itoa (n : Int)).drop 8 = Lib.itoa n := rfl
  rw [if_pos (List.isPrefixOf_iff_prefix.2 ⟨_, rfl⟩), e, numL_itoa _ (by omega)]
  have hi : inHead (n : Int) = true := by unfold inHead; rw [decide_eq_true (by omega), decide_eq_true (by omega)]; rfl
  simp only [hi, if_true]
theorem ldRes_inv {s : ByteArray} (h : (ldRes s).2.2 = 0) : ldGo s = true ∧ ∃ n, ldHead (lineAt (linL s) 0) = some n ∧ (∀ k, 0 < k → k < (linL s).length → parseC (lineAt (linL s) k) = 0) ∧ (((linL s).length - 1 : Nat) : Int) = n := by
  cases hg : ldGo s with
  | false => rw [ldRes_no hg] at h; cases h
  | true =>
    refine ⟨rfl, ?_⟩
    cases hh : ldHead (lineAt (linL s) 0) with
    | none => rw [ldRes_head hg hh] at h; cases h
    | some n =>
      cases hb : ldBad (linL s) with
      | some k =>
        rw [ldRes_bad hg hh hb] at h
        have h1 : ldC (linL s) k = 0 := h
        unfold ldBad at hb
        have h2 := List.find?_some hb
        unfold ldP at h2
        rw [Bool.and_eq_true, decide_eq_true_eq, decide_eq_true_eq] at h2
        exact absurd h1 h2.2
      | none =>
        by_cases hl : ((ldRows (linL s) (linL s).length).length : Int) = n
        · refine ⟨n, rfl, fun k h0 hk => ?_, by rw [← hl, ldRows_len (Nat.le_refl _)]⟩
          unfold ldBad at hb
          rw [List.find?_eq_none] at hb
          have h2 := hb k (List.mem_range.2 hk)
          unfold ldP at h2
          have h3 : ldC (linL s) k = 0 := by
            refine Decidable.byContradiction fun h4 => h2 ?_
            rw [Bool.and_eq_true, decide_eq_true_eq, decide_eq_true_eq]; exact ⟨h0, h4⟩
          unfold ldC at h3
          refine Decidable.byContradiction fun h4 => ?_
          rw [if_pos h4] at h3
          exact h4 h3
        · rw [ldRes_short hg hh hb hl] at h; cases h
theorem save_mk {L : List DBlock} (h : blocksB L = true) : saveF L = mkB (flatW (W0 L)) := by unfold saveF; rw [if_pos h, save_flat]; rfl
theorem save_lines {L : List DBlock} (h : blocksB L = true) : linL (saveF L) = (W0 L).map mkB ∧ linQ (saveF L) = ⟨#[]⟩ := by
  rw [save_mk h]; exact lines_flat (W0_no10 (fun b hb => dBlocks_at h hb))
theorem W0_at {L : List DBlock} {k : Nat} (hk : k < L.length) : lineAt ((W0 L).map mkB) (k + 1) = mkB (lineD L[k]) := by
  rw [lineAt_get (by unfold W0; simp; omega), List.getElem_map]
  unfold W0
  rw [List.getElem_cons_succ, List.getElem_map]
theorem frames_read {L : List DBlock} (h : blocksB L = true) : ldRes (saveF L) = (L, 0, 0) := by
  obtain ⟨e1, e2⟩ := save_lines h
  have hb : ∀ b ∈ L, blockB b = true := fun b hx => dBlocks_at h hx
  have hl := blocksB_len h
  have hlen : (linL (saveF L)).length = L.length + 1 := by rw [e1]; unfold W0; simp
  have hgo : ldGo (saveF L) = true := by
    unfold ldGo emptyB
    rw [e2, e1, decide_eq_true rfl]; rfl
  have hh : ldHead (lineAt (linL (saveF L)) 0) = some (L.length : Int) := by rw [e1]; exact head_ok hl
  have hfine : ldFine (linL (saveF L)) (linL (saveF L)).length := by
    intro j h0 hj
    rw [hlen] at hj
    obtain ⟨m, rfl⟩ : ∃ m, j = m + 1 := ⟨j - 1, by omega⟩
    have hm : m < L.length := by omega
    unfold ldC
    rw [e1, W0_at hm, (parse_line (hb _ (List.getElem_mem hm))).1, if_neg (by simp), if_neg]
    rintro ⟨h1, h2⟩
    obtain ⟨q, rfl⟩ : ∃ q, m = q + 1 := ⟨m - 1, by omega⟩
    rw [Nat.add_sub_cancel, W0_at (by omega), (parse_line (hb _ (List.getElem_mem (by omega : q < L.length)))).2, (parse_line (hb _ (List.getElem_mem hm))).2, blocksB_two h hm] at h2
    cases h2
  have hrows : ldRows (linL (saveF L)) (linL (saveF L)).length = L := by
    unfold ldRows
    rw [List.take_length, e1]
    unfold W0
    rw [List.map_cons, List.drop_succ_cons, List.drop_zero, List.map_map, List.map_map]
    conv => rhs; rw [← List.map_id L]
    refine List.map_congr_left fun b hx => ?_
    exact (parse_line (hb b hx)).2
  have := ldRes_ok hgo hh (ldBad_none hfine) (by rw [hrows])
  rw [hrows] at this
  exact this
theorem frames_whole {L : List DBlock} (h : blocksB L = true) : dmF (saveF L) = [] := by
  obtain ⟨e1, e2⟩ := save_lines h
  have hb : ∀ b ∈ L, blockB b = true := fun b hx => dBlocks_at h hx
  have hlen : (linL (saveF L)).length = L.length + 1 := by rw [e1]; unfold W0; simp
  have hat : ∀ k, k ≤ L.length + 1 → dmB (linL (saveF L)) (linQ (saveF L)) k = false := by
    intro k hk
    rcases Nat.lt_or_ge k (L.length + 1) with hk1 | hk1
    · rcases Nat.eq_zero_or_pos k with rfl | hk0
      · exact dmB_first (by omega)
      · obtain ⟨m, rfl⟩ : ∃ m, k = m + 1 := ⟨k - 1, by omega⟩
        have hkl : m + 1 < (linL (saveF L)).length := by omega
        rw [dmB_in hkl (by omega) 0 ?_]
        · rfl
        · have := W0_at (L := L) (k := m) (by omega)
          rw [← e1, lineAt_get hkl] at this
          rw [this]
          exact (parse_line (hb _ (List.getElem_mem _))).1
    · rw [dmB_last (by omega), e2]; rfl
  have hK : ∀ k, k ≤ L.length + 2 → dmK (linL (saveF L)) (linQ (saveF L)) k = [] := by
    intro k
    induction k with
    | zero => intro _; rfl
    | succ k ih =>
      intro hk
      rw [dmK_no (by omega) (hat k (by omega))]
      exact ih (by omega)
  unfold dmF
  exact hK _ (by omega)
theorem frames_salvage {L : List DBlock} (h : blocksB L = true) : sgF (saveF L) = L := by
  obtain ⟨e1, e2⟩ := save_lines h
  have hb : ∀ b ∈ L, blockB b = true := fun b hx => dBlocks_at h hx
  unfold sgF sgK
  rw [List.take_length, e1]
  unfold W0
  rw [List.map_cons, List.drop_succ_cons, List.drop_zero, List.map_map]
  have := sg_run L [] (by rw [List.nil_append]; exact ordered_pairwise.1 (blocksB_ordered h)) hb (by have := blocksB_len h; simp; omega)
  rw [List.nil_append] at this
  exact this
theorem itoa_small {n : Nat} (h : n < 100) : (Lib.itoa (n : Int)).length = if n < 10 then 1 else 2 := by
  by_cases h0 : n = 0
  · subst h0; rw [show ((0 : Nat) : Int) = 0 from rfl, itoa_zeroL]; rfl
  · rw [itoa_natL h0, dig_step h0, List.length_append]
    by_cases h1 : n < 10
    · rw [if_pos h1, show n / 10 = 0 by omega, dig_zero]; rfl
    · rw [if_neg h1, dig_step (by omega), show n / 10 / 10 = 0 by omega, dig_zero]; rfl
theorem itoa_mono {n m : Nat} (h : n ≤ m) (hm : m < 100) : (Lib.itoa (n : Int)).length ≤ (Lib.itoa (m : Int)).length := by
  rw [itoa_small (by omega), itoa_small hm]
  split <;> split <;> omega
theorem headD_arc (n : Nat) : headD n = arcL ++ Lib.itoa n := rfl
theorem headD_no10 (n : Nat) : ∀ x ∈ headD n, x ≠ 10 := by
  intro x hx
  unfold headD at hx
  rcases List.mem_append.1 hx with hx | hx
  · have h9 : ∀ y ∈ ([97, 114, 99, 104, 105, 118, 101, 32] : List UInt8), y ≠ 10 := by decide
    exact h9 x hx
  · exact itoa_no10 _ x hx
theorem headD_len (n : Nat) : (headD n).length = 8 + (Lib.itoa (n : Int)).length := by rw [headD_arc, List.length_append]; rfl
theorem no10_count {l : List UInt8} (h : ∀ x ∈ l, x ≠ 10) : l.count 10 = 0 := by rw [List.count_eq_zero]; intro hm; exact h 10 hm rfl
theorem flat_count : ∀ W : List (List UInt8), (∀ w ∈ W, ∀ b ∈ w, b ≠ 10) → (flatW W).count 10 = W.length
  | [], _ => rfl
  | w :: W, h => by
    rw [flatW_cons, List.count_append, List.count_cons_self, flat_count W (fun x hx => h x (by simp [hx])), no10_count (h w (by simp)), List.length_cons]; omega
theorem frames_bent {L : List DBlock} (h : blocksB L = true) {a : Nat} {o c : UInt8} (ha : (saveL L L.length)[a]? = some o) (hoc : o ≠ c) : (ldRes (mkB ((saveL L L.length).set a c))).2.2 ≠ 0 := by
  intro hz
  obtain ⟨hgo, n', hh, hpar, hn'⟩ := ldRes_inv hz
  have hb : ∀ b ∈ L, blockB b = true := fun b hx => dBlocks_at h hx
  have hl := blocksB_len h
  have hW := W0_no10 hb
  rw [linL_count] at hn'
  rw [save_flat] at *
  have hcnt : (flatW (W0 L)).count 10 = L.length + 1 := by rw [flat_count _ hW]; unfold W0; simp
  have hal : a < (flatW (W0 L)).length := (List.getElem?_eq_some_iff.1 ha).1
  have hao : (flatW (W0 L))[a] = o := (List.getElem?_eq_some_iff.1 ha).2
  have hc2 := List.count_set (b := (10 : UInt8)) (a := c) (l := flatW (W0 L)) (i := a) hal
  rw [hcnt, hao] at hc2
  have hX : flatW (W0 L) = headD L.length ++ 10 :: flatW (L.map lineD) := by unfold W0; rw [flatW_cons]
  have hH := headD_no10 L.length
  have hHl := headD_len L.length
  rcases Nat.lt_trichotomy a (headD L.length).length with h1 | h1 | h1
  · -- in the head
    have hset : (flatW (W0 L)).set a c = (headD L.length).set a c ++ 10 :: flatW (L.map lineD) := by rw [hX, List.set_append_left _ _ h1]
    have hoH : (headD L.length)[a] = o := by
      have := hao
      rw [List.getElem_of_eq hX hal, List.getElem_append_left h1] at this
      exact this
    have ho : o ≠ 10 := by rw [← hoH]; exact hH _ (List.getElem_mem h1)
    by_cases hc : c = 10
    · subst hc
      have e : (headD L.length).set a 10 = (headD L.length).take a ++ 10 :: (headD L.length).drop (a + 1) := by rw [List.set_eq_take_append_cons_drop, if_pos h1]
      rw [hset, e, List.append_assoc, List.cons_append, lin_first (fun x hx => hH x (List.mem_of_mem_take hx))] at hh
      obtain ⟨g1, g2, g3⟩ := head_inv hh
      rw [hc2, if_neg (by simpa using ho), if_pos (by simp)] at hn'
      have hn2 : n' = ((L.length + 1 : Nat) : Int) := by omega
      rw [hn2] at g1
      have g4 := congrArg List.length g1
      rw [List.length_take, List.length_append, Nat.min_eq_left (by omega)] at g4
      have g5 := itoa_mono (n := L.length) (m := L.length + 1) (by omega) (by omega)
      have g6 : arcL.length = 8 := rfl
      omega
    · have hno : ∀ x ∈ (headD L.length).set a c, x ≠ 10 := fun x hx => by
        rcases List.mem_or_eq_of_mem_set hx with hx | rfl
        · exact hH x hx
        · exact hc
      rw [hset, lin_first hno] at hh
      obtain ⟨g1, g2, g3⟩ := head_inv hh
      rw [hc2, if_neg (by simpa using ho), if_neg (by simpa using hc)] at hn'
      have hn2 : n' = (L.length : Int) := by omega
      rw [hn2, ← headD_arc] at g1
      have g4 := congrArg (fun t : List UInt8 => t[a]?) g1
      rw [List.getElem?_set_self h1, List.getElem?_eq_getElem h1, hoH] at g4
      exact hoc (Option.some.inj g4).symm
  · -- the newline behind the head
    have ho : o = 10 := by
      have := hao
      rw [List.getElem_of_eq hX hal, List.getElem_append_right (by omega)] at this
      simp [h1] at this
      exact this.symm
    subst ho
    have hc : c ≠ 10 := fun e => hoc e.symm
    have hset : (flatW (W0 L)).set a c = headD L.length ++ c :: flatW (L.map lineD) := by rw [hX, List.set_append_right _ _ (by omega), h1, Nat.sub_self, List.set_cons_zero]
    rw [hc2, if_pos (by simp), if_neg (by simpa using hc)] at hn'
    cases L with
    | nil =>
      have hq : linL (mkB ((flatW (W0 [])).set a c)) = [] := by
        rw [← List.length_eq_zero_iff, linL_count, hc2, if_pos (by simp), if_neg (by simpa using hc)]; rfl
      unfold ldGo at hgo
      rw [hq] at hgo
      simp at hgo
    | cons b L' =>
      have hx : headD (b :: L').length ++ c :: flatW ((b :: L').map lineD) = (headD (b :: L').length ++ c :: lineD b) ++ 10 :: flatW (L'.map lineD) := by
        rw [List.map_cons, flatW_cons]; simp
      rw [hset, hx, lin_first (fun y hy => by
        rcases List.mem_append.1 hy with hy | hy
        · exact hH y hy
        · rcases List.mem_cons.1 hy with rfl | hy
          · exact hc
          · exact lineD_no10 (hb b (by simp)) y hy)] at hh
      obtain ⟨g1, g2, g3⟩ := head_inv hh
      have g4 := congrArg List.length g1
      rw [List.length_append, List.length_append, hHl, List.length_cons] at g4
      simp only [List.length_cons] at hn' g4 hl
      have hn2 : n' = ((L'.length : Nat) : Int) := by omega
      rw [hn2] at g4
      have g5 := itoa_mono (n := L'.length) (m := L'.length + 1) (by omega) (by omega)
      have g6 : arcL.length = 8 := rfl
      omega
  · -- behind the head
    obtain ⟨d, hd⟩ : ∃ d, a = (headD L.length).length + (d + 1) := ⟨a - (headD L.length).length - 1, by omega⟩
    have hset : (flatW (W0 L)).set a c = headD L.length ++ 10 :: (flatW (L.map lineD)).set d c := by
      rw [hX, List.set_append_right _ _ (by omega), hd, Nat.add_sub_cancel_left, List.set_cons_succ]
    have hhead : lineAt (linL (mkB ((flatW (W0 L)).set a c))) 0 = mkB (headD L.length) := by rw [hset, lin_first hH]
    rw [hhead, head_ok hl] at hh
    obtain rfl : (L.length : Int) = n' := Option.some.inj hh
    by_cases ho : o = 10
    · have hc : c ≠ 10 := fun e => hoc (ho.trans e.symm)
      rw [hc2, if_pos (by simpa using ho), if_neg (by simpa using hc)] at hn'
      have hL0 : L.length = 0 := by omega
      have hHl0 := hHl
      have : L = [] := List.length_eq_zero_iff.1 hL0
      subst this
      have h7 := congrArg List.length hX
      rw [List.length_append, List.length_cons, show flatW (([] : List DBlock).map lineD) = [] from rfl, @List.length_nil UInt8] at h7
      omega
    · by_cases hc : c = 10
      · rw [hc2, if_neg (by simpa using ho), if_pos (by simpa using hc)] at hn'
        omega
      · obtain ⟨i, p, q, k1, k2, k3, k4⟩ := cut_at (W0 L) a o c hW ha ho
        have hi : i ≠ 0 := by
          intro hi0
          rw [hi0, hX, List.take_append, List.take_of_length_le (by omega), hd, Nat.add_sub_cancel_left, List.take_succ_cons, List.count_append, List.count_cons_self] at k3
          omega
        obtain ⟨j, rfl⟩ : ∃ j, i = j + 1 := ⟨i - 1, by omega⟩
        have hj : j < L.length := by unfold W0 at k1; simp at k1; omega
        have hlj : lineD L[j] = p ++ o :: q := by
          unfold W0 at k2
          rw [List.getElem?_cons_succ, List.getElem?_map, List.getElem?_eq_getElem hj] at k2
          exact Option.some.inj k2
        have hbad : parseC (mkB (p ++ c :: q)) ≠ 0 := by
          refine parse_bent (o := o) ?_ hoc
          rw [← hlj]; exact (parse_line (hb _ (List.getElem_mem hj))).1
        have hno : ∀ w ∈ (W0 L).set (j + 1) (p ++ c :: q), ∀ x ∈ w, x ≠ 10 := by
          intro w hw x hx
          rcases List.mem_or_eq_of_mem_set hw with hw | rfl
          · exact hW w hw x hx
          · have hl0 := lineD_no10 (hb _ (List.getElem_mem hj))
            rw [hlj] at hl0
            rcases List.mem_append.1 hx with hx | hx
            · exact hl0 x (by simp [hx])
            · rcases List.mem_cons.1 hx with rfl | hx
              · exact hc
              · exact hl0 x (by simp [hx])
        obtain ⟨e1, _⟩ := lines_flat hno
        have hlen : j + 1 < (linL (mkB ((flatW (W0 L)).set a c))).length := by rw [k4, e1]; simp; unfold W0; simp; omega
        have := hpar (j + 1) (by omega) hlen
        rw [lineAt_get hlen] at this
        refine hbad ?_
        rw [← this]
        congr 1
        have e9 : linL (mkB ((flatW (W0 L)).set a c)) = ((W0 L).set (j + 1) (p ++ c :: q)).map mkB := by rw [k4, e1]
        rw [List.getElem_of_eq e9, List.getElem_map, List.getElem_set_self]
end Go.Proofs.YtmhefhapighloaaGreatDoor

namespace Go.Proofs.YtmhefhapighloaaGreatDoor
open Go.RowKit
set_option linter.unusedVariables false

def numOk (s : ByteArray) : Bool := (numL s.data.toList).isSome
def numV (s : ByteArray) : Int := (numL s.data.toList).getD 0
theorem num_none {s : ByteArray} (h : numL s.data.toList = none) : numOk s = false ∧ numV s = 0 := by unfold numOk numV; rw [h]; exact ⟨rfl, rfl⟩
theorem num_some {s : ByteArray} {v : Int} (h : numL s.data.toList = some v) : numOk s = true ∧ numV s = v := by unfold numOk numV; rw [h]; exact ⟨rfl, rfl⟩
structure RdTabs (w : World) : Prop where
  tab : Tab10 w
  syn : ∃ tp p, w.var? Tryz.prog "strconv.ErrSyntax" = some #[.iface tp p]
  ran : ∃ tp p, w.var? Tryz.prog "strconv.ErrRange" = some #[.iface tp p]
theorem RdTabs.below {w w' : World} (h : RdTabs w) (hb : Below w.heap.size w w') : RdTabs w' := by
  obtain ⟨h1, ⟨t1, p1, h2⟩, ⟨t2, p2, h3⟩⟩ := h
  exact ⟨h1.below hb, ⟨t1, p1, Go.Joins.var_stays (g := 2) (by kernel_rfl) h2 hb (Nat.le_refl _)⟩, ⟨t2, p2, Go.Joins.var_stays (g := 3) (by kernel_rfl) h3 hb (Nat.le_refl _)⟩⟩
theorem starErr : ("*" ++ "errors.errorString") = "*errors.errorString" := by decide
theorem errRow (u : TypeId) (h : Tryz.prog.typeName? 3 u = some "*errors.errorString") : u = 170 :=
  typeName_ptr_named (nm := "errors.errorString") (by rw [starErr]; kernel_rfl) (by kernel_rfl) (by decide) u (by rw [starErr]; exact h)
set_option maxRecDepth 100000 in
theorem rdTabs_of {laid : List (String × DataW Unit)} {W : World} (h : laidMetH Tryz.prog laid W) (h0 : laid.filter (fun x => x.1 == "internal/strconv.uint64pow10") = [("internal/strconv.uint64pow10", Lib.tabData .u64 Lib.pow10Tab)])
    (h1 : laid.filter (fun x => x.1 == "strconv.ErrSyntax") = [("strconv.ErrSyntax", .iface "*errors.errorString" (.ptr (.agg [.lit (.string [105, 110, 118, 97, 108, 105, 100, 32, 115, 121, 110, 116, 97, 120])])))])
    (h2 : laid.filter (fun x => x.1 == "strconv.ErrRange") = [("strconv.ErrRange", .iface "*errors.errorString" (.ptr (.agg [.lit (.string [118, 97, 108, 117, 101, 32, 111, 117, 116, 32, 111, 102, 32, 114, 97, 110, 103, 101])])))]) : RdTabs W := by
  have g1 := h.filter (fun x => x.1 == "strconv.ErrSyntax")
  rw [h1] at g1
  have g1 := Eq.mp (MakeChecks.laidMetH_plain _ _ _ rfl) g1
  have g2 := h.filter (fun x => x.1 == "strconv.ErrRange")
  rw [h2] at g2
  have g2 := Eq.mp (MakeChecks.laidMetH_plain _ _ _ rfl) g2
  obtain ⟨a1, s1, q1, _⟩ := laid_sentinel (ti := 52) g1 (g := 2) (by kernel_rfl) (by kernel_rfl) Tryz.underlying52 errRow Tryz.underlying170 Tryz.underlying172 rfl rfl Tryz.underlying9 (by kernel_rfl) (by kernel_rfl)
  obtain ⟨a2, s2, q2, _⟩ := laid_sentinel (ti := 52) g2 (g := 3) (by kernel_rfl) (by kernel_rfl) Tryz.underlying52 errRow Tryz.underlying170 Tryz.underlying172 rfl rfl Tryz.underlying9 (by kernel_rfl) (by kernel_rfl)
  exact ⟨tab10_of h h0, ⟨_, _, q1⟩, ⟨_, _, q2⟩⟩
theorem trim_minus (l : List UInt8) : Lib.trimPrefix l [45] = bodyL l := by
  unfold Lib.trimPrefix Lib.hasPrefix bodyL
  cases l with
  | nil => rfl
  | cons c r =>
    by_cases h : c = 45
    · subst h; simp
    · have h' : ¬ 45 = c := fun e => h e.symm
      simp [h, h']
--NUMBER
theorem num_len {l : List UInt8} (h : (bodyL l).length = 0 ∨ 18 < (bodyL l).length) : numL l = none := by
  unfold numL; rw [if_pos]
  rcases h with h | h
  · rw [List.eq_nil_of_length_eq_zero h]; rfl
  · simp [h]
theorem num_zero {l : List UInt8} (h : (bodyL l).head? = some 48) (h1 : 1 < l.length) : numL l = none := by
  unfold numL; rw [if_pos]; simp [h, h1]
theorem num_bad {l : List UInt8} {k : Nat} (hk : k < (bodyL l).length) (h : digB (bodyL l)[k] = false) : numL l = none := by
  unfold numL; rw [if_pos]
  have : (bodyL l).all digB = false := by
    rw [List.all_eq_false]; exact ⟨_, List.getElem_mem hk, by rw [h]; decide⟩
  simp [this]
theorem num_is {l : List UInt8} (h0 : 0 < (bodyL l).length) (h18 : (bodyL l).length ≤ 18) (hz : ¬ ((bodyL l).head? = some 48 ∧ 1 < l.length)) (ha : (bodyL l).all digB = true) : numL l = some (if l.head? = some 45 then -(valL 0 (bodyL l) : Int) else (valL 0 (bodyL l) : Int)) := by
  unfold numL; rw [if_neg]
  intro h
  simp only [Bool.or_eq_true, Bool.and_eq_true, decide_eq_true_eq, Bool.not_eq_true', List.isEmpty_iff] at h
  rcases h with ((h | h) | h) | h
  · rw [h] at h0; simp at h0
  · omega
  · exact hz h
  · rw [ha] at h; cases h
theorem digitB_dig (c : UInt8) : digitB (c.toNat : Int) = digB c := by
  unfold digitB digB inB
  rw [Bool.eq_iff_iff]
  simp
  omega
theorem byte_ne48 {a : UInt8} (h : a ≠ 48) : ¬ (a.toNat : Int) = 48 := by
  intro e; have h48 : (48 : UInt8).toNat = 48 := rfl
  exact h (UInt8.toNat_inj.1 (by omega))
theorem at_listN {s : ByteArray} {k : Nat} (h : k < s.size) : s.data.toList[k]? = some s[k] := by
  rw [List.getElem?_eq_getElem (by simpa using h)]; rfl
--NUMBEREND
set_option maxRecDepth 100000 in
set_option maxHeartbeats 4000000 in
theorem ReadDecimal_any (s : ByteArray) (w : World) (hs : s.size ≤ 1048576) (ht : RdTabs w) :
    Calls Tryz.prog 29 #[.string s] w fun e w' => e = .returned (.tuple #[.int .i64 (numV s), .bool (numOk s)]) ∧ Below w.heap.size w w' := by
  have hno : (∀ v, Lib.parseIntB 64 s.data.toList ≠ .ok v) → numOk s = false ∧ numV s = 0 := fun h => num_none (by
    cases hn : numL s.data.toList with
    | none => rfl
    | some v => exact absurd (parse_of_num hn) (h v))
  rcases hp : Lib.parseIntB 64 s.data.toList with v | _ | _
  · have hbd := Lib.parseIntB_bounds hp
    have hv0 : -9223372036854775808 ≤ v := by have := hbd.1; simpa using this
    have e63 : ((2 ^ (64 - 1) : Nat) : Int) = 9223372036854775808 := by decide
    have hv1 : v ≤ 9223372036854775807 := by have := hbd.2; omega
    clear e63
    clear hbd
    obtain ⟨b, hbl⟩ : ∃ b : ByteArray, b = ⟨(bodyL s.data.toList).toArray⟩ := ⟨_, rfl⟩
    have hbs : b.size = (bodyL s.data.toList).length := by rw [hbl, show (ByteArray.mk (bodyL s.data.toList).toArray).size = (bodyL s.data.toList).toArray.size from rfl]; simp
    have hble : b.size ≤ 1048576 := by
      rw [hbs]
      have : (bodyL s.data.toList).length ≤ s.data.toList.length := by unfold bodyL; split <;> simp
      have h2 : s.data.toList.length = s.size := by simp
      omega
    have htr : (⟨(Lib.trimPrefix s.data.toList (ByteArray.mk #[45]).data.toList).toArray⟩ : ByteArray) = b := by
      rw [hbl, show (ByteArray.mk #[45]).data.toList = [45] from rfl, trim_minus]
    have HP := Lib.hid hp
    clear hp
    by_cases h18 : (18 : Int) < (b.size : Int)
    · obtain ⟨hn1, hn2⟩ : numOk s = false ∧ numV s = 0 := num_none (by
        cases hn : numL s.data.toList with
        | none => rfl
        | some u => have := (numL_back hn).2.2; omega)
      rw [hn1, hn2]
      clear hn1 hn2 hbl hbs
      go_enter Tryz.func29, Tryz.ntmps29
      go_wp2_with fail
      refine (Tryz.strconv_ParseInt_10_at64_ok s (by omega) v HP.out _).mono ?_
      rintro e w1 ⟨rfl, hw1⟩
      have hb1 : Below w.heap.size w w1 := by
        rcases hw1 with rfl | ⟨t, rfl⟩
        · exact Below.refl _ _
        · exact Go.Joins.below_bytesWorld _ _ _ _ (Nat.le_refl _)
      clear hw1
      go_wp2_with fail
      refine (Tryz.strings_TrimPrefix s _ _).mono ?_
      rintro e w' ⟨rfl, rfl⟩
      rw [htr]
      go_wp2
      go_ret2
      exact ⟨rfl, hb1⟩
    · have hd21 := itoa_len20 hv0 hv1
      rw [← decS_size] at hd21
      by_cases hd : decS v = s
      · have hl : Lib.itoa v = s.data.toList := by
          have := congrArg (fun x : ByteArray => x.data.toList) hd
          simpa [decS] using this
        obtain ⟨hn1, hn2⟩ : numOk s = true ∧ numV s = v := num_some (num_of_parse (by omega) hl)
        have e1 : ((decS v).toList == s.toList) = true := by rw [beq_iff_eq, hd]
        rw [hn1, hn2]
        clear hn1 hn2 hbl hbs hl hd
        go_enter Tryz.func29, Tryz.ntmps29
        go_wp2_with fail
        refine (Tryz.strconv_ParseInt_10_at64_ok s (by omega) v HP.out _).mono ?_
        rintro e w1 ⟨rfl, hw1⟩
        have hb1 : Below w.heap.size w w1 := by
          rcases hw1 with rfl | ⟨t, rfl⟩
          · exact Below.refl _ _
          · exact Go.Joins.below_bytesWorld _ _ _ _ (Nat.le_refl _)
        clear hw1
        go_wp2_with fail
        refine (Tryz.strings_TrimPrefix s _ _).mono ?_
        rintro e w' ⟨rfl, rfl⟩
        rw [htr]
        go_wp2_with fail
        refine (Decimal_any v _ hv0 hv1 (ht.tab.below hb1)).mono ?_
        rintro e w2 ⟨rfl, hb2⟩
        go_wp2
        go_ret2
        exact ⟨rfl, hb1.trans (hb2.mono hb1.size)⟩
      · obtain ⟨hn1, hn2⟩ : numOk s = false ∧ numV s = 0 := num_none (by
          cases hn : numL s.data.toList with
          | none => rfl
          | some u =>
            have h1 := parse_of_num hn
            rw [HP.out] at h1
            injection h1 with h1
            subst h1
            exact absurd (show decS v = s from by unfold decS; rw [(numL_back hn).1]) hd)
        have e1 : ((decS v).toList == s.toList) = false := bytes_beq_false hd
        rw [hn1, hn2]
        clear hn1 hn2 hbl hbs hd
        go_enter Tryz.func29, Tryz.ntmps29
        go_wp2_with fail
        refine (Tryz.strconv_ParseInt_10_at64_ok s (by omega) v HP.out _).mono ?_
        rintro e w1 ⟨rfl, hw1⟩
        have hb1 : Below w.heap.size w w1 := by
          rcases hw1 with rfl | ⟨t, rfl⟩
          · exact Below.refl _ _
          · exact Go.Joins.below_bytesWorld _ _ _ _ (Nat.le_refl _)
        clear hw1
        go_wp2_with fail
        refine (Tryz.strings_TrimPrefix s _ _).mono ?_
        rintro e w' ⟨rfl, rfl⟩
        rw [htr]
        go_wp2_with fail
        refine (Decimal_any v _ hv0 hv1 (ht.tab.below hb1)).mono ?_
        rintro e w2 ⟨rfl, hb2⟩
        go_wp2
        go_ret2
        exact ⟨rfl, hb1.trans (hb2.mono hb1.size)⟩
  · obtain ⟨hn1, hn2⟩ := hno (fun v h => by rw [hp] at h; cases h)
    obtain ⟨tp, p, hv⟩ := ht.syn
    rw [hn1, hn2]
    go_enter Tryz.func29, Tryz.ntmps29
    go_wp2_with fail
    refine (Tryz.strconv_ParseInt_10_at64_syntax_var s (by omega) hp tp p _ hv).mono ?_
    rintro e w1 ⟨N, rfl, _, _, hb⟩
    go_wp2
    go_ret2
    exact ⟨rfl, hb⟩
  · obtain ⟨hn1, hn2⟩ := hno (fun v h => by rw [hp] at h; cases h)
    obtain ⟨tp, p, hv⟩ := ht.ran
    rw [hn1, hn2]
    go_enter Tryz.func29, Tryz.ntmps29
    go_wp2_with fail
    refine (Tryz.strconv_ParseInt_10_at64_range_var s (by omega) hp tp p _ hv).mono ?_
    rintro e w1 ⟨N, rfl, _, _, hb⟩
    go_wp2
    go_ret2
    exact ⟨rfl, hb⟩
end Go.Proofs.YtmhefhapighloaaGreatDoor
