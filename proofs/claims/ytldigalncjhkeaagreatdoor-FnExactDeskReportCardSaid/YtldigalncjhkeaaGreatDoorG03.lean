/- Parts of the proof: Df, Nm, Lv, PObserved, PTest, PStand, PVerified, PShot, PWatch, Ve. -/
import Derived.Test.YtldigalncjhkeaaGreatDoorG01
import Derived.Test.YtldigalncjhkeaaGreatDoorG02
namespace Go.Proofs.YtldigalncjhkeaaGreatDoor
open Go.RowKit
set_option linter.unusedVariables false

/-- The slices of a desk. -/
structure DVals where
  ob : Value
  ma : Value
  te : Value
  st : Value
  pa : Value
  zo : Value
  re : Value
  ve : Value
  sh : Value
  gr : Value
  wa : Value
  in_ : Value

structure DDesk where
  rows : Int
  columns : Int
  ob : List DObserved
  ma : List Int
  te : List DTest
  st : List DStand
  pa : List DPathPoint
  zo : List Int
  re : List DRegion
  ve : List DVerified
  sh : List DShot
  gr : List DGroup
  wa : List DWatch
  in_ : List DIncident
def deskA (v : DVals) (x : DDesk) : Value := .agg #[v.ob, .int .i64 x.rows, .int .i64 x.columns, v.ma, v.te, v.st, v.pa, v.zo, v.re, v.ve, v.sh, v.gr, v.wa, v.in_]
/-- The desk's slices read as its lists. -/
structure DeskRd (w : World) (v : DVals) (x : DDesk) (F : Nat → List Nat) : Prop where
  ob : Sl fObserved.cod w v.ob x.ob (F 0)
  ma : Sl fInt.cod w v.ma x.ma (F 1)
  te : Sl fTest.cod w v.te x.te (F 2)
  st : Sl fStand.cod w v.st x.st (F 3)
  pa : Sl fPathPoint.cod w v.pa x.pa (F 4)
  zo : Sl fInt.cod w v.zo x.zo (F 5)
  re : Sl cRegion w v.re x.re (F 6)
  ve : Sl fVerified.cod w v.ve x.ve (F 7)
  sh : Sl fShot.cod w v.sh x.sh (F 8)
  gr : Sl fGroup.cod w v.gr x.gr (F 9)
  wa : Sl fWatch.cod w v.wa x.wa (F 10)
  in_ : Sl fIncident.cod w v.in_ x.in_ (F 11)
theorem DeskRd.below' {w w' : World} {v : DVals} {x : DDesk} {F : Nat → List Nat} (h : DeskRd w v x F) (hb : Below w.heap.size w w') : DeskRd w' v x F :=
  ⟨h.ob.below' hb, h.ma.below' hb, h.te.below' hb, h.st.below' hb, h.pa.below' hb, h.zo.below' hb, h.re.below' hb, h.ve.below' hb, h.sh.below' hb, h.gr.below' hb, h.wa.below' hb, h.in_.below' hb⟩
/-- The slices are written as they are. -/
structure DeskSh (v : DVals) : Prop where
  ob : ∃ A n c, v.ob = .slice A n c
  ma : ∃ A n c, v.ma = .slice A n c
  te : ∃ A n c, v.te = .slice A n c
  st : ∃ A n c, v.st = .slice A n c
  pa : ∃ A n c, v.pa = .slice A n c
  zo : ∃ A n c, v.zo = .slice A n c
  re : ∃ A n c, v.re = .slice A n c
  ve : ∃ A n c, v.ve = .slice A n c
  sh : ∃ A n c, v.sh = .slice A n c
  gr : ∃ A n c, v.gr = .slice A n c
  wa : ∃ A n c, v.wa = .slice A n c
  in_ : ∃ A n c, v.in_ = .slice A n c
theorem DeskRd.shape {w : World} {v : DVals} {x : DDesk} {F : Nat → List Nat} (h : DeskRd w v x F) : DeskSh v :=
  ⟨(let ⟨A, c, e, _⟩ := h.ob.form; ⟨A, _, c, e⟩), (let ⟨A, c, e, _⟩ := h.ma.form; ⟨A, _, c, e⟩), (let ⟨A, c, e, _⟩ := h.te.form; ⟨A, _, c, e⟩), (let ⟨A, c, e, _⟩ := h.st.form; ⟨A, _, c, e⟩), (let ⟨A, c, e, _⟩ := h.pa.form; ⟨A, _, c, e⟩), (let ⟨A, c, e, _⟩ := h.zo.form; ⟨A, _, c, e⟩), (let ⟨A, c, e, _⟩ := h.re.form; ⟨A, _, c, e⟩), (let ⟨A, c, e, _⟩ := h.ve.form; ⟨A, _, c, e⟩), (let ⟨A, c, e, _⟩ := h.sh.form; ⟨A, _, c, e⟩), (let ⟨A, c, e, _⟩ := h.gr.form; ⟨A, _, c, e⟩), (let ⟨A, c, e, _⟩ := h.wa.form; ⟨A, _, c, e⟩), (let ⟨A, c, e, _⟩ := h.in_.form; ⟨A, _, c, e⟩)⟩
/-- A desk in a box. -/
structure DBox (w : World) (g : Nat) (v : DVals) (x : DDesk) : Prop where
  c0 : w.cell? ⟨g, 0, none⟩ = some (v.ob)
  c1 : w.cell? ⟨g, 1, none⟩ = some (.int .i64 x.rows)
  c2 : w.cell? ⟨g, 2, none⟩ = some (.int .i64 x.columns)
  c3 : w.cell? ⟨g, 3, none⟩ = some (v.ma)
  c4 : w.cell? ⟨g, 4, none⟩ = some (v.te)
  c5 : w.cell? ⟨g, 5, none⟩ = some (v.st)
  c6 : w.cell? ⟨g, 6, none⟩ = some (v.pa)
  c7 : w.cell? ⟨g, 7, none⟩ = some (v.zo)
  c8 : w.cell? ⟨g, 8, none⟩ = some (v.re)
  c9 : w.cell? ⟨g, 9, none⟩ = some (v.ve)
  c10 : w.cell? ⟨g, 10, none⟩ = some (v.sh)
  c11 : w.cell? ⟨g, 11, none⟩ = some (v.gr)
  c12 : w.cell? ⟨g, 12, none⟩ = some (v.wa)
  c13 : w.cell? ⟨g, 13, none⟩ = some (v.in_)
theorem DBox.below {w w' : World} {g B : Nat} {v : DVals} {x : DDesk} (h : DBox w g v x) (hb : Below B w w') (hg : g < B) : DBox w' g v x :=
  ⟨(hb.cell (p := ⟨g, _, none⟩) hg).trans h.c0, (hb.cell (p := ⟨g, _, none⟩) hg).trans h.c1, (hb.cell (p := ⟨g, _, none⟩) hg).trans h.c2, (hb.cell (p := ⟨g, _, none⟩) hg).trans h.c3, (hb.cell (p := ⟨g, _, none⟩) hg).trans h.c4, (hb.cell (p := ⟨g, _, none⟩) hg).trans h.c5, (hb.cell (p := ⟨g, _, none⟩) hg).trans h.c6, (hb.cell (p := ⟨g, _, none⟩) hg).trans h.c7, (hb.cell (p := ⟨g, _, none⟩) hg).trans h.c8, (hb.cell (p := ⟨g, _, none⟩) hg).trans h.c9, (hb.cell (p := ⟨g, _, none⟩) hg).trans h.c10, (hb.cell (p := ⟨g, _, none⟩) hg).trans h.c11, (hb.cell (p := ⟨g, _, none⟩) hg).trans h.c12, (hb.cell (p := ⟨g, _, none⟩) hg).trans h.c13⟩
theorem DBox.lt {w : World} {g : Nat} {v : DVals} {x : DDesk} (h : DBox w g v x) : g < w.heap.size := block_lt_of_cell h.c0
theorem DBox.below' {w w' : World} {g : Nat} {v : DVals} {x : DDesk} (h : DBox w g v x) (hb : Below w.heap.size w w') : DBox w' g v x := h.below hb h.lt
theorem DBox.only {w w' : World} {g : Nat} {v : DVals} {x : DDesk} {fp : List Nat} (h : DBox w g v x) (ho : Only fp w w') (hg : g ∉ fp) : DBox w' g v x :=
  ⟨(World.cell?_of_block (a := ⟨g, 0, none⟩) (ho.block g h.lt hg)).trans h.c0, (World.cell?_of_block (a := ⟨g, 1, none⟩) (ho.block g h.lt hg)).trans h.c1, (World.cell?_of_block (a := ⟨g, 2, none⟩) (ho.block g h.lt hg)).trans h.c2, (World.cell?_of_block (a := ⟨g, 3, none⟩) (ho.block g h.lt hg)).trans h.c3, (World.cell?_of_block (a := ⟨g, 4, none⟩) (ho.block g h.lt hg)).trans h.c4, (World.cell?_of_block (a := ⟨g, 5, none⟩) (ho.block g h.lt hg)).trans h.c5, (World.cell?_of_block (a := ⟨g, 6, none⟩) (ho.block g h.lt hg)).trans h.c6, (World.cell?_of_block (a := ⟨g, 7, none⟩) (ho.block g h.lt hg)).trans h.c7, (World.cell?_of_block (a := ⟨g, 8, none⟩) (ho.block g h.lt hg)).trans h.c8, (World.cell?_of_block (a := ⟨g, 9, none⟩) (ho.block g h.lt hg)).trans h.c9, (World.cell?_of_block (a := ⟨g, 10, none⟩) (ho.block g h.lt hg)).trans h.c10, (World.cell?_of_block (a := ⟨g, 11, none⟩) (ho.block g h.lt hg)).trans h.c11, (World.cell?_of_block (a := ⟨g, 12, none⟩) (ho.block g h.lt hg)).trans h.c12, (World.cell?_of_block (a := ⟨g, 13, none⟩) (ho.block g h.lt hg)).trans h.c13⟩
theorem DBox.new (w : World) (v : DVals) (x : DDesk) (T : TypeId) : DBox (w.alloc (.cells #[v.ob, .int .i64 x.rows, .int .i64 x.columns, v.ma, v.te, v.st, v.pa, v.zo, v.re, v.ve, v.sh, v.gr, v.wa, v.in_] T)) w.heap.size v x := by
  constructor <;> simp
theorem Sl.nilD {α : Type} (E : Cod α) (w : World) : Sl E w (.slice none 0 0) ([] : List α) [] := ⟨none, 0, rfl, by simp, by simp [maxLen], .inl ⟨rfl, rfl⟩⟩
set_option maxRecDepth 100000 in
set_option maxHeartbeats 2000000 in
theorem eqField_any (r c : Int) (v v' : Value) (xs : List Int) (fp fp' : List Nat) (w : World) (hx : Sl fInt.cod w v xs fp) (hy : Sl fInt.cod w v' xs fp') :
    Calls Tryz.prog 42 #[.agg #[.int .i64 r, .int .i64 c, v], .agg #[.int .i64 r, .int .i64 c, v']] w fun e w' => YesR w e w' := by
  obtain ⟨A, cap, rfl, hlen, hcap⟩ := hx.form
  obtain ⟨A', cap', rfl, hlen', hcap'⟩ := hy.form
  have hB : Below w.heap.size w ((w.alloc (.cells #[.int .i64 r, .int .i64 c, .slice A xs.length cap] 42)).alloc (.cells #[.int .i64 r, .int .i64 c, .slice A' xs.length cap'] 42)) := ((Below.refl _ _).alloc (Nat.le_refl _) _).alloc (by simp) _
  have hx2 := hx.below' hB
  have hy2 := hy.below' hB
  go_enter Tryz.func42, Tryz.ntmps42
  go_wp2_with fail
  refine (eqInt64S_any _ _ _ _ _ _ hx2 hy2).mono ?_
  rintro e w1 ⟨rfl, hb⟩
  go_wp2
  go_ret
  exact ⟨rfl, hB.trans (hb.mono hB.size)⟩
set_option maxRecDepth 100000 in
set_option maxHeartbeats 2000000 in
theorem markField_any (r c : Int) (v : Value) (xs : List Int) (fp : List Nat) (k0 : Int) (w : World) (hx : Sl fInt.cod w v xs fp) (h0 : 0 ≤ k0) (h1 : k0 + 1 * (xs.length : Int) ≤ 1000000000000) :
    Calls Tryz.prog 54 #[.agg #[.int .i64 r, .int .i64 c, v], .int .i64 k0] w fun e w' => MarkR fInt.cod fp w (k0 + 1 * (xs.length : Int)) v (marksInt64 k0 xs.length) e w' := by
  obtain ⟨A, cap, rfl, hlen, hcap⟩ := hx.form
  have hB : Below w.heap.size w (w.alloc (.cells #[.int .i64 r, .int .i64 c, .slice A xs.length cap] 42)) := (Below.refl _ _).alloc (Nat.le_refl _) _
  have hx2 := hx.below' hB
  go_enter Tryz.func54, Tryz.ntmps54
  go_wp2_with fail
  refine (markInt64S_any _ _ _ _ _ hx2 h0 h1).mono ?_
  rintro e w1 ⟨rfl, hm, ho⟩
  go_wp2
  go_ret
  exact ⟨ret_int (by omega), hm, (Only.of_below hB).trans ho⟩
set_option maxRecDepth 100000 in
set_option maxHeartbeats 8000000 in
theorem eqDesk_any (x : DDesk) (va vb : DVals) (Fa Fb : Nat → List Nat) (w : World) (ha : DeskRd w va x Fa) (hb : DeskRd w vb x Fb) :
    Calls Tryz.prog 9 #[deskA va x, deskA vb x] w fun e w' => YesR w e w' := by
  have hB0 : Below w.heap.size w (w.alloc (.cells #[va.ob, .int .i64 x.rows, .int .i64 x.columns, va.ma, va.te, va.st, va.pa, va.zo, va.re, va.ve, va.sh, va.gr, va.wa, va.in_] 53)) := (Below.refl _ _).alloc (Nat.le_refl _) _
  have hB : Below w.heap.size w ((w.alloc (.cells #[va.ob, .int .i64 x.rows, .int .i64 x.columns, va.ma, va.te, va.st, va.pa, va.zo, va.re, va.ve, va.sh, va.gr, va.wa, va.in_] 53)).alloc (.cells #[vb.ob, .int .i64 x.rows, .int .i64 x.columns, vb.ma, vb.te, vb.st, vb.pa, vb.zo, vb.re, vb.ve, vb.sh, vb.gr, vb.wa, vb.in_] 53)) := hB0.alloc (by simp) _
  have pa := (DBox.new w va x 53).below' ((Below.refl _ _).alloc (Nat.le_refl _) (.cells #[vb.ob, .int .i64 x.rows, .int .i64 x.columns, vb.ma, vb.te, vb.st, vb.pa, vb.zo, vb.re, vb.ve, vb.sh, vb.gr, vb.wa, vb.in_] 53))
  have pb := DBox.new (w.alloc (.cells #[va.ob, .int .i64 x.rows, .int .i64 x.columns, va.ma, va.te, va.st, va.pa, va.zo, va.re, va.ve, va.sh, va.gr, va.wa, va.in_] 53)) vb x 53
  rw [World.size_alloc] at pb
  replace ha := ha.below' hB
  replace hb := hb.below' hB
  clear hB0
  unfold deskA
  go_enter Tryz.func9, Tryz.ntmps9
  go_wp2_with fail
  refine (eqObservedS_any _ _ _ _ _ _ ha.ob hb.ob).mono ?_
  rintro e W0 ⟨rfl, hbn⟩
  replace ha := ha.below' hbn
  replace hb := hb.below' hbn
  replace pa := pa.below' hbn
  replace pb := pb.below' hbn
  replace hB := hB.trans (hbn.mono hB.size)
  clear hbn
  have ca1 := pa.c1
  have cb1 := pb.c1
  have ca2 := pa.c2
  have cb2 := pb.c2
  have ca3 := pa.c3
  have cb3 := pb.c3
  go_wp2_with fail
  refine (eqField_any _ _ _ _ _ _ _ _ ha.ma hb.ma).mono ?_
  rintro e W1 ⟨rfl, hbn⟩
  replace ha := ha.below' hbn
  replace hb := hb.below' hbn
  replace pa := pa.below' hbn
  replace pb := pb.below' hbn
  replace hB := hB.trans (hbn.mono hB.size)
  clear hbn ca1 cb1 ca2 cb2 ca3 cb3
  have ca4 := pa.c4
  have cb4 := pb.c4
  go_wp2_with fail
  refine (eqTestS_any _ _ _ _ _ _ ha.te hb.te).mono ?_
  rintro e W2 ⟨rfl, hbn⟩
  replace ha := ha.below' hbn
  replace hb := hb.below' hbn
  replace pa := pa.below' hbn
  replace pb := pb.below' hbn
  replace hB := hB.trans (hbn.mono hB.size)
  clear hbn ca4 cb4
  have ca5 := pa.c5
  have cb5 := pb.c5
  go_wp2_with fail
  refine (eqStandS_any _ _ _ _ _ _ ha.st hb.st).mono ?_
  rintro e W3 ⟨rfl, hbn⟩
  replace ha := ha.below' hbn
  replace hb := hb.below' hbn
  replace pa := pa.below' hbn
  replace pb := pb.below' hbn
  replace hB := hB.trans (hbn.mono hB.size)
  clear hbn ca5 cb5
  have ca6 := pa.c6
  have cb6 := pb.c6
  go_wp2_with fail
  refine (eqPathPointS_any _ _ _ _ _ _ ha.pa hb.pa).mono ?_
  rintro e W4 ⟨rfl, hbn⟩
  replace ha := ha.below' hbn
  replace hb := hb.below' hbn
  replace pa := pa.below' hbn
  replace pb := pb.below' hbn
  replace hB := hB.trans (hbn.mono hB.size)
  clear hbn ca6 cb6
  have ca7 := pa.c7
  have cb7 := pb.c7
  go_wp2_with fail
  refine (eqInt64S_any _ _ _ _ _ _ ha.zo hb.zo).mono ?_
  rintro e W5 ⟨rfl, hbn⟩
  replace ha := ha.below' hbn
  replace hb := hb.below' hbn
  replace pa := pa.below' hbn
  replace pb := pb.below' hbn
  replace hB := hB.trans (hbn.mono hB.size)
  clear hbn ca7 cb7
  have ca8 := pa.c8
  have cb8 := pb.c8
  go_wp2_with fail
  refine (eqRegionS_any _ _ _ _ _ _ ha.re hb.re).mono ?_
  rintro e W6 ⟨rfl, hbn⟩
  replace ha := ha.below' hbn
  replace hb := hb.below' hbn
  replace pa := pa.below' hbn
  replace pb := pb.below' hbn
  replace hB := hB.trans (hbn.mono hB.size)
  clear hbn ca8 cb8
  have ca9 := pa.c9
  have cb9 := pb.c9
  go_wp2_with fail
  refine (eqVerifiedS_any _ _ _ _ _ _ ha.ve hb.ve).mono ?_
  rintro e W7 ⟨rfl, hbn⟩
  replace ha := ha.below' hbn
  replace hb := hb.below' hbn
  replace pa := pa.below' hbn
  replace pb := pb.below' hbn
  replace hB := hB.trans (hbn.mono hB.size)
  clear hbn ca9 cb9
  have ca10 := pa.c10
  have cb10 := pb.c10
  go_wp2_with fail
  refine (eqShotS_any _ _ _ _ _ _ ha.sh hb.sh).mono ?_
  rintro e W8 ⟨rfl, hbn⟩
  replace ha := ha.below' hbn
  replace hb := hb.below' hbn
  replace pa := pa.below' hbn
  replace pb := pb.below' hbn
  replace hB := hB.trans (hbn.mono hB.size)
  clear hbn ca10 cb10
  have ca11 := pa.c11
  have cb11 := pb.c11
  go_wp2_with fail
  refine (eqGroupS_any _ _ _ _ _ _ ha.gr hb.gr).mono ?_
  rintro e W9 ⟨rfl, hbn⟩
  replace ha := ha.below' hbn
  replace hb := hb.below' hbn
  replace pa := pa.below' hbn
  replace pb := pb.below' hbn
  replace hB := hB.trans (hbn.mono hB.size)
  clear hbn ca11 cb11
  have ca12 := pa.c12
  have cb12 := pb.c12
  go_wp2_with fail
  refine (eqWatchS_any _ _ _ _ _ _ ha.wa hb.wa).mono ?_
  rintro e W10 ⟨rfl, hbn⟩
  replace ha := ha.below' hbn
  replace hb := hb.below' hbn
  replace pa := pa.below' hbn
  replace pb := pb.below' hbn
  replace hB := hB.trans (hbn.mono hB.size)
  clear hbn ca12 cb12
  have ca13 := pa.c13
  have cb13 := pb.c13
  go_wp2_with fail
  refine (eqIncidentS_any _ _ _ _ _ _ ha.in_ hb.in_).mono ?_
  rintro e W11 ⟨rfl, hbn⟩
  replace ha := ha.below' hbn
  replace hb := hb.below' hbn
  replace pa := pa.below' hbn
  replace pb := pb.below' hbn
  replace hB := hB.trans (hbn.mono hB.size)
  clear hbn ca13 cb13
  go_wp2
  go_ret
  exact ⟨rfl, hB⟩
/-- Lists that bear the marks from k on. -/
structure Marked (y : DDesk) (k K : Int) where
  n0 : Nat
  n1 : Nat
  n2 : Nat
  n3 : Nat
  n4 : Nat
  n5 : Nat
  n6 : List Nat
  mm6 : Nat
  n7 : Nat
  n8 : Nat
  n9 : Nat
  n10 : Nat
  n11 : Nat
  qq6 : n6.length = mm6
  h0 : y.ob = marksObserved k n0
  h1 : y.ma = marksInt64 (k + 4 * (n0 : Int)) n1
  h2 : y.te = marksTest ((k + 4 * (n0 : Int)) + (n1 : Int)) n2
  h3 : y.st = marksStand (((k + 4 * (n0 : Int)) + (n1 : Int)) + 5 * (n2 : Int)) n3
  h4 : y.pa = marksPathPoint ((((k + 4 * (n0 : Int)) + (n1 : Int)) + 5 * (n2 : Int)) + 5 * (n3 : Int)) n4
  h5 : y.zo = marksInt64 (((((k + 4 * (n0 : Int)) + (n1 : Int)) + 5 * (n2 : Int)) + 5 * (n3 : Int)) + 2 * (n4 : Int)) n5
  h6 : y.re = marksRegion ((((((k + 4 * (n0 : Int)) + (n1 : Int)) + 5 * (n2 : Int)) + 5 * (n3 : Int)) + 2 * (n4 : Int)) + (n5 : Int)) n6
  h7 : y.ve = marksVerified (((((((k + 4 * (n0 : Int)) + (n1 : Int)) + 5 * (n2 : Int)) + 5 * (n3 : Int)) + 2 * (n4 : Int)) + (n5 : Int)) + 2 * (mm6 : Int) + (n6.sum : Int)) n7
  h8 : y.sh = marksShot ((((((((k + 4 * (n0 : Int)) + (n1 : Int)) + 5 * (n2 : Int)) + 5 * (n3 : Int)) + 2 * (n4 : Int)) + (n5 : Int)) + 2 * (mm6 : Int) + (n6.sum : Int)) + 3 * (n7 : Int)) n8
  h9 : y.gr = marksGroup (((((((((k + 4 * (n0 : Int)) + (n1 : Int)) + 5 * (n2 : Int)) + 5 * (n3 : Int)) + 2 * (n4 : Int)) + (n5 : Int)) + 2 * (mm6 : Int) + (n6.sum : Int)) + 3 * (n7 : Int)) + 5 * (n8 : Int)) n9
  h10 : y.wa = marksWatch ((((((((((k + 4 * (n0 : Int)) + (n1 : Int)) + 5 * (n2 : Int)) + 5 * (n3 : Int)) + 2 * (n4 : Int)) + (n5 : Int)) + 2 * (mm6 : Int) + (n6.sum : Int)) + 3 * (n7 : Int)) + 5 * (n8 : Int)) + 7 * (n9 : Int)) n10
  h11 : y.in_ = marksIncident (((((((((((k + 4 * (n0 : Int)) + (n1 : Int)) + 5 * (n2 : Int)) + 5 * (n3 : Int)) + 2 * (n4 : Int)) + (n5 : Int)) + 2 * (mm6 : Int) + (n6.sum : Int)) + 3 * (n7 : Int)) + 5 * (n8 : Int)) + 7 * (n9 : Int)) + 4 * (n10 : Int)) n11
  last : K = ((((((((((((k + 4 * (n0 : Int)) + (n1 : Int)) + 5 * (n2 : Int)) + 5 * (n3 : Int)) + 2 * (n4 : Int)) + (n5 : Int)) + 2 * (mm6 : Int) + (n6.sum : Int)) + 3 * (n7 : Int)) + 5 * (n8 : Int)) + 7 * (n9 : Int)) + 4 * (n10 : Int)) + 6 * (n11 : Int))
  b0 : n0 ≤ 1000000000
  b1 : n1 ≤ 1000000000
  b2 : n2 ≤ 1000000000
  b3 : n3 ≤ 1000000000
  b4 : n4 ≤ 1000000000
  b5 : n5 ≤ 1000000000
  b6 : n6.length ≤ 1000000000 ∧ n6.sum ≤ 1000000000
  b7 : n7 ≤ 1000000000
  b8 : n8 ≤ 1000000000
  b9 : n9 ≤ 1000000000
  b10 : n10 ≤ 1000000000
  b11 : n11 ≤ 1000000000
def MarkDR (v : DVals) (x : DDesk) (F : Nat → List Nat) (k : Int) (w : World) (e : Ending) (w' : World) : Prop := ∃ y K, e = .returned (.int .i64 K) ∧ Nonempty (Marked y k K) ∧ y.rows = x.rows ∧ y.columns = x.columns ∧ DeskRd w' v y F ∧ Only ((List.range 12).flatMap F) w w'
theorem only_of {F : Nat → List Nat} {a b : World} {i : Nat} (h : Only (F i) a b) (hi : i < 12) : Only ((List.range 12).flatMap F) a b := ⟨h.os, h.tape, h.output, h.size, fun k hk hn => h.block k hk (fun hm => hn (List.mem_flatMap.2 ⟨i, by simpa using hi, hm⟩))⟩
set_option maxRecDepth 100000 in
set_option maxHeartbeats 8000000 in
theorem markDesk_any (x : DDesk) (v : DVals) (F : Nat → List Nat) (k : Int) (w : World) (hx : DeskRd w v x F) (hap : ∀ i j, i < 12 → j < 12 → i ≠ j → ∀ b ∈ F i, b ∉ F j) (h6 : (F 6).Nodup) (h0 : 0 ≤ k) (h1 : k ≤ 1000000000) (hl : x.ob.length ≤ 1000000000 ∧ x.ma.length ≤ 1000000000 ∧ x.te.length ≤ 1000000000 ∧ x.st.length ≤ 1000000000 ∧ x.pa.length ≤ 1000000000 ∧ x.zo.length ≤ 1000000000 ∧ (x.re.length ≤ 1000000000 ∧ (lensR x.re).sum ≤ 1000000000) ∧ x.ve.length ≤ 1000000000 ∧ x.sh.length ≤ 1000000000 ∧ x.gr.length ≤ 1000000000 ∧ x.wa.length ≤ 1000000000 ∧ x.in_.length ≤ 1000000000) :
    Calls Tryz.prog 10 #[deskA v x, .int .i64 k] w fun e w' => MarkDR v x F k w e w' := by
  obtain ⟨l0, l1, l2, l3, l4, l5, l6, l7, l8, l9, l10, l11⟩ := hl
  have hlt : ∀ i, i < 12 → ∀ b ∈ F i, b < w.heap.size := fun i hi => match i, hi with
    | 0, _ => hx.ob.lt
    | 1, _ => hx.ma.lt
    | 2, _ => hx.te.lt
    | 3, _ => hx.st.lt
    | 4, _ => hx.pa.lt
    | 5, _ => hx.zo.lt
    | 6, _ => hx.re.lt
    | 7, _ => hx.ve.lt
    | 8, _ => hx.sh.lt
    | 9, _ => hx.gr.lt
    | 10, _ => hx.wa.lt
    | 11, _ => hx.in_.lt
  have hB : Below w.heap.size w (w.alloc (.cells #[v.ob, .int .i64 x.rows, .int .i64 x.columns, v.ma, v.te, v.st, v.pa, v.zo, v.re, v.ve, v.sh, v.gr, v.wa, v.in_] 53)) := (Below.refl _ _).alloc (Nat.le_refl _) _
  have pa := DBox.new w v x 53
  have hgn : ∀ i, i < 12 → w.heap.size ∉ F i := fun i hi hm => Nat.lt_irrefl _ (hlt i hi _ hm)
  have HO : Only ((List.range 12).flatMap F) w (w.alloc (.cells #[v.ob, .int .i64 x.rows, .int .i64 x.columns, v.ma, v.te, v.st, v.pa, v.zo, v.re, v.ve, v.sh, v.gr, v.wa, v.in_] 53)) := Only.of_below hB
  replace hx := hx.below' hB
  obtain ⟨x_ob, x_ma, x_te, x_st, x_pa, x_zo, x_re, x_ve, x_sh, x_gr, x_wa, x_in_⟩ := hx
  clear hB hlt
  unfold deskA
  go_enter Tryz.func10, Tryz.ntmps10
  go_wp2_with fail
  refine (markObservedS_any _ _ _ _ _ x_ob (by omega) (by omega)).mono ?_
  rintro e W0 ⟨rfl, hmk, hon⟩
  replace x_ma := x_ma.only hon (hap 1 0 (by decide) (by decide) (by decide))
  replace x_te := x_te.only hon (hap 2 0 (by decide) (by decide) (by decide))
  replace x_st := x_st.only hon (hap 3 0 (by decide) (by decide) (by decide))
  replace x_pa := x_pa.only hon (hap 4 0 (by decide) (by decide) (by decide))
  replace x_zo := x_zo.only hon (hap 5 0 (by decide) (by decide) (by decide))
  replace x_re := x_re.only hon (hap 6 0 (by decide) (by decide) (by decide))
  replace x_ve := x_ve.only hon (hap 7 0 (by decide) (by decide) (by decide))
  replace x_sh := x_sh.only hon (hap 8 0 (by decide) (by decide) (by decide))
  replace x_gr := x_gr.only hon (hap 9 0 (by decide) (by decide) (by decide))
  replace x_wa := x_wa.only hon (hap 10 0 (by decide) (by decide) (by decide))
  replace x_in_ := x_in_.only hon (hap 11 0 (by decide) (by decide) (by decide))
  replace x_ob := hmk
  replace pa := pa.only hon (hgn 0 (by decide))
  replace HO := HO.trans (only_of hon (by decide))
  clear hmk hon
  have ca1 := pa.c1
  have ca2 := pa.c2
  have ca3 := pa.c3
  go_wp2_with fail
  refine (markField_any _ _ _ _ _ _ _ x_ma (by omega) (by omega)).mono ?_
  rintro e W1 ⟨rfl, hmk, hon⟩
  replace x_ob := x_ob.only hon (hap 0 1 (by decide) (by decide) (by decide))
  replace x_te := x_te.only hon (hap 2 1 (by decide) (by decide) (by decide))
  replace x_st := x_st.only hon (hap 3 1 (by decide) (by decide) (by decide))
  replace x_pa := x_pa.only hon (hap 4 1 (by decide) (by decide) (by decide))
  replace x_zo := x_zo.only hon (hap 5 1 (by decide) (by decide) (by decide))
  replace x_re := x_re.only hon (hap 6 1 (by decide) (by decide) (by decide))
  replace x_ve := x_ve.only hon (hap 7 1 (by decide) (by decide) (by decide))
  replace x_sh := x_sh.only hon (hap 8 1 (by decide) (by decide) (by decide))
  replace x_gr := x_gr.only hon (hap 9 1 (by decide) (by decide) (by decide))
  replace x_wa := x_wa.only hon (hap 10 1 (by decide) (by decide) (by decide))
  replace x_in_ := x_in_.only hon (hap 11 1 (by decide) (by decide) (by decide))
  replace x_ma := hmk
  replace pa := pa.only hon (hgn 1 (by decide))
  replace HO := HO.trans (only_of hon (by decide))
  clear hmk hon ca1 ca2 ca3
  have ca4 := pa.c4
  go_wp2_with fail
  refine (markTestS_any _ _ _ _ _ x_te (by omega) (by omega)).mono ?_
  rintro e W2 ⟨rfl, hmk, hon⟩
  replace x_ob := x_ob.only hon (hap 0 2 (by decide) (by decide) (by decide))
  replace x_ma := x_ma.only hon (hap 1 2 (by decide) (by decide) (by decide))
  replace x_st := x_st.only hon (hap 3 2 (by decide) (by decide) (by decide))
  replace x_pa := x_pa.only hon (hap 4 2 (by decide) (by decide) (by decide))
  replace x_zo := x_zo.only hon (hap 5 2 (by decide) (by decide) (by decide))
  replace x_re := x_re.only hon (hap 6 2 (by decide) (by decide) (by decide))
  replace x_ve := x_ve.only hon (hap 7 2 (by decide) (by decide) (by decide))
  replace x_sh := x_sh.only hon (hap 8 2 (by decide) (by decide) (by decide))
  replace x_gr := x_gr.only hon (hap 9 2 (by decide) (by decide) (by decide))
  replace x_wa := x_wa.only hon (hap 10 2 (by decide) (by decide) (by decide))
  replace x_in_ := x_in_.only hon (hap 11 2 (by decide) (by decide) (by decide))
  replace x_te := hmk
  replace pa := pa.only hon (hgn 2 (by decide))
  replace HO := HO.trans (only_of hon (by decide))
  clear hmk hon ca4
  have ca5 := pa.c5
  go_wp2_with fail
  refine (markStandS_any _ _ _ _ _ x_st (by omega) (by omega)).mono ?_
  rintro e W3 ⟨rfl, hmk, hon⟩
  replace x_ob := x_ob.only hon (hap 0 3 (by decide) (by decide) (by decide))
  replace x_ma := x_ma.only hon (hap 1 3 (by decide) (by decide) (by decide))
  replace x_te := x_te.only hon (hap 2 3 (by decide) (by decide) (by decide))
  replace x_pa := x_pa.only hon (hap 4 3 (by decide) (by decide) (by decide))
  replace x_zo := x_zo.only hon (hap 5 3 (by decide) (by decide) (by decide))
  replace x_re := x_re.only hon (hap 6 3 (by decide) (by decide) (by decide))
  replace x_ve := x_ve.only hon (hap 7 3 (by decide) (by decide) (by decide))
  replace x_sh := x_sh.only hon (hap 8 3 (by decide) (by decide) (by decide))
  replace x_gr := x_gr.only hon (hap 9 3 (by decide) (by decide) (by decide))
  replace x_wa := x_wa.only hon (hap 10 3 (by decide) (by decide) (by decide))
  replace x_in_ := x_in_.only hon (hap 11 3 (by decide) (by decide) (by decide))
  replace x_st := hmk
  replace pa := pa.only hon (hgn 3 (by decide))
  replace HO := HO.trans (only_of hon (by decide))
  clear hmk hon ca5
  have ca6 := pa.c6
  go_wp2_with fail
  refine (markPathPointS_any _ _ _ _ _ x_pa (by omega) (by omega)).mono ?_
  rintro e W4 ⟨rfl, hmk, hon⟩
  replace x_ob := x_ob.only hon (hap 0 4 (by decide) (by decide) (by decide))
  replace x_ma := x_ma.only hon (hap 1 4 (by decide) (by decide) (by decide))
  replace x_te := x_te.only hon (hap 2 4 (by decide) (by decide) (by decide))
  replace x_st := x_st.only hon (hap 3 4 (by decide) (by decide) (by decide))
  replace x_zo := x_zo.only hon (hap 5 4 (by decide) (by decide) (by decide))
  replace x_re := x_re.only hon (hap 6 4 (by decide) (by decide) (by decide))
  replace x_ve := x_ve.only hon (hap 7 4 (by decide) (by decide) (by decide))
  replace x_sh := x_sh.only hon (hap 8 4 (by decide) (by decide) (by decide))
  replace x_gr := x_gr.only hon (hap 9 4 (by decide) (by decide) (by decide))
  replace x_wa := x_wa.only hon (hap 10 4 (by decide) (by decide) (by decide))
  replace x_in_ := x_in_.only hon (hap 11 4 (by decide) (by decide) (by decide))
  replace x_pa := hmk
  replace pa := pa.only hon (hgn 4 (by decide))
  replace HO := HO.trans (only_of hon (by decide))
  clear hmk hon ca6
  have ca7 := pa.c7
  go_wp2_with fail
  refine (markInt64S_any _ _ _ _ _ x_zo (by omega) (by omega)).mono ?_
  rintro e W5 ⟨rfl, hmk, hon⟩
  replace x_ob := x_ob.only hon (hap 0 5 (by decide) (by decide) (by decide))
  replace x_ma := x_ma.only hon (hap 1 5 (by decide) (by decide) (by decide))
  replace x_te := x_te.only hon (hap 2 5 (by decide) (by decide) (by decide))
  replace x_st := x_st.only hon (hap 3 5 (by decide) (by decide) (by decide))
  replace x_pa := x_pa.only hon (hap 4 5 (by decide) (by decide) (by decide))
  replace x_re := x_re.only hon (hap 6 5 (by decide) (by decide) (by decide))
  replace x_ve := x_ve.only hon (hap 7 5 (by decide) (by decide) (by decide))
  replace x_sh := x_sh.only hon (hap 8 5 (by decide) (by decide) (by decide))
  replace x_gr := x_gr.only hon (hap 9 5 (by decide) (by decide) (by decide))
  replace x_wa := x_wa.only hon (hap 10 5 (by decide) (by decide) (by decide))
  replace x_in_ := x_in_.only hon (hap 11 5 (by decide) (by decide) (by decide))
  replace x_zo := hmk
  replace pa := pa.only hon (hgn 5 (by decide))
  replace HO := HO.trans (only_of hon (by decide))
  clear hmk hon ca7
  have ca8 := pa.c8
  go_wp2_with fail
  refine (markRegionS_any _ _ _ _ _ x_re h6 (by omega) (by omega)).mono ?_
  rintro e W6 ⟨rfl, hmk, hon⟩
  replace x_ob := x_ob.only hon (hap 0 6 (by decide) (by decide) (by decide))
  replace x_ma := x_ma.only hon (hap 1 6 (by decide) (by decide) (by decide))
  replace x_te := x_te.only hon (hap 2 6 (by decide) (by decide) (by decide))
  replace x_st := x_st.only hon (hap 3 6 (by decide) (by decide) (by decide))
  replace x_pa := x_pa.only hon (hap 4 6 (by decide) (by decide) (by decide))
  replace x_zo := x_zo.only hon (hap 5 6 (by decide) (by decide) (by decide))
  replace x_ve := x_ve.only hon (hap 7 6 (by decide) (by decide) (by decide))
  replace x_sh := x_sh.only hon (hap 8 6 (by decide) (by decide) (by decide))
  replace x_gr := x_gr.only hon (hap 9 6 (by decide) (by decide) (by decide))
  replace x_wa := x_wa.only hon (hap 10 6 (by decide) (by decide) (by decide))
  replace x_in_ := x_in_.only hon (hap 11 6 (by decide) (by decide) (by decide))
  replace x_re := hmk
  replace pa := pa.only hon (hgn 6 (by decide))
  replace HO := HO.trans (only_of hon (by decide))
  clear hmk hon ca8
  have ca9 := pa.c9
  go_wp2_with fail
  refine (markVerifiedS_any _ _ _ _ _ x_ve (by omega) (by omega)).mono ?_
  rintro e W7 ⟨rfl, hmk, hon⟩
  replace x_ob := x_ob.only hon (hap 0 7 (by decide) (by decide) (by decide))
  replace x_ma := x_ma.only hon (hap 1 7 (by decide) (by decide) (by decide))
  replace x_te := x_te.only hon (hap 2 7 (by decide) (by decide) (by decide))
  replace x_st := x_st.only hon (hap 3 7 (by decide) (by decide) (by decide))
  replace x_pa := x_pa.only hon (hap 4 7 (by decide) (by decide) (by decide))
  replace x_zo := x_zo.only hon (hap 5 7 (by decide) (by decide) (by decide))
  replace x_re := x_re.only hon (hap 6 7 (by decide) (by decide) (by decide))
  replace x_sh := x_sh.only hon (hap 8 7 (by decide) (by decide) (by decide))
  replace x_gr := x_gr.only hon (hap 9 7 (by decide) (by decide) (by decide))
  replace x_wa := x_wa.only hon (hap 10 7 (by decide) (by decide) (by decide))
  replace x_in_ := x_in_.only hon (hap 11 7 (by decide) (by decide) (by decide))
  replace x_ve := hmk
  replace pa := pa.only hon (hgn 7 (by decide))
  replace HO := HO.trans (only_of hon (by decide))
  clear hmk hon ca9
  have ca10 := pa.c10
  go_wp2_with fail
  refine (markShotS_any _ _ _ _ _ x_sh (by omega) (by omega)).mono ?_
  rintro e W8 ⟨rfl, hmk, hon⟩
  replace x_ob := x_ob.only hon (hap 0 8 (by decide) (by decide) (by decide))
  replace x_ma := x_ma.only hon (hap 1 8 (by decide) (by decide) (by decide))
  replace x_te := x_te.only hon (hap 2 8 (by decide) (by decide) (by decide))
  replace x_st := x_st.only hon (hap 3 8 (by decide) (by decide) (by decide))
  replace x_pa := x_pa.only hon (hap 4 8 (by decide) (by decide) (by decide))
  replace x_zo := x_zo.only hon (hap 5 8 (by decide) (by decide) (by decide))
  replace x_re := x_re.only hon (hap 6 8 (by decide) (by decide) (by decide))
  replace x_ve := x_ve.only hon (hap 7 8 (by decide) (by decide) (by decide))
  replace x_gr := x_gr.only hon (hap 9 8 (by decide) (by decide) (by decide))
  replace x_wa := x_wa.only hon (hap 10 8 (by decide) (by decide) (by decide))
  replace x_in_ := x_in_.only hon (hap 11 8 (by decide) (by decide) (by decide))
  replace x_sh := hmk
  replace pa := pa.only hon (hgn 8 (by decide))
  replace HO := HO.trans (only_of hon (by decide))
  clear hmk hon ca10
  have ca11 := pa.c11
  go_wp2_with fail
  refine (markGroupS_any _ _ _ _ _ x_gr (by omega) (by omega)).mono ?_
  rintro e W9 ⟨rfl, hmk, hon⟩
  replace x_ob := x_ob.only hon (hap 0 9 (by decide) (by decide) (by decide))
  replace x_ma := x_ma.only hon (hap 1 9 (by decide) (by decide) (by decide))
  replace x_te := x_te.only hon (hap 2 9 (by decide) (by decide) (by decide))
  replace x_st := x_st.only hon (hap 3 9 (by decide) (by decide) (by decide))
  replace x_pa := x_pa.only hon (hap 4 9 (by decide) (by decide) (by decide))
  replace x_zo := x_zo.only hon (hap 5 9 (by decide) (by decide) (by decide))
  replace x_re := x_re.only hon (hap 6 9 (by decide) (by decide) (by decide))
  replace x_ve := x_ve.only hon (hap 7 9 (by decide) (by decide) (by decide))
  replace x_sh := x_sh.only hon (hap 8 9 (by decide) (by decide) (by decide))
  replace x_wa := x_wa.only hon (hap 10 9 (by decide) (by decide) (by decide))
  replace x_in_ := x_in_.only hon (hap 11 9 (by decide) (by decide) (by decide))
  replace x_gr := hmk
  replace pa := pa.only hon (hgn 9 (by decide))
  replace HO := HO.trans (only_of hon (by decide))
  clear hmk hon ca11
  have ca12 := pa.c12
  go_wp2_with fail
  refine (markWatchS_any _ _ _ _ _ x_wa (by omega) (by omega)).mono ?_
  rintro e W10 ⟨rfl, hmk, hon⟩
  replace x_ob := x_ob.only hon (hap 0 10 (by decide) (by decide) (by decide))
  replace x_ma := x_ma.only hon (hap 1 10 (by decide) (by decide) (by decide))
  replace x_te := x_te.only hon (hap 2 10 (by decide) (by decide) (by decide))
  replace x_st := x_st.only hon (hap 3 10 (by decide) (by decide) (by decide))
  replace x_pa := x_pa.only hon (hap 4 10 (by decide) (by decide) (by decide))
  replace x_zo := x_zo.only hon (hap 5 10 (by decide) (by decide) (by decide))
  replace x_re := x_re.only hon (hap 6 10 (by decide) (by decide) (by decide))
  replace x_ve := x_ve.only hon (hap 7 10 (by decide) (by decide) (by decide))
  replace x_sh := x_sh.only hon (hap 8 10 (by decide) (by decide) (by decide))
  replace x_gr := x_gr.only hon (hap 9 10 (by decide) (by decide) (by decide))
  replace x_in_ := x_in_.only hon (hap 11 10 (by decide) (by decide) (by decide))
  replace x_wa := hmk
  replace pa := pa.only hon (hgn 10 (by decide))
  replace HO := HO.trans (only_of hon (by decide))
  clear hmk hon ca12
  have ca13 := pa.c13
  go_wp2_with fail
  refine (markIncidentS_any _ _ _ _ _ x_in_ (by omega) (by omega)).mono ?_
  rintro e W11 ⟨rfl, hmk, hon⟩
  replace x_ob := x_ob.only hon (hap 0 11 (by decide) (by decide) (by decide))
  replace x_ma := x_ma.only hon (hap 1 11 (by decide) (by decide) (by decide))
  replace x_te := x_te.only hon (hap 2 11 (by decide) (by decide) (by decide))
  replace x_st := x_st.only hon (hap 3 11 (by decide) (by decide) (by decide))
  replace x_pa := x_pa.only hon (hap 4 11 (by decide) (by decide) (by decide))
  replace x_zo := x_zo.only hon (hap 5 11 (by decide) (by decide) (by decide))
  replace x_re := x_re.only hon (hap 6 11 (by decide) (by decide) (by decide))
  replace x_ve := x_ve.only hon (hap 7 11 (by decide) (by decide) (by decide))
  replace x_sh := x_sh.only hon (hap 8 11 (by decide) (by decide) (by decide))
  replace x_gr := x_gr.only hon (hap 9 11 (by decide) (by decide) (by decide))
  replace x_wa := x_wa.only hon (hap 10 11 (by decide) (by decide) (by decide))
  replace x_in_ := hmk
  replace pa := pa.only hon (hgn 11 (by decide))
  replace HO := HO.trans (only_of hon (by decide))
  clear hmk hon ca13
  go_wp2
  go_ret
  refine ⟨⟨x.rows, x.columns, _, _, _, _, _, _, _, _, _, _, _, _⟩, _, rfl, ⟨⟨x.ob.length, x.ma.length, x.te.length, x.st.length, x.pa.length, x.zo.length, lensR x.re, x.re.length, x.ve.length, x.sh.length, x.gr.length, x.wa.length, x.in_.length, (by rw [lensR, List.length_map]), rfl, rfl, rfl, rfl, rfl, rfl, rfl, rfl, rfl, rfl, rfl, rfl, rfl, l0, l1, l2, l3, l4, l5, (by rw [lensR, List.length_map]; exact l6), l7, l8, l9, l10, l11⟩⟩, rfl, rfl, ⟨x_ob, x_ma, x_te, x_st, x_pa, x_zo, x_re, x_ve, x_sh, x_gr, x_wa, x_in_⟩, HO⟩
set_option maxRecDepth 100000 in
set_option maxHeartbeats 2000000 in
theorem szField_any (r c : Int) (v : Value) (xs : List Int) (fp : List Nat) (left : Int) (w : World) (hx : Sl fInt.cod w v xs fp) (h0 : 0 ≤ left) (h1 : left ≤ 1048576) :
    Calls Tryz.prog 14 #[.agg #[.int .i64 r, .int .i64 c, v], .int .i64 left] w fun e w' => SzR left (totInt64S xs) w e w' := by
  obtain ⟨A, cap, rfl, hlen, hcap⟩ := hx.form
  have hB : Below w.heap.size w (w.alloc (.cells #[.int .i64 r, .int .i64 c, .slice A xs.length cap] 25)) := (Below.refl _ _).alloc (Nat.le_refl _) _
  have hx2 := hx.below' hB
  go_enter Tryz.func14, Tryz.ntmps14
  go_wp2_with fail
  refine (szInt64S_any _ _ _ _ _ hx2 h0 h1).mono ?_
  rintro e w1 ⟨q, rfl, hq, hb⟩
  have hB2 := hB.trans (hb.mono hB.size)
  by_cases hneg : q < 0
  · go_wp2
    go_ret
    exact .no hB2
  · have hq2 : 0 ≤ q ∧ q + (totInt64S xs : Nat) = left := by
      rcases hq with h | h
      · omega
      · exact h
    have HQ := Lib.hid hq2
    clear hq hq2
    go_wp2
    go_ret
    exact .yes HQ.out.1 HQ.out.2 hB2
def totDesk (x : DDesk) : Nat := totObservedS x.ob + totInt64S x.ma + totTestS x.te + totStandS x.st + totPathPointS x.pa + totInt64S x.zo + totRegionS x.re + totVerifiedS x.ve + totShotS x.sh + totGroupS x.gr + totWatchS x.wa + totIncidentS x.in_
set_option maxRecDepth 100000 in
set_option maxHeartbeats 8000000 in
theorem szDesk_any (x : DDesk) (v : DVals) (F : Nat → List Nat) (left : Int) (w : World) (hx : DeskRd w v x F) (h0 : 0 ≤ left) (h1 : left ≤ 1048576) :
    Calls Tryz.prog 4 #[deskA v x, .int .i64 left] w fun e w' => SzR left (totDesk x) w e w' := by
  have hB : Below w.heap.size w (w.alloc (.cells #[v.ob, .int .i64 x.rows, .int .i64 x.columns, v.ma, v.te, v.st, v.pa, v.zo, v.re, v.ve, v.sh, v.gr, v.wa, v.in_] 36)) := (Below.refl _ _).alloc (Nat.le_refl _) _
  have pa := DBox.new w v x 36
  replace hx := hx.below' hB
  unfold deskA
  go_enter Tryz.func4, Tryz.ntmps4
  go_wp2_with fail
  refine (szObservedS_any _ _ _ _ _ hx.ob (by omega) (by omega)).mono ?_
  rintro e W0 ⟨r0, rfl, hq, hbn⟩
  replace hx := hx.below' hbn
  replace pa := pa.below' hbn
  replace hB := hB.trans (hbn.mono hB.size)
  clear hbn
  by_cases hneg0 : r0 < 0
  · go_wp2
    go_ret
    exact .no hB
  have hr0 : Hid (r0 + (totObservedS x.ob : Nat) = left) := by
    rcases hq with h | h
    · exact absurd h (by omega)
    · exact h.2
  have hs0 : 0 ≤ r0 ∧ r0 ≤ 1048576 := by have := hr0.out; omega
  clear hq
  have ca1 := pa.c1
  have ca2 := pa.c2
  have ca3 := pa.c3
  go_wp2_with fail
  refine (szField_any _ _ _ _ _ _ _ hx.ma (by omega) (by omega)).mono ?_
  rintro e W1 ⟨r1, rfl, hq, hbn⟩
  replace hx := hx.below' hbn
  replace pa := pa.below' hbn
  replace hB := hB.trans (hbn.mono hB.size)
  clear hbn ca1 ca2 ca3
  by_cases hneg1 : r1 < 0
  · go_wp2
    go_ret
    exact .no hB
  have hr1 : Hid (r1 + (totInt64S x.ma : Nat) = r0) := by
    rcases hq with h | h
    · exact absurd h (by omega)
    · exact h.2
  have hs1 : 0 ≤ r1 ∧ r1 ≤ 1048576 := by have := hr1.out; omega
  clear hq
  have ca4 := pa.c4
  go_wp2_with fail
  refine (szTestS_any _ _ _ _ _ hx.te (by omega) (by omega)).mono ?_
  rintro e W2 ⟨r2, rfl, hq, hbn⟩
  replace hx := hx.below' hbn
  replace pa := pa.below' hbn
  replace hB := hB.trans (hbn.mono hB.size)
  clear hbn ca4
  by_cases hneg2 : r2 < 0
  · go_wp2
    go_ret
    exact .no hB
  have hr2 : Hid (r2 + (totTestS x.te : Nat) = r1) := by
    rcases hq with h | h
    · exact absurd h (by omega)
    · exact h.2
  have hs2 : 0 ≤ r2 ∧ r2 ≤ 1048576 := by have := hr2.out; omega
  clear hq
  have ca5 := pa.c5
  go_wp2_with fail
  refine (szStandS_any _ _ _ _ _ hx.st (by omega) (by omega)).mono ?_
  rintro e W3 ⟨r3, rfl, hq, hbn⟩
  replace hx := hx.below' hbn
  replace pa := pa.below' hbn
  replace hB := hB.trans (hbn.mono hB.size)
  clear hbn ca5
  by_cases hneg3 : r3 < 0
  · go_wp2
    go_ret
    exact .no hB
  have hr3 : Hid (r3 + (totStandS x.st : Nat) = r2) := by
    rcases hq with h | h
    · exact absurd h (by omega)
    · exact h.2
  have hs3 : 0 ≤ r3 ∧ r3 ≤ 1048576 := by have := hr3.out; omega
  clear hq
  have ca6 := pa.c6
  go_wp2_with fail
  refine (szPathPointS_any _ _ _ _ _ hx.pa (by omega) (by omega)).mono ?_
  rintro e W4 ⟨r4, rfl, hq, hbn⟩
  replace hx := hx.below' hbn
  replace pa := pa.below' hbn
  replace hB := hB.trans (hbn.mono hB.size)
  clear hbn ca6
  by_cases hneg4 : r4 < 0
  · go_wp2
    go_ret
    exact .no hB
  have hr4 : Hid (r4 + (totPathPointS x.pa : Nat) = r3) := by
    rcases hq with h | h
    · exact absurd h (by omega)
    · exact h.2
  have hs4 : 0 ≤ r4 ∧ r4 ≤ 1048576 := by have := hr4.out; omega
  clear hq
  have ca7 := pa.c7
  go_wp2_with fail
  refine (szInt64S_any _ _ _ _ _ hx.zo (by omega) (by omega)).mono ?_
  rintro e W5 ⟨r5, rfl, hq, hbn⟩
  replace hx := hx.below' hbn
  replace pa := pa.below' hbn
  replace hB := hB.trans (hbn.mono hB.size)
  clear hbn ca7
  by_cases hneg5 : r5 < 0
  · go_wp2
    go_ret
    exact .no hB
  have hr5 : Hid (r5 + (totInt64S x.zo : Nat) = r4) := by
    rcases hq with h | h
    · exact absurd h (by omega)
    · exact h.2
  have hs5 : 0 ≤ r5 ∧ r5 ≤ 1048576 := by have := hr5.out; omega
  clear hq
  have ca8 := pa.c8
  go_wp2_with fail
  refine (szRegionS_any _ _ _ _ _ hx.re (by omega) (by omega)).mono ?_
  rintro e W6 ⟨r6, rfl, hq, hbn⟩
  replace hx := hx.below' hbn
  replace pa := pa.below' hbn
  replace hB := hB.trans (hbn.mono hB.size)
  clear hbn ca8
  by_cases hneg6 : r6 < 0
  · go_wp2
    go_ret
    exact .no hB
  have hr6 : Hid (r6 + (totRegionS x.re : Nat) = r5) := by
    rcases hq with h | h
    · exact absurd h (by omega)
    · exact h.2
  have hs6 : 0 ≤ r6 ∧ r6 ≤ 1048576 := by have := hr6.out; omega
  clear hq
  have ca9 := pa.c9
  go_wp2_with fail
  refine (szVerifiedS_any _ _ _ _ _ hx.ve (by omega) (by omega)).mono ?_
  rintro e W7 ⟨r7, rfl, hq, hbn⟩
  replace hx := hx.below' hbn
  replace pa := pa.below' hbn
  replace hB := hB.trans (hbn.mono hB.size)
  clear hbn ca9
  by_cases hneg7 : r7 < 0
  · go_wp2
    go_ret
    exact .no hB
  have hr7 : Hid (r7 + (totVerifiedS x.ve : Nat) = r6) := by
    rcases hq with h | h
    · exact absurd h (by omega)
    · exact h.2
  have hs7 : 0 ≤ r7 ∧ r7 ≤ 1048576 := by have := hr7.out; omega
  clear hq
  have ca10 := pa.c10
  go_wp2_with fail
  refine (szShotS_any _ _ _ _ _ hx.sh (by omega) (by omega)).mono ?_
  rintro e W8 ⟨r8, rfl, hq, hbn⟩
  replace hx := hx.below' hbn
  replace pa := pa.below' hbn
  replace hB := hB.trans (hbn.mono hB.size)
  clear hbn ca10
  by_cases hneg8 : r8 < 0
  · go_wp2
    go_ret
    exact .no hB
  have hr8 : Hid (r8 + (totShotS x.sh : Nat) = r7) := by
    rcases hq with h | h
    · exact absurd h (by omega)
    · exact h.2
  have hs8 : 0 ≤ r8 ∧ r8 ≤ 1048576 := by have := hr8.out; omega
  clear hq
  have ca11 := pa.c11
  go_wp2_with fail
  refine (szGroupS_any _ _ _ _ _ hx.gr (by omega) (by omega)).mono ?_
  rintro e W9 ⟨r9, rfl, hq, hbn⟩
  replace hx := hx.below' hbn
  replace pa := pa.below' hbn
  replace hB := hB.trans (hbn.mono hB.size)
  clear hbn ca11
  by_cases hneg9 : r9 < 0
  · go_wp2
    go_ret
    exact .no hB
  have hr9 : Hid (r9 + (totGroupS x.gr : Nat) = r8) := by
    rcases hq with h | h
    · exact absurd h (by omega)
    · exact h.2
  have hs9 : 0 ≤ r9 ∧ r9 ≤ 1048576 := by have := hr9.out; omega
  clear hq
  have ca12 := pa.c12
  go_wp2_with fail
  refine (szWatchS_any _ _ _ _ _ hx.wa (by omega) (by omega)).mono ?_
  rintro e W10 ⟨r10, rfl, hq, hbn⟩
  replace hx := hx.below' hbn
  replace pa := pa.below' hbn
  replace hB := hB.trans (hbn.mono hB.size)
  clear hbn ca12
  by_cases hneg10 : r10 < 0
  · go_wp2
    go_ret
    exact .no hB
  have hr10 : Hid (r10 + (totWatchS x.wa : Nat) = r9) := by
    rcases hq with h | h
    · exact absurd h (by omega)
    · exact h.2
  have hs10 : 0 ≤ r10 ∧ r10 ≤ 1048576 := by have := hr10.out; omega
  clear hq
  have ca13 := pa.c13
  go_wp2_with fail
  refine (szIncidentS_any _ _ _ _ _ hx.in_ (by omega) (by omega)).mono ?_
  rintro e W11 ⟨r11, rfl, hq, hbn⟩
  replace hx := hx.below' hbn
  replace pa := pa.below' hbn
  replace hB := hB.trans (hbn.mono hB.size)
  clear hbn ca13
  by_cases hneg11 : r11 < 0
  · go_wp2
    go_ret
    exact .no hB
  have hr11 : Hid (r11 + (totIncidentS x.in_ : Nat) = r10) := by
    rcases hq with h | h
    · exact absurd h (by omega)
    · exact h.2
  have hs11 : 0 ≤ r11 ∧ r11 ≤ 1048576 := by have := hr11.out; omega
  clear hq
  go_wp2
  go_ret
  exact .yes (by omega) (by have q0 := hr0.out; have q1 := hr1.out; have q2 := hr2.out; have q3 := hr3.out; have q4 := hr4.out; have q5 := hr5.out; have q6 := hr6.out; have q7 := hr7.out; have q8 := hr8.out; have q9 := hr9.out; have q10 := hr10.out; have q11 := hr11.out; unfold totDesk; omega) hB
set_option maxRecDepth 100000 in
set_option maxHeartbeats 4000000 in
theorem toField_any (r c : Int) (v : Value) (xs : List Int) (fp : List Nat) (w : World) (hx : Sl fInt.cod w v xs fp) (hl : xs.length ≤ 1048576) :
    Calls Tryz.prog 28 #[.agg #[.int .i64 r, .int .i64 c, v]] w fun e w' => ∃ A q, e = .returned (.agg #[.int .i64 r, .int .i64 c, .slice A xs.length q]) ∧ New fInt.cod w (.slice A xs.length q) xs w' := by
  obtain ⟨A, cap, rfl, hlen, hcap⟩ := hx.form
  have hB : Below w.heap.size w (((w.alloc (.cells #[.int .i64 r, .int .i64 c, .slice A xs.length cap] 25)).alloc (.cells #[.int .i64 0, .int .i64 0, .slice none 0 0] 42)).alloc (.cells #[.int .i64 r, .int .i64 c, .slice none 0 0] 42)) := (((Below.refl _ _).alloc (Nat.le_refl _) _).alloc (by simp) _).alloc (by simp; omega) _
  have hx2 := hx.below' hB
  have d0 : (((w.alloc (.cells #[.int .i64 r, .int .i64 c, .slice A xs.length cap] 25)).alloc (.cells #[.int .i64 0, .int .i64 0, .slice none 0 0] 42)).alloc (.cells #[.int .i64 r, .int .i64 c, .slice none 0 0] 42)).cell? ⟨w.heap.size + 1, 0, none⟩ = some (.int .i64 0) := (three_mid _ _ _ _ _ _).1
  have d1 : (((w.alloc (.cells #[.int .i64 r, .int .i64 c, .slice A xs.length cap] 25)).alloc (.cells #[.int .i64 0, .int .i64 0, .slice none 0 0] 42)).alloc (.cells #[.int .i64 r, .int .i64 c, .slice none 0 0] 42)).cell? ⟨w.heap.size + 1, 1, none⟩ = some (.int .i64 0) := (three_mid _ _ _ _ _ _).1
  have d2 : (((w.alloc (.cells #[.int .i64 r, .int .i64 c, .slice A xs.length cap] 25)).alloc (.cells #[.int .i64 0, .int .i64 0, .slice none 0 0] 42)).alloc (.cells #[.int .i64 r, .int .i64 c, .slice none 0 0] 42)).cell? ⟨w.heap.size + 1, 2, none⟩ = some (.slice none 0 0) := (three_mid _ _ _ _ _ _).1
  have e0 : (((w.alloc (.cells #[.int .i64 r, .int .i64 c, .slice A xs.length cap] 25)).alloc (.cells #[.int .i64 0, .int .i64 0, .slice none 0 0] 42)).alloc (.cells #[.int .i64 r, .int .i64 c, .slice none 0 0] 42)).cell? ⟨w.heap.size + 1 + 1, 0, none⟩ = some (.int .i64 r) := (three_top _ _ _ _ _ _).1
  have e1 : (((w.alloc (.cells #[.int .i64 r, .int .i64 c, .slice A xs.length cap] 25)).alloc (.cells #[.int .i64 0, .int .i64 0, .slice none 0 0] 42)).alloc (.cells #[.int .i64 r, .int .i64 c, .slice none 0 0] 42)).cell? ⟨w.heap.size + 1 + 1, 1, none⟩ = some (.int .i64 c) := (three_top _ _ _ _ _ _).1
  have e2 : (((w.alloc (.cells #[.int .i64 r, .int .i64 c, .slice A xs.length cap] 25)).alloc (.cells #[.int .i64 0, .int .i64 0, .slice none 0 0] 42)).alloc (.cells #[.int .i64 r, .int .i64 c, .slice none 0 0] 42)).cell? ⟨w.heap.size + 1 + 1, 2, none⟩ = some (.slice none 0 0) := (three_top _ _ _ _ _ _).1
  have zz1 : ∀ j, (((w.alloc (.cells #[.int .i64 r, .int .i64 c, .slice A xs.length cap] 25)).alloc (.cells #[.int .i64 0, .int .i64 0, .slice none 0 0] 42)).alloc (.cells #[.int .i64 r, .int .i64 c, .slice none 0 0] 42)).frozen? ⟨w.heap.size + 1, j, none⟩ = false := fun j => (three_mid _ _ _ _ _ _).2
  have zz2 : ∀ j, (((w.alloc (.cells #[.int .i64 r, .int .i64 c, .slice A xs.length cap] 25)).alloc (.cells #[.int .i64 0, .int .i64 0, .slice none 0 0] 42)).alloc (.cells #[.int .i64 r, .int .i64 c, .slice none 0 0] 42)).frozen? ⟨w.heap.size + 1 + 1, j, none⟩ = false := fun j => (three_top _ _ _ _ _ _).2
  have hsz : (((w.alloc (.cells #[.int .i64 r, .int .i64 c, .slice A xs.length cap] 25)).alloc (.cells #[.int .i64 0, .int .i64 0, .slice none 0 0] 42)).alloc (.cells #[.int .i64 r, .int .i64 c, .slice none 0 0] 42)).heap.size = w.heap.size + 1 + 1 + 1 := by simp
  go_enter Tryz.func28, Tryz.ntmps28
  go_wp2_with fail
  generalize (((w.alloc (.cells #[.int .i64 r, .int .i64 c, .slice A xs.length cap] 25)).alloc (.cells #[.int .i64 0, .int .i64 0, .slice none 0 0] 42)).alloc (.cells #[.int .i64 r, .int .i64 c, .slice none 0 0] 42)) = W at *
  refine (toInt64S_any _ _ _ _ hx2 hl).mono ?_
  rintro e w2 ⟨y, rfl, ⟨⟨fy, hsy, hlo, hnd⟩, hb⟩⟩
  obtain ⟨Ay, cy, rfl, _, _⟩ := hsy.form
  replace d0 := (hb.cell (p := ⟨w.heap.size + 1, 0, none⟩) (by show w.heap.size + 1 < _; omega)).trans d0
  replace d1 := (hb.cell (p := ⟨w.heap.size + 1, 1, none⟩) (by show w.heap.size + 1 < _; omega)).trans d1
  replace d2 := (hb.cell (p := ⟨w.heap.size + 1, 2, none⟩) (by show w.heap.size + 1 < _; omega)).trans d2
  replace e0 := (hb.cell (p := ⟨w.heap.size + 1 + 1, 0, none⟩) (by show w.heap.size + 1 + 1 < _; omega)).trans e0
  replace e1 := (hb.cell (p := ⟨w.heap.size + 1 + 1, 1, none⟩) (by show w.heap.size + 1 + 1 < _; omega)).trans e1
  replace e2 := (hb.cell (p := ⟨w.heap.size + 1 + 1, 2, none⟩) (by show w.heap.size + 1 + 1 < _; omega)).trans e2
  have z0 := (hb.frozen (p := ⟨w.heap.size + 1, 0, none⟩) (by show w.heap.size + 1 < _; omega)).trans (zz1 0)
  have z1 := (hb.frozen (p := ⟨w.heap.size + 1, 1, none⟩) (by show w.heap.size + 1 < _; omega)).trans (zz1 1)
  have z2 := (hb.frozen (p := ⟨w.heap.size + 1, 2, none⟩) (by show w.heap.size + 1 < _; omega)).trans (zz1 2)
  have y2 := (hb.frozen (p := ⟨w.heap.size + 1 + 1, 2, none⟩) (by show w.heap.size + 1 + 1 < _; omega)).trans (zz2 2)
  have hbb := hB.trans (hb.mono hB.size)
  have hlo2 : ∀ b ∈ fy, w.heap.size + 3 ≤ b := fun b hbm => by have := hlo b hbm; omega
  have hbs := hbb.size
  clear zz1 zz2 hb hlo hx2
  go_wp2
  refine bodyPost_ret (v := .agg #[.int .i64 r, .int .i64 c, .slice Ay xs.length cy]) (by simp [results, hit_cellG, d0, d1, d2, e0, e1, e2, Tryz.results28, go_sem]) rfl ⟨Ay, cy, rfl, ⟨⟨fy, hsy.only (fp' := [w.heap.size + 1, w.heap.size + 1 + 1]) ?_ ?_, fun b hbm => by have := hlo2 b hbm; omega, hnd⟩, ?_⟩⟩
  · repeat (refine Only.setIn ?_ (by simp) _ _)
    exact Only.refl _ _
  · intro b h1 h2
    have := hlo2 b h1
    simp at h2
    omega
  · exact ((((hbb.setCell (show w.heap.size ≤ w.heap.size + 1 + 1 by omega) _).setCell (show w.heap.size ≤ w.heap.size + 1 by omega) _).setCell (show w.heap.size ≤ w.heap.size + 1 by omega) _).setCell (show w.heap.size ≤ w.heap.size + 1 by omega) _)
structure BoxD (w : World) (g : Nat) : Prop where
  d0 : w.cell? ⟨g, 0, none⟩ = some (.slice none 0 0)
  d1 : w.cell? ⟨g, 1, none⟩ = some (.int .i64 0)
  d2 : w.cell? ⟨g, 2, none⟩ = some (.int .i64 0)
  d3 : w.cell? ⟨g, 3, none⟩ = some (.slice none 0 0)
  d4 : w.cell? ⟨g, 4, none⟩ = some (.slice none 0 0)
  d5 : w.cell? ⟨g, 5, none⟩ = some (.slice none 0 0)
  d6 : w.cell? ⟨g, 6, none⟩ = some (.slice none 0 0)
  d7 : w.cell? ⟨g, 7, none⟩ = some (.slice none 0 0)
  d8 : w.cell? ⟨g, 8, none⟩ = some (.slice none 0 0)
  d9 : w.cell? ⟨g, 9, none⟩ = some (.slice none 0 0)
  d10 : w.cell? ⟨g, 10, none⟩ = some (.slice none 0 0)
  d11 : w.cell? ⟨g, 11, none⟩ = some (.slice none 0 0)
  d12 : w.cell? ⟨g, 12, none⟩ = some (.slice none 0 0)
  d13 : w.cell? ⟨g, 13, none⟩ = some (.slice none 0 0)
  z0 : w.frozen? ⟨g, 0, none⟩ = false
  z1 : w.frozen? ⟨g, 1, none⟩ = false
  z2 : w.frozen? ⟨g, 2, none⟩ = false
  z3 : w.frozen? ⟨g, 3, none⟩ = false
  z4 : w.frozen? ⟨g, 4, none⟩ = false
  z5 : w.frozen? ⟨g, 5, none⟩ = false
  z6 : w.frozen? ⟨g, 6, none⟩ = false
  z7 : w.frozen? ⟨g, 7, none⟩ = false
  z8 : w.frozen? ⟨g, 8, none⟩ = false
  z9 : w.frozen? ⟨g, 9, none⟩ = false
  z10 : w.frozen? ⟨g, 10, none⟩ = false
  z11 : w.frozen? ⟨g, 11, none⟩ = false
  z12 : w.frozen? ⟨g, 12, none⟩ = false
  z13 : w.frozen? ⟨g, 13, none⟩ = false
theorem BoxD.new (w : World) (T : TypeId) : BoxD (w.alloc (.cells #[.slice none 0 0, .int .i64 0, .int .i64 0, .slice none 0 0, .slice none 0 0, .slice none 0 0, .slice none 0 0, .slice none 0 0, .slice none 0 0, .slice none 0 0, .slice none 0 0, .slice none 0 0, .slice none 0 0, .slice none 0 0] T)) w.heap.size := by
  constructor <;> simp
theorem BoxD.below {w w' : World} {g B : Nat} (h : BoxD w g) (hb : Below B w w') (hg : g < B) : BoxD w' g :=
  ⟨(hb.cell (p := ⟨g, _, none⟩) hg).trans h.d0, (hb.cell (p := ⟨g, _, none⟩) hg).trans h.d1, (hb.cell (p := ⟨g, _, none⟩) hg).trans h.d2, (hb.cell (p := ⟨g, _, none⟩) hg).trans h.d3, (hb.cell (p := ⟨g, _, none⟩) hg).trans h.d4, (hb.cell (p := ⟨g, _, none⟩) hg).trans h.d5, (hb.cell (p := ⟨g, _, none⟩) hg).trans h.d6, (hb.cell (p := ⟨g, _, none⟩) hg).trans h.d7, (hb.cell (p := ⟨g, _, none⟩) hg).trans h.d8, (hb.cell (p := ⟨g, _, none⟩) hg).trans h.d9, (hb.cell (p := ⟨g, _, none⟩) hg).trans h.d10, (hb.cell (p := ⟨g, _, none⟩) hg).trans h.d11, (hb.cell (p := ⟨g, _, none⟩) hg).trans h.d12, (hb.cell (p := ⟨g, _, none⟩) hg).trans h.d13,
   (hb.frozen (p := ⟨g, _, none⟩) hg).trans h.z0, (hb.frozen (p := ⟨g, _, none⟩) hg).trans h.z1, (hb.frozen (p := ⟨g, _, none⟩) hg).trans h.z2, (hb.frozen (p := ⟨g, _, none⟩) hg).trans h.z3, (hb.frozen (p := ⟨g, _, none⟩) hg).trans h.z4, (hb.frozen (p := ⟨g, _, none⟩) hg).trans h.z5, (hb.frozen (p := ⟨g, _, none⟩) hg).trans h.z6, (hb.frozen (p := ⟨g, _, none⟩) hg).trans h.z7, (hb.frozen (p := ⟨g, _, none⟩) hg).trans h.z8, (hb.frozen (p := ⟨g, _, none⟩) hg).trans h.z9, (hb.frozen (p := ⟨g, _, none⟩) hg).trans h.z10, (hb.frozen (p := ⟨g, _, none⟩) hg).trans h.z11, (hb.frozen (p := ⟨g, _, none⟩) hg).trans h.z12, (hb.frozen (p := ⟨g, _, none⟩) hg).trans h.z13⟩
theorem BoxD.far {V : World} {b g j : Nat} {v : Value} (h : BoxD V b) (hne : b ≠ g) : BoxD (V.setCell ⟨g, j, none⟩ v) b := by
  have k : ∀ i, (V.setCell ⟨g, j, none⟩ v).cell? ⟨b, i, none⟩ = V.cell? ⟨b, i, none⟩ := fun i => World.cell?_setCell_far V ⟨g, j, none⟩ ⟨b, i, none⟩ v (fun e => hne e.symm)
  have f : ∀ i, (V.setCell ⟨g, j, none⟩ v).frozen? ⟨b, i, none⟩ = V.frozen? ⟨b, i, none⟩ := fun i => frozen?_setCell _ _ _ _
  exact ⟨(k _).trans h.d0, (k _).trans h.d1, (k _).trans h.d2, (k _).trans h.d3, (k _).trans h.d4, (k _).trans h.d5, (k _).trans h.d6, (k _).trans h.d7, (k _).trans h.d8, (k _).trans h.d9, (k _).trans h.d10, (k _).trans h.d11, (k _).trans h.d12, (k _).trans h.d13, (f _).trans h.z0, (f _).trans h.z1, (f _).trans h.z2, (f _).trans h.z3, (f _).trans h.z4, (f _).trans h.z5, (f _).trans h.z6, (f _).trans h.z7, (f _).trans h.z8, (f _).trans h.z9, (f _).trans h.z10, (f _).trans h.z11, (f _).trans h.z12, (f _).trans h.z13⟩
/-- A box of 14 cells that are known by their places. -/
structure OBox (w : World) (g : Nat) (cs : Nat → Value) : Prop where
  c : ∀ j, j < 14 → w.cell? ⟨g, j, none⟩ = some (cs j)
  z : ∀ j, w.frozen? ⟨g, j, none⟩ = false
def zeroD : Nat → Value
  | 1 => .int .i64 0
  | 2 => .int .i64 0
  | _ => .slice none 0 0
theorem OBox.lt {w : World} {g : Nat} {cs : Nat → Value} (h : OBox w g cs) : g < w.heap.size := block_lt_of_cell (h.c 0 (by omega))
theorem OBox.below' {w w' : World} {g : Nat} {cs : Nat → Value} (h : OBox w g cs) (hb : Below w.heap.size w w') : OBox w' g cs :=
  ⟨fun j hj => (hb.cell (p := ⟨g, j, none⟩) h.lt).trans (h.c j hj), fun j => (hb.frozen (p := ⟨g, j, none⟩) h.lt).trans (h.z j)⟩
theorem OBox.set {w : World} {g : Nat} {cs : Nat → Value} (h : OBox w g cs) {k : Nat} (hk : k < 14) (v : Value) : OBox (w.setCell ⟨g, k, none⟩ v) g (fun i => if i = k then v else cs i) := by
  refine ⟨fun j hj => ?_, fun j => (frozen?_setCell _ _ _ _).trans (h.z j)⟩
  by_cases e : j = k
  · subst e; rw [if_pos rfl]; exact World.cell?_setCell_same w _ _ (h.c j hj)
  · rw [if_neg e, World.cell?_setCell_other _ _ _ _ (fun e2 => by injection e2 with _ e2 _; exact e e2.symm)]
    exact h.c j hj
theorem OBox.new (w : World) (T : TypeId) : OBox (w.alloc (.cells #[.slice none 0 0, .int .i64 0, .int .i64 0, .slice none 0 0, .slice none 0 0, .slice none 0 0, .slice none 0 0, .slice none 0 0, .slice none 0 0, .slice none 0 0, .slice none 0 0, .slice none 0 0, .slice none 0 0, .slice none 0 0] T)) w.heap.size zeroD := by
  constructor
  · intro j hj
    have : j = 0 ∨ j = 1 ∨ j = 2 ∨ j = 3 ∨ j = 4 ∨ j = 5 ∨ j = 6 ∨ j = 7 ∨ j = 8 ∨ j = 9 ∨ j = 10 ∨ j = 11 ∨ j = 12 ∨ j = 13 := by omega
    rcases this with h | h | h | h | h | h | h | h | h | h | h | h | h | h <;> subst h <;> simp [zeroD]
  · intro j; simp
theorem BoxD.onlyB {w w' : World} {g : Nat} {fp : List Nat} (h : BoxD w g) (ho : Only fp w w') (hg : g ∉ fp) : BoxD w' g :=
  have hl := block_lt_of_cell h.d0
  ⟨(World.cell?_of_block (a := ⟨g, 0, none⟩) (ho.block g hl hg)).trans h.d0, (World.cell?_of_block (a := ⟨g, 1, none⟩) (ho.block g hl hg)).trans h.d1, (World.cell?_of_block (a := ⟨g, 2, none⟩) (ho.block g hl hg)).trans h.d2, (World.cell?_of_block (a := ⟨g, 3, none⟩) (ho.block g hl hg)).trans h.d3, (World.cell?_of_block (a := ⟨g, 4, none⟩) (ho.block g hl hg)).trans h.d4, (World.cell?_of_block (a := ⟨g, 5, none⟩) (ho.block g hl hg)).trans h.d5, (World.cell?_of_block (a := ⟨g, 6, none⟩) (ho.block g hl hg)).trans h.d6, (World.cell?_of_block (a := ⟨g, 7, none⟩) (ho.block g hl hg)).trans h.d7, (World.cell?_of_block (a := ⟨g, 8, none⟩) (ho.block g hl hg)).trans h.d8, (World.cell?_of_block (a := ⟨g, 9, none⟩) (ho.block g hl hg)).trans h.d9, (World.cell?_of_block (a := ⟨g, 10, none⟩) (ho.block g hl hg)).trans h.d10, (World.cell?_of_block (a := ⟨g, 11, none⟩) (ho.block g hl hg)).trans h.d11, (World.cell?_of_block (a := ⟨g, 12, none⟩) (ho.block g hl hg)).trans h.d12, (World.cell?_of_block (a := ⟨g, 13, none⟩) (ho.block g hl hg)).trans h.d13, (World.frozen?_of_block (a := ⟨g, 0, none⟩) (ho.block g hl hg)).trans h.z0, (World.frozen?_of_block (a := ⟨g, 1, none⟩) (ho.block g hl hg)).trans h.z1, (World.frozen?_of_block (a := ⟨g, 2, none⟩) (ho.block g hl hg)).trans h.z2, (World.frozen?_of_block (a := ⟨g, 3, none⟩) (ho.block g hl hg)).trans h.z3, (World.frozen?_of_block (a := ⟨g, 4, none⟩) (ho.block g hl hg)).trans h.z4, (World.frozen?_of_block (a := ⟨g, 5, none⟩) (ho.block g hl hg)).trans h.z5, (World.frozen?_of_block (a := ⟨g, 6, none⟩) (ho.block g hl hg)).trans h.z6, (World.frozen?_of_block (a := ⟨g, 7, none⟩) (ho.block g hl hg)).trans h.z7, (World.frozen?_of_block (a := ⟨g, 8, none⟩) (ho.block g hl hg)).trans h.z8, (World.frozen?_of_block (a := ⟨g, 9, none⟩) (ho.block g hl hg)).trans h.z9, (World.frozen?_of_block (a := ⟨g, 10, none⟩) (ho.block g hl hg)).trans h.z10, (World.frozen?_of_block (a := ⟨g, 11, none⟩) (ho.block g hl hg)).trans h.z11, (World.frozen?_of_block (a := ⟨g, 12, none⟩) (ho.block g hl hg)).trans h.z12, (World.frozen?_of_block (a := ⟨g, 13, none⟩) (ho.block g hl hg)).trans h.z13⟩
theorem DeskRd.onlyF {w w' : World} {v : DVals} {x : DDesk} {F : Nat → List Nat} {fp : List Nat} (h : DeskRd w v x F) (ho : Only fp w w') (hd : ∀ i, i < 12 → ∀ b ∈ F i, b ∉ fp) : DeskRd w' v x F :=
  ⟨h.ob.only ho (hd 0 (by decide)), h.ma.only ho (hd 1 (by decide)), h.te.only ho (hd 2 (by decide)), h.st.only ho (hd 3 (by decide)), h.pa.only ho (hd 4 (by decide)), h.zo.only ho (hd 5 (by decide)), h.re.only ho (hd 6 (by decide)), h.ve.only ho (hd 7 (by decide)), h.sh.only ho (hd 8 (by decide)), h.gr.only ho (hd 9 (by decide)), h.wa.only ho (hd 10 (by decide)), h.in_.only ho (hd 11 (by decide))⟩
theorem DeskRd.ltF {w : World} {v : DVals} {x : DDesk} {F : Nat → List Nat} (h : DeskRd w v x F) : ∀ i, i < 12 → ∀ b ∈ F i, b < w.heap.size := fun i hi => match i, hi with
  | 0, _ => h.ob.lt
  | 1, _ => h.ma.lt
  | 2, _ => h.te.lt
  | 3, _ => h.st.lt
  | 4, _ => h.pa.lt
  | 5, _ => h.zo.lt
  | 6, _ => h.re.lt
  | 7, _ => h.ve.lt
  | 8, _ => h.sh.lt
  | 9, _ => h.gr.lt
  | 10, _ => h.wa.lt
  | 11, _ => h.in_.lt
structure NewD (w : World) (v : DVals) (x : DDesk) (F : Nat → List Nat) (w' : World) : Prop where
  rd : DeskRd w' v x F
  lo : ∀ i, i < 12 → ∀ b ∈ F i, w.heap.size ≤ b
  ap : ∀ i j, i < 12 → j < 12 → i ≠ j → ∀ b ∈ F i, b ∉ F j
  nd : (F 6).Nodup
  below : Below w.heap.size w w'
set_option maxRecDepth 100000 in
set_option maxHeartbeats 16000000 in
theorem toDesk_any (x : DDesk) (v : DVals) (F : Nat → List Nat) (w : World) (hx : DeskRd w v x F) (ht : totDesk x ≤ 1048576) :
    Calls Tryz.prog 6 #[deskA v x] w fun e w' => ∃ v' F', e = .returned (deskA v' x) ∧ NewD w v' x F' w' := by
  obtain ⟨l0, l1, l2, l3, l4, l5, l6, l7, l8, l9, l10, l11⟩ : x.ob.length ≤ 1048576 ∧ x.ma.length ≤ 1048576 ∧ x.te.length ≤ 1048576 ∧ x.st.length ≤ 1048576 ∧ x.pa.length ≤ 1048576 ∧ x.zo.length ≤ 1048576 ∧ totRegionS x.re ≤ 1048576 ∧ x.ve.length ≤ 1048576 ∧ x.sh.length ≤ 1048576 ∧ x.gr.length ≤ 1048576 ∧ x.wa.length ≤ 1048576 ∧ x.in_.length ≤ 1048576 := by
    unfold totDesk totObservedS totInt64S totTestS totStandS totPathPointS totVerifiedS totShotS totGroupS totWatchS totIncidentS at ht
    refine ⟨?_, ?_, ?_, ?_, ?_, ?_, ?_, ?_, ?_, ?_, ?_, ?_⟩ <;> omega
  have hW1 : Below w.heap.size w (w.alloc (.cells #[v.ob, .int .i64 x.rows, .int .i64 x.columns, v.ma, v.te, v.st, v.pa, v.zo, v.re, v.ve, v.sh, v.gr, v.wa, v.in_] 36)) := (Below.refl _ _).alloc (Nat.le_refl _) _
  have pa := DBox.new w v x 36
  have hs1 : (w.alloc (.cells #[v.ob, .int .i64 x.rows, .int .i64 x.columns, v.ma, v.te, v.st, v.pa, v.zo, v.re, v.ve, v.sh, v.gr, v.wa, v.in_] 36)).heap.size = w.heap.size + 1 := World.size_alloc _ _
  replace hx := hx.below' hW1
  have hFl : ∀ i, i < 12 → ∀ b ∈ F i, b ≤ w.heap.size := fun i hi b hb => by have := hx.ltF i hi b hb; omega
  unfold deskA
  go_enter Tryz.func6, Tryz.ntmps6
  go_wp2_with fail
  generalize w.alloc (.cells #[v.ob, .int .i64 x.rows, .int .i64 x.columns, v.ma, v.te, v.st, v.pa, v.zo, v.re, v.ve, v.sh, v.gr, v.wa, v.in_] 36) = w1 at *
  have pr := BoxD.new w1 53
  have hbA := (Below.refl w1.heap.size w1).alloc (Nat.le_refl _) (.cells #[.slice none 0 0, .int .i64 0, .int .i64 0, .slice none 0 0, .slice none 0 0, .slice none 0 0, .slice none 0 0, .slice none 0 0, .slice none 0 0, .slice none 0 0, .slice none 0 0, .slice none 0 0, .slice none 0 0, .slice none 0 0] 53)
  have hs2 : (w1.alloc (.cells #[.slice none 0 0, .int .i64 0, .int .i64 0, .slice none 0 0, .slice none 0 0, .slice none 0 0, .slice none 0 0, .slice none 0 0, .slice none 0 0, .slice none 0 0, .slice none 0 0, .slice none 0 0, .slice none 0 0, .slice none 0 0] 53)).heap.size = w1.heap.size + 1 := World.size_alloc _ _
  have hW2 := hW1.trans (hbA.mono hW1.size)
  replace pa := pa.below' hbA
  replace hx := hx.below' hbA
  generalize w1.alloc (.cells #[.slice none 0 0, .int .i64 0, .int .i64 0, .slice none 0 0, .slice none 0 0, .slice none 0 0, .slice none 0 0, .slice none 0 0, .slice none 0 0, .slice none 0 0, .slice none 0 0, .slice none 0 0, .slice none 0 0, .slice none 0 0] 53) = w2 at *
  have po := OBox.new w2 53
  have hbB := (Below.refl w2.heap.size w2).alloc (Nat.le_refl _) (.cells #[.slice none 0 0, .int .i64 0, .int .i64 0, .slice none 0 0, .slice none 0 0, .slice none 0 0, .slice none 0 0, .slice none 0 0, .slice none 0 0, .slice none 0 0, .slice none 0 0, .slice none 0 0, .slice none 0 0, .slice none 0 0] 53)
  have hs3 : (w2.alloc (.cells #[.slice none 0 0, .int .i64 0, .int .i64 0, .slice none 0 0, .slice none 0 0, .slice none 0 0, .slice none 0 0, .slice none 0 0, .slice none 0 0, .slice none 0 0, .slice none 0 0, .slice none 0 0, .slice none 0 0, .slice none 0 0] 53)).heap.size = w2.heap.size + 1 := World.size_alloc _ _
  have hB := hW2.trans (hbB.mono hW2.size)
  replace pa := pa.below' hbB
  replace hx := hx.below' hbB
  replace pr := pr.below hbB (by omega)
  rw [hs1] at *
  generalize w2.alloc (.cells #[.slice none 0 0, .int .i64 0, .int .i64 0, .slice none 0 0, .slice none 0 0, .slice none 0 0, .slice none 0 0, .slice none 0 0, .slice none 0 0, .slice none 0 0, .slice none 0 0, .slice none 0 0, .slice none 0 0, .slice none 0 0] 53) = W at *
  have hg : w2.heap.size = w.heap.size + 1 + 1 := by omega
  rw [hg] at po hs3
  clear hbA hbB hW1 hW2 hs2 hs1 hg
  refine (toObservedS_any _ _ _ _ hx.ob l0).mono ?_
  rintro e C0 ⟨y, rfl, ⟨⟨f0, s0, lo0, nd0⟩, hbn⟩⟩
  obtain ⟨B0, q0, rfl, _, _⟩ := s0.form
  have hi0 := s0.lt
  have zc0 := hbn.size
  have hxC := hx.below' hbn
  have paC := pa.below' hbn
  have poC := po.below' hbn
  have prC := pr.below hbn (by omega)
  have hBC := hB.trans (hbn.mono hB.size)
  have t0 := s0
  clear hx pa po pr hB hbn s0
  have oc0 := poC.c 0 (by decide)
  have oz0 := poC.z 0
  have ho : Only [w.heap.size + 1 + 1] C0 (C0.setCell ⟨w.heap.size + 1 + 1, 0, none⟩ (.slice B0 x.ob.length q0)) := by
    repeat (refine Only.set ?_ _ _)
    exact Only.refl _ _
  have hx := hxC.onlyF ho (fun i hi b hb hm => by rw [List.mem_singleton] at hm; have := hFl i hi b hb; omega)
  have pa := paC.only ho (fun hm => by rw [List.mem_singleton] at hm; omega)
  have pr := prC.onlyB ho (fun hm => by rw [List.mem_singleton] at hm; omega)
  have po : OBox (C0.setCell ⟨w.heap.size + 1 + 1, 0, none⟩ (.slice B0 x.ob.length q0)) (w.heap.size + 1 + 1) _ := ((poC).set (k := 0) (by decide) (.slice B0 x.ob.length q0))
  have hB := hBC.trans (ho.below (B := w.heap.size) hBC.size (fun b hm => by rw [List.mem_singleton] at hm; omega))
  have zd0 : (C0.setCell ⟨w.heap.size + 1 + 1, 0, none⟩ (.slice B0 x.ob.length q0)).heap.size = C0.heap.size := by simp
  have s0 := t0.only ho (fun b hb hm => by rw [List.mem_singleton] at hm; have := lo0 b hb; omega)
  clear hxC paC prC poC hBC ho t0
  have ca1 := pa.c1
  have ca2 := pa.c2
  have ca3 := pa.c3
  go_wp2_with fail
  generalize hD0 : (C0.setCell ⟨w.heap.size + 1 + 1, 0, none⟩ (.slice B0 x.ob.length q0)) = D0 at *
  clear hD0 oc0 oz0
  refine (toField_any _ _ _ _ _ _ hx.ma l1).mono ?_
  rintro e C1 ⟨B1, q1, rfl, ⟨⟨f1, s1, lo1, nd1⟩, hbn⟩⟩
  have hi1 := s1.lt
  have zc1 := hbn.size
  have hxC := hx.below' hbn
  have paC := pa.below' hbn
  have poC := po.below' hbn
  have prC := pr.below hbn (by omega)
  have hBC := hB.trans (hbn.mono hB.size)
  have t0 := s0.below' hbn
  have t1 := s1
  clear hx pa po pr hB hbn s0 s1 ca1 ca2 ca3
  have oc1 := poC.c 1 (by decide)
  have oz1 := poC.z 1
  have oc2 := poC.c 2 (by decide)
  have oz2 := poC.z 2
  have oc3 := poC.c 3 (by decide)
  have oz3 := poC.z 3
  have ho : Only [w.heap.size + 1 + 1] C1 (((C1.setCell ⟨w.heap.size + 1 + 1, 1, none⟩ (.int .i64 x.rows)).setCell ⟨w.heap.size + 1 + 1, 2, none⟩ (.int .i64 x.columns)).setCell ⟨w.heap.size + 1 + 1, 3, none⟩ (.slice B1 x.ma.length q1)) := by
    repeat (refine Only.set ?_ _ _)
    exact Only.refl _ _
  have hx := hxC.onlyF ho (fun i hi b hb hm => by rw [List.mem_singleton] at hm; have := hFl i hi b hb; omega)
  have pa := paC.only ho (fun hm => by rw [List.mem_singleton] at hm; omega)
  have pr := prC.onlyB ho (fun hm => by rw [List.mem_singleton] at hm; omega)
  have po : OBox (((C1.setCell ⟨w.heap.size + 1 + 1, 1, none⟩ (.int .i64 x.rows)).setCell ⟨w.heap.size + 1 + 1, 2, none⟩ (.int .i64 x.columns)).setCell ⟨w.heap.size + 1 + 1, 3, none⟩ (.slice B1 x.ma.length q1)) (w.heap.size + 1 + 1) _ := ((((((poC).set (k := 1) (by decide) (.int .i64 x.rows))).set (k := 2) (by decide) (.int .i64 x.columns))).set (k := 3) (by decide) (.slice B1 x.ma.length q1))
  have hB := hBC.trans (ho.below (B := w.heap.size) hBC.size (fun b hm => by rw [List.mem_singleton] at hm; omega))
  have zd1 : (((C1.setCell ⟨w.heap.size + 1 + 1, 1, none⟩ (.int .i64 x.rows)).setCell ⟨w.heap.size + 1 + 1, 2, none⟩ (.int .i64 x.columns)).setCell ⟨w.heap.size + 1 + 1, 3, none⟩ (.slice B1 x.ma.length q1)).heap.size = C1.heap.size := by simp
  have s0 := t0.only ho (fun b hb hm => by rw [List.mem_singleton] at hm; have := lo0 b hb; omega)
  have s1 := t1.only ho (fun b hb hm => by rw [List.mem_singleton] at hm; have := lo1 b hb; omega)
  clear hxC paC prC poC hBC ho t0 t1
  have ca4 := pa.c4
  go_wp2_with fail
  generalize hD1 : (((C1.setCell ⟨w.heap.size + 1 + 1, 1, none⟩ (.int .i64 x.rows)).setCell ⟨w.heap.size + 1 + 1, 2, none⟩ (.int .i64 x.columns)).setCell ⟨w.heap.size + 1 + 1, 3, none⟩ (.slice B1 x.ma.length q1)) = D1 at *
  clear hD1 oc1 oz1 oc2 oz2 oc3 oz3
  refine (toTestS_any _ _ _ _ hx.te l2).mono ?_
  rintro e C2 ⟨y, rfl, ⟨⟨f2, s2, lo2, nd2⟩, hbn⟩⟩
  obtain ⟨B2, q2, rfl, _, _⟩ := s2.form
  have hi2 := s2.lt
  have zc2 := hbn.size
  have hxC := hx.below' hbn
  have paC := pa.below' hbn
  have poC := po.below' hbn
  have prC := pr.below hbn (by omega)
  have hBC := hB.trans (hbn.mono hB.size)
  have t0 := s0.below' hbn
  have t1 := s1.below' hbn
  have t2 := s2
  clear hx pa po pr hB hbn s0 s1 s2 ca4
  have oc4 := poC.c 4 (by decide)
  have oz4 := poC.z 4
  have ho : Only [w.heap.size + 1 + 1] C2 (C2.setCell ⟨w.heap.size + 1 + 1, 4, none⟩ (.slice B2 x.te.length q2)) := by
    repeat (refine Only.set ?_ _ _)
    exact Only.refl _ _
  have hx := hxC.onlyF ho (fun i hi b hb hm => by rw [List.mem_singleton] at hm; have := hFl i hi b hb; omega)
  have pa := paC.only ho (fun hm => by rw [List.mem_singleton] at hm; omega)
  have pr := prC.onlyB ho (fun hm => by rw [List.mem_singleton] at hm; omega)
  have po : OBox (C2.setCell ⟨w.heap.size + 1 + 1, 4, none⟩ (.slice B2 x.te.length q2)) (w.heap.size + 1 + 1) _ := ((poC).set (k := 4) (by decide) (.slice B2 x.te.length q2))
  have hB := hBC.trans (ho.below (B := w.heap.size) hBC.size (fun b hm => by rw [List.mem_singleton] at hm; omega))
  have zd2 : (C2.setCell ⟨w.heap.size + 1 + 1, 4, none⟩ (.slice B2 x.te.length q2)).heap.size = C2.heap.size := by simp
  have s0 := t0.only ho (fun b hb hm => by rw [List.mem_singleton] at hm; have := lo0 b hb; omega)
  have s1 := t1.only ho (fun b hb hm => by rw [List.mem_singleton] at hm; have := lo1 b hb; omega)
  have s2 := t2.only ho (fun b hb hm => by rw [List.mem_singleton] at hm; have := lo2 b hb; omega)
  clear hxC paC prC poC hBC ho t0 t1 t2
  have ca5 := pa.c5
  go_wp2_with fail
  generalize hD2 : (C2.setCell ⟨w.heap.size + 1 + 1, 4, none⟩ (.slice B2 x.te.length q2)) = D2 at *
  clear hD2 oc4 oz4
  refine (toStandS_any _ _ _ _ hx.st l3).mono ?_
  rintro e C3 ⟨y, rfl, ⟨⟨f3, s3, lo3, nd3⟩, hbn⟩⟩
  obtain ⟨B3, q3, rfl, _, _⟩ := s3.form
  have hi3 := s3.lt
  have zc3 := hbn.size
  have hxC := hx.below' hbn
  have paC := pa.below' hbn
  have poC := po.below' hbn
  have prC := pr.below hbn (by omega)
  have hBC := hB.trans (hbn.mono hB.size)
  have t0 := s0.below' hbn
  have t1 := s1.below' hbn
  have t2 := s2.below' hbn
  have t3 := s3
  clear hx pa po pr hB hbn s0 s1 s2 s3 ca5
  have oc5 := poC.c 5 (by decide)
  have oz5 := poC.z 5
  have ho : Only [w.heap.size + 1 + 1] C3 (C3.setCell ⟨w.heap.size + 1 + 1, 5, none⟩ (.slice B3 x.st.length q3)) := by
    repeat (refine Only.set ?_ _ _)
    exact Only.refl _ _
  have hx := hxC.onlyF ho (fun i hi b hb hm => by rw [List.mem_singleton] at hm; have := hFl i hi b hb; omega)
  have pa := paC.only ho (fun hm => by rw [List.mem_singleton] at hm; omega)
  have pr := prC.onlyB ho (fun hm => by rw [List.mem_singleton] at hm; omega)
  have po : OBox (C3.setCell ⟨w.heap.size + 1 + 1, 5, none⟩ (.slice B3 x.st.length q3)) (w.heap.size + 1 + 1) _ := ((poC).set (k := 5) (by decide) (.slice B3 x.st.length q3))
  have hB := hBC.trans (ho.below (B := w.heap.size) hBC.size (fun b hm => by rw [List.mem_singleton] at hm; omega))
  have zd3 : (C3.setCell ⟨w.heap.size + 1 + 1, 5, none⟩ (.slice B3 x.st.length q3)).heap.size = C3.heap.size := by simp
  have s0 := t0.only ho (fun b hb hm => by rw [List.mem_singleton] at hm; have := lo0 b hb; omega)
  have s1 := t1.only ho (fun b hb hm => by rw [List.mem_singleton] at hm; have := lo1 b hb; omega)
  have s2 := t2.only ho (fun b hb hm => by rw [List.mem_singleton] at hm; have := lo2 b hb; omega)
  have s3 := t3.only ho (fun b hb hm => by rw [List.mem_singleton] at hm; have := lo3 b hb; omega)
  clear hxC paC prC poC hBC ho t0 t1 t2 t3
  have ca6 := pa.c6
  go_wp2_with fail
  generalize hD3 : (C3.setCell ⟨w.heap.size + 1 + 1, 5, none⟩ (.slice B3 x.st.length q3)) = D3 at *
  clear hD3 oc5 oz5
  refine (toPathPointS_any _ _ _ _ hx.pa l4).mono ?_
  rintro e C4 ⟨y, rfl, ⟨⟨f4, s4, lo4, nd4⟩, hbn⟩⟩
  obtain ⟨B4, q4, rfl, _, _⟩ := s4.form
  have hi4 := s4.lt
  have zc4 := hbn.size
  have hxC := hx.below' hbn
  have paC := pa.below' hbn
  have poC := po.below' hbn
  have prC := pr.below hbn (by omega)
  have hBC := hB.trans (hbn.mono hB.size)
  have t0 := s0.below' hbn
  have t1 := s1.below' hbn
  have t2 := s2.below' hbn
  have t3 := s3.below' hbn
  have t4 := s4
  clear hx pa po pr hB hbn s0 s1 s2 s3 s4 ca6
  have oc6 := poC.c 6 (by decide)
  have oz6 := poC.z 6
  have ho : Only [w.heap.size + 1 + 1] C4 (C4.setCell ⟨w.heap.size + 1 + 1, 6, none⟩ (.slice B4 x.pa.length q4)) := by
    repeat (refine Only.set ?_ _ _)
    exact Only.refl _ _
  have hx := hxC.onlyF ho (fun i hi b hb hm => by rw [List.mem_singleton] at hm; have := hFl i hi b hb; omega)
  have pa := paC.only ho (fun hm => by rw [List.mem_singleton] at hm; omega)
  have pr := prC.onlyB ho (fun hm => by rw [List.mem_singleton] at hm; omega)
  have po : OBox (C4.setCell ⟨w.heap.size + 1 + 1, 6, none⟩ (.slice B4 x.pa.length q4)) (w.heap.size + 1 + 1) _ := ((poC).set (k := 6) (by decide) (.slice B4 x.pa.length q4))
  have hB := hBC.trans (ho.below (B := w.heap.size) hBC.size (fun b hm => by rw [List.mem_singleton] at hm; omega))
  have zd4 : (C4.setCell ⟨w.heap.size + 1 + 1, 6, none⟩ (.slice B4 x.pa.length q4)).heap.size = C4.heap.size := by simp
  have s0 := t0.only ho (fun b hb hm => by rw [List.mem_singleton] at hm; have := lo0 b hb; omega)
  have s1 := t1.only ho (fun b hb hm => by rw [List.mem_singleton] at hm; have := lo1 b hb; omega)
  have s2 := t2.only ho (fun b hb hm => by rw [List.mem_singleton] at hm; have := lo2 b hb; omega)
  have s3 := t3.only ho (fun b hb hm => by rw [List.mem_singleton] at hm; have := lo3 b hb; omega)
  have s4 := t4.only ho (fun b hb hm => by rw [List.mem_singleton] at hm; have := lo4 b hb; omega)
  clear hxC paC prC poC hBC ho t0 t1 t2 t3 t4
  have ca7 := pa.c7
  go_wp2_with fail
  generalize hD4 : (C4.setCell ⟨w.heap.size + 1 + 1, 6, none⟩ (.slice B4 x.pa.length q4)) = D4 at *
  clear hD4 oc6 oz6
  refine (toInt64S_any _ _ _ _ hx.zo l5).mono ?_
  rintro e C5 ⟨y, rfl, ⟨⟨f5, s5, lo5, nd5⟩, hbn⟩⟩
  obtain ⟨B5, q5, rfl, _, _⟩ := s5.form
  have hi5 := s5.lt
  have zc5 := hbn.size
  have hxC := hx.below' hbn
  have paC := pa.below' hbn
  have poC := po.below' hbn
  have prC := pr.below hbn (by omega)
  have hBC := hB.trans (hbn.mono hB.size)
  have t0 := s0.below' hbn
  have t1 := s1.below' hbn
  have t2 := s2.below' hbn
  have t3 := s3.below' hbn
  have t4 := s4.below' hbn
  have t5 := s5
  clear hx pa po pr hB hbn s0 s1 s2 s3 s4 s5 ca7
  have oc7 := poC.c 7 (by decide)
  have oz7 := poC.z 7
  have ho : Only [w.heap.size + 1 + 1] C5 (C5.setCell ⟨w.heap.size + 1 + 1, 7, none⟩ (.slice B5 x.zo.length q5)) := by
    repeat (refine Only.set ?_ _ _)
    exact Only.refl _ _
  have hx := hxC.onlyF ho (fun i hi b hb hm => by rw [List.mem_singleton] at hm; have := hFl i hi b hb; omega)
  have pa := paC.only ho (fun hm => by rw [List.mem_singleton] at hm; omega)
  have pr := prC.onlyB ho (fun hm => by rw [List.mem_singleton] at hm; omega)
  have po : OBox (C5.setCell ⟨w.heap.size + 1 + 1, 7, none⟩ (.slice B5 x.zo.length q5)) (w.heap.size + 1 + 1) _ := ((poC).set (k := 7) (by decide) (.slice B5 x.zo.length q5))
  have hB := hBC.trans (ho.below (B := w.heap.size) hBC.size (fun b hm => by rw [List.mem_singleton] at hm; omega))
  have zd5 : (C5.setCell ⟨w.heap.size + 1 + 1, 7, none⟩ (.slice B5 x.zo.length q5)).heap.size = C5.heap.size := by simp
  have s0 := t0.only ho (fun b hb hm => by rw [List.mem_singleton] at hm; have := lo0 b hb; omega)
  have s1 := t1.only ho (fun b hb hm => by rw [List.mem_singleton] at hm; have := lo1 b hb; omega)
  have s2 := t2.only ho (fun b hb hm => by rw [List.mem_singleton] at hm; have := lo2 b hb; omega)
  have s3 := t3.only ho (fun b hb hm => by rw [List.mem_singleton] at hm; have := lo3 b hb; omega)
  have s4 := t4.only ho (fun b hb hm => by rw [List.mem_singleton] at hm; have := lo4 b hb; omega)
  have s5 := t5.only ho (fun b hb hm => by rw [List.mem_singleton] at hm; have := lo5 b hb; omega)
  clear hxC paC prC poC hBC ho t0 t1 t2 t3 t4 t5
  have ca8 := pa.c8
  go_wp2_with fail
  generalize hD5 : (C5.setCell ⟨w.heap.size + 1 + 1, 7, none⟩ (.slice B5 x.zo.length q5)) = D5 at *
  clear hD5 oc7 oz7
  refine (toRegionS_any _ _ _ _ hx.re l6).mono ?_
  rintro e C6 ⟨y, rfl, ⟨⟨f6, s6, lo6, nd6⟩, hbn⟩⟩
  obtain ⟨B6, q6, rfl, _, _⟩ := s6.form
  have hi6 := s6.lt
  have zc6 := hbn.size
  have hxC := hx.below' hbn
  have paC := pa.below' hbn
  have poC := po.below' hbn
  have prC := pr.below hbn (by omega)
  have hBC := hB.trans (hbn.mono hB.size)
  have t0 := s0.below' hbn
  have t1 := s1.below' hbn
  have t2 := s2.below' hbn
  have t3 := s3.below' hbn
  have t4 := s4.below' hbn
  have t5 := s5.below' hbn
  have t6 := s6
  clear hx pa po pr hB hbn s0 s1 s2 s3 s4 s5 s6 ca8
  have oc8 := poC.c 8 (by decide)
  have oz8 := poC.z 8
  have ho : Only [w.heap.size + 1 + 1] C6 (C6.setCell ⟨w.heap.size + 1 + 1, 8, none⟩ (.slice B6 x.re.length q6)) := by
    repeat (refine Only.set ?_ _ _)
    exact Only.refl _ _
  have hx := hxC.onlyF ho (fun i hi b hb hm => by rw [List.mem_singleton] at hm; have := hFl i hi b hb; omega)
  have pa := paC.only ho (fun hm => by rw [List.mem_singleton] at hm; omega)
  have pr := prC.onlyB ho (fun hm => by rw [List.mem_singleton] at hm; omega)
  have po : OBox (C6.setCell ⟨w.heap.size + 1 + 1, 8, none⟩ (.slice B6 x.re.length q6)) (w.heap.size + 1 + 1) _ := ((poC).set (k := 8) (by decide) (.slice B6 x.re.length q6))
  have hB := hBC.trans (ho.below (B := w.heap.size) hBC.size (fun b hm => by rw [List.mem_singleton] at hm; omega))
  have zd6 : (C6.setCell ⟨w.heap.size + 1 + 1, 8, none⟩ (.slice B6 x.re.length q6)).heap.size = C6.heap.size := by simp
  have s0 := t0.only ho (fun b hb hm => by rw [List.mem_singleton] at hm; have := lo0 b hb; omega)
  have s1 := t1.only ho (fun b hb hm => by rw [List.mem_singleton] at hm; have := lo1 b hb; omega)
  have s2 := t2.only ho (fun b hb hm => by rw [List.mem_singleton] at hm; have := lo2 b hb; omega)
  have s3 := t3.only ho (fun b hb hm => by rw [List.mem_singleton] at hm; have := lo3 b hb; omega)
  have s4 := t4.only ho (fun b hb hm => by rw [List.mem_singleton] at hm; have := lo4 b hb; omega)
  have s5 := t5.only ho (fun b hb hm => by rw [List.mem_singleton] at hm; have := lo5 b hb; omega)
  have s6 := t6.only ho (fun b hb hm => by rw [List.mem_singleton] at hm; have := lo6 b hb; omega)
  clear hxC paC prC poC hBC ho t0 t1 t2 t3 t4 t5 t6
  have ca9 := pa.c9
  go_wp2_with fail
  generalize hD6 : (C6.setCell ⟨w.heap.size + 1 + 1, 8, none⟩ (.slice B6 x.re.length q6)) = D6 at *
  clear hD6 oc8 oz8
  refine (toVerifiedS_any _ _ _ _ hx.ve l7).mono ?_
  rintro e C7 ⟨y, rfl, ⟨⟨f7, s7, lo7, nd7⟩, hbn⟩⟩
  obtain ⟨B7, q7, rfl, _, _⟩ := s7.form
  have hi7 := s7.lt
  have zc7 := hbn.size
  have hxC := hx.below' hbn
  have paC := pa.below' hbn
  have poC := po.below' hbn
  have prC := pr.below hbn (by omega)
  have hBC := hB.trans (hbn.mono hB.size)
  have t0 := s0.below' hbn
  have t1 := s1.below' hbn
  have t2 := s2.below' hbn
  have t3 := s3.below' hbn
  have t4 := s4.below' hbn
  have t5 := s5.below' hbn
  have t6 := s6.below' hbn
  have t7 := s7
  clear hx pa po pr hB hbn s0 s1 s2 s3 s4 s5 s6 s7 ca9
  have oc9 := poC.c 9 (by decide)
  have oz9 := poC.z 9
  have ho : Only [w.heap.size + 1 + 1] C7 (C7.setCell ⟨w.heap.size + 1 + 1, 9, none⟩ (.slice B7 x.ve.length q7)) := by
    repeat (refine Only.set ?_ _ _)
    exact Only.refl _ _
  have hx := hxC.onlyF ho (fun i hi b hb hm => by rw [List.mem_singleton] at hm; have := hFl i hi b hb; omega)
  have pa := paC.only ho (fun hm => by rw [List.mem_singleton] at hm; omega)
  have pr := prC.onlyB ho (fun hm => by rw [List.mem_singleton] at hm; omega)
  have po : OBox (C7.setCell ⟨w.heap.size + 1 + 1, 9, none⟩ (.slice B7 x.ve.length q7)) (w.heap.size + 1 + 1) _ := ((poC).set (k := 9) (by decide) (.slice B7 x.ve.length q7))
  have hB := hBC.trans (ho.below (B := w.heap.size) hBC.size (fun b hm => by rw [List.mem_singleton] at hm; omega))
  have zd7 : (C7.setCell ⟨w.heap.size + 1 + 1, 9, none⟩ (.slice B7 x.ve.length q7)).heap.size = C7.heap.size := by simp
  have s0 := t0.only ho (fun b hb hm => by rw [List.mem_singleton] at hm; have := lo0 b hb; omega)
  have s1 := t1.only ho (fun b hb hm => by rw [List.mem_singleton] at hm; have := lo1 b hb; omega)
  have s2 := t2.only ho (fun b hb hm => by rw [List.mem_singleton] at hm; have := lo2 b hb; omega)
  have s3 := t3.only ho (fun b hb hm => by rw [List.mem_singleton] at hm; have := lo3 b hb; omega)
  have s4 := t4.only ho (fun b hb hm => by rw [List.mem_singleton] at hm; have := lo4 b hb; omega)
  have s5 := t5.only ho (fun b hb hm => by rw [List.mem_singleton] at hm; have := lo5 b hb; omega)
  have s6 := t6.only ho (fun b hb hm => by rw [List.mem_singleton] at hm; have := lo6 b hb; omega)
  have s7 := t7.only ho (fun b hb hm => by rw [List.mem_singleton] at hm; have := lo7 b hb; omega)
  clear hxC paC prC poC hBC ho t0 t1 t2 t3 t4 t5 t6 t7
  have ca10 := pa.c10
  go_wp2_with fail
  generalize hD7 : (C7.setCell ⟨w.heap.size + 1 + 1, 9, none⟩ (.slice B7 x.ve.length q7)) = D7 at *
  clear hD7 oc9 oz9
  refine (toShotS_any _ _ _ _ hx.sh l8).mono ?_
  rintro e C8 ⟨y, rfl, ⟨⟨f8, s8, lo8, nd8⟩, hbn⟩⟩
  obtain ⟨B8, q8, rfl, _, _⟩ := s8.form
  have hi8 := s8.lt
  have zc8 := hbn.size
  have hxC := hx.below' hbn
  have paC := pa.below' hbn
  have poC := po.below' hbn
  have prC := pr.below hbn (by omega)
  have hBC := hB.trans (hbn.mono hB.size)
  have t0 := s0.below' hbn
  have t1 := s1.below' hbn
  have t2 := s2.below' hbn
  have t3 := s3.below' hbn
  have t4 := s4.below' hbn
  have t5 := s5.below' hbn
  have t6 := s6.below' hbn
  have t7 := s7.below' hbn
  have t8 := s8
  clear hx pa po pr hB hbn s0 s1 s2 s3 s4 s5 s6 s7 s8 ca10
  have oc10 := poC.c 10 (by decide)
  have oz10 := poC.z 10
  have ho : Only [w.heap.size + 1 + 1] C8 (C8.setCell ⟨w.heap.size + 1 + 1, 10, none⟩ (.slice B8 x.sh.length q8)) := by
    repeat (refine Only.set ?_ _ _)
    exact Only.refl _ _
  have hx := hxC.onlyF ho (fun i hi b hb hm => by rw [List.mem_singleton] at hm; have := hFl i hi b hb; omega)
  have pa := paC.only ho (fun hm => by rw [List.mem_singleton] at hm; omega)
  have pr := prC.onlyB ho (fun hm => by rw [List.mem_singleton] at hm; omega)
  have po : OBox (C8.setCell ⟨w.heap.size + 1 + 1, 10, none⟩ (.slice B8 x.sh.length q8)) (w.heap.size + 1 + 1) _ := ((poC).set (k := 10) (by decide) (.slice B8 x.sh.length q8))
  have hB := hBC.trans (ho.below (B := w.heap.size) hBC.size (fun b hm => by rw [List.mem_singleton] at hm; omega))
  have zd8 : (C8.setCell ⟨w.heap.size + 1 + 1, 10, none⟩ (.slice B8 x.sh.length q8)).heap.size = C8.heap.size := by simp
  have s0 := t0.only ho (fun b hb hm => by rw [List.mem_singleton] at hm; have := lo0 b hb; omega)
  have s1 := t1.only ho (fun b hb hm => by rw [List.mem_singleton] at hm; have := lo1 b hb; omega)
  have s2 := t2.only ho (fun b hb hm => by rw [List.mem_singleton] at hm; have := lo2 b hb; omega)
  have s3 := t3.only ho (fun b hb hm => by rw [List.mem_singleton] at hm; have := lo3 b hb; omega)
  have s4 := t4.only ho (fun b hb hm => by rw [List.mem_singleton] at hm; have := lo4 b hb; omega)
  have s5 := t5.only ho (fun b hb hm => by rw [List.mem_singleton] at hm; have := lo5 b hb; omega)
  have s6 := t6.only ho (fun b hb hm => by rw [List.mem_singleton] at hm; have := lo6 b hb; omega)
  have s7 := t7.only ho (fun b hb hm => by rw [List.mem_singleton] at hm; have := lo7 b hb; omega)
  have s8 := t8.only ho (fun b hb hm => by rw [List.mem_singleton] at hm; have := lo8 b hb; omega)
  clear hxC paC prC poC hBC ho t0 t1 t2 t3 t4 t5 t6 t7 t8
  have ca11 := pa.c11
  go_wp2_with fail
  generalize hD8 : (C8.setCell ⟨w.heap.size + 1 + 1, 10, none⟩ (.slice B8 x.sh.length q8)) = D8 at *
  clear hD8 oc10 oz10
  refine (toGroupS_any _ _ _ _ hx.gr l9).mono ?_
  rintro e C9 ⟨y, rfl, ⟨⟨f9, s9, lo9, nd9⟩, hbn⟩⟩
  obtain ⟨B9, q9, rfl, _, _⟩ := s9.form
  have hi9 := s9.lt
  have zc9 := hbn.size
  have hxC := hx.below' hbn
  have paC := pa.below' hbn
  have poC := po.below' hbn
  have prC := pr.below hbn (by omega)
  have hBC := hB.trans (hbn.mono hB.size)
  have t0 := s0.below' hbn
  have t1 := s1.below' hbn
  have t2 := s2.below' hbn
  have t3 := s3.below' hbn
  have t4 := s4.below' hbn
  have t5 := s5.below' hbn
  have t6 := s6.below' hbn
  have t7 := s7.below' hbn
  have t8 := s8.below' hbn
  have t9 := s9
  clear hx pa po pr hB hbn s0 s1 s2 s3 s4 s5 s6 s7 s8 s9 ca11
  have oc11 := poC.c 11 (by decide)
  have oz11 := poC.z 11
  have ho : Only [w.heap.size + 1 + 1] C9 (C9.setCell ⟨w.heap.size + 1 + 1, 11, none⟩ (.slice B9 x.gr.length q9)) := by
    repeat (refine Only.set ?_ _ _)
    exact Only.refl _ _
  have hx := hxC.onlyF ho (fun i hi b hb hm => by rw [List.mem_singleton] at hm; have := hFl i hi b hb; omega)
  have pa := paC.only ho (fun hm => by rw [List.mem_singleton] at hm; omega)
  have pr := prC.onlyB ho (fun hm => by rw [List.mem_singleton] at hm; omega)
  have po : OBox (C9.setCell ⟨w.heap.size + 1 + 1, 11, none⟩ (.slice B9 x.gr.length q9)) (w.heap.size + 1 + 1) _ := ((poC).set (k := 11) (by decide) (.slice B9 x.gr.length q9))
  have hB := hBC.trans (ho.below (B := w.heap.size) hBC.size (fun b hm => by rw [List.mem_singleton] at hm; omega))
  have zd9 : (C9.setCell ⟨w.heap.size + 1 + 1, 11, none⟩ (.slice B9 x.gr.length q9)).heap.size = C9.heap.size := by simp
  have s0 := t0.only ho (fun b hb hm => by rw [List.mem_singleton] at hm; have := lo0 b hb; omega)
  have s1 := t1.only ho (fun b hb hm => by rw [List.mem_singleton] at hm; have := lo1 b hb; omega)
  have s2 := t2.only ho (fun b hb hm => by rw [List.mem_singleton] at hm; have := lo2 b hb; omega)
  have s3 := t3.only ho (fun b hb hm => by rw [List.mem_singleton] at hm; have := lo3 b hb; omega)
  have s4 := t4.only ho (fun b hb hm => by rw [List.mem_singleton] at hm; have := lo4 b hb; omega)
  have s5 := t5.only ho (fun b hb hm => by rw [List.mem_singleton] at hm; have := lo5 b hb; omega)
  have s6 := t6.only ho (fun b hb hm => by rw [List.mem_singleton] at hm; have := lo6 b hb; omega)
  have s7 := t7.only ho (fun b hb hm => by rw [List.mem_singleton] at hm; have := lo7 b hb; omega)
  have s8 := t8.only ho (fun b hb hm => by rw [List.mem_singleton] at hm; have := lo8 b hb; omega)
  have s9 := t9.only ho (fun b hb hm => by rw [List.mem_singleton] at hm; have := lo9 b hb; omega)
  clear hxC paC prC poC hBC ho t0 t1 t2 t3 t4 t5 t6 t7 t8 t9
  have ca12 := pa.c12
  go_wp2_with fail
  generalize hD9 : (C9.setCell ⟨w.heap.size + 1 + 1, 11, none⟩ (.slice B9 x.gr.length q9)) = D9 at *
  clear hD9 oc11 oz11
  refine (toWatchS_any _ _ _ _ hx.wa l10).mono ?_
  rintro e C10 ⟨y, rfl, ⟨⟨f10, s10, lo10, nd10⟩, hbn⟩⟩
  obtain ⟨B10, q10, rfl, _, _⟩ := s10.form
  have hi10 := s10.lt
  have zc10 := hbn.size
  have hxC := hx.below' hbn
  have paC := pa.below' hbn
  have poC := po.below' hbn
  have prC := pr.below hbn (by omega)
  have hBC := hB.trans (hbn.mono hB.size)
  have t0 := s0.below' hbn
  have t1 := s1.below' hbn
  have t2 := s2.below' hbn
  have t3 := s3.below' hbn
  have t4 := s4.below' hbn
  have t5 := s5.below' hbn
  have t6 := s6.below' hbn
  have t7 := s7.below' hbn
  have t8 := s8.below' hbn
  have t9 := s9.below' hbn
  have t10 := s10
  clear hx pa po pr hB hbn s0 s1 s2 s3 s4 s5 s6 s7 s8 s9 s10 ca12
  have oc12 := poC.c 12 (by decide)
  have oz12 := poC.z 12
  have ho : Only [w.heap.size + 1 + 1] C10 (C10.setCell ⟨w.heap.size + 1 + 1, 12, none⟩ (.slice B10 x.wa.length q10)) := by
    repeat (refine Only.set ?_ _ _)
    exact Only.refl _ _
  have hx := hxC.onlyF ho (fun i hi b hb hm => by rw [List.mem_singleton] at hm; have := hFl i hi b hb; omega)
  have pa := paC.only ho (fun hm => by rw [List.mem_singleton] at hm; omega)
  have pr := prC.onlyB ho (fun hm => by rw [List.mem_singleton] at hm; omega)
  have po : OBox (C10.setCell ⟨w.heap.size + 1 + 1, 12, none⟩ (.slice B10 x.wa.length q10)) (w.heap.size + 1 + 1) _ := ((poC).set (k := 12) (by decide) (.slice B10 x.wa.length q10))
  have hB := hBC.trans (ho.below (B := w.heap.size) hBC.size (fun b hm => by rw [List.mem_singleton] at hm; omega))
  have zd10 : (C10.setCell ⟨w.heap.size + 1 + 1, 12, none⟩ (.slice B10 x.wa.length q10)).heap.size = C10.heap.size := by simp
  have s0 := t0.only ho (fun b hb hm => by rw [List.mem_singleton] at hm; have := lo0 b hb; omega)
  have s1 := t1.only ho (fun b hb hm => by rw [List.mem_singleton] at hm; have := lo1 b hb; omega)
  have s2 := t2.only ho (fun b hb hm => by rw [List.mem_singleton] at hm; have := lo2 b hb; omega)
  have s3 := t3.only ho (fun b hb hm => by rw [List.mem_singleton] at hm; have := lo3 b hb; omega)
  have s4 := t4.only ho (fun b hb hm => by rw [List.mem_singleton] at hm; have := lo4 b hb; omega)
  have s5 := t5.only ho (fun b hb hm => by rw [List.mem_singleton] at hm; have := lo5 b hb; omega)
  have s6 := t6.only ho (fun b hb hm => by rw [List.mem_singleton] at hm; have := lo6 b hb; omega)
  have s7 := t7.only ho (fun b hb hm => by rw [List.mem_singleton] at hm; have := lo7 b hb; omega)
  have s8 := t8.only ho (fun b hb hm => by rw [List.mem_singleton] at hm; have := lo8 b hb; omega)
  have s9 := t9.only ho (fun b hb hm => by rw [List.mem_singleton] at hm; have := lo9 b hb; omega)
  have s10 := t10.only ho (fun b hb hm => by rw [List.mem_singleton] at hm; have := lo10 b hb; omega)
  clear hxC paC prC poC hBC ho t0 t1 t2 t3 t4 t5 t6 t7 t8 t9 t10
  have ca13 := pa.c13
  go_wp2_with fail
  generalize hD10 : (C10.setCell ⟨w.heap.size + 1 + 1, 12, none⟩ (.slice B10 x.wa.length q10)) = D10 at *
  clear hD10 oc12 oz12
  refine (toIncidentS_any _ _ _ _ hx.in_ l11).mono ?_
  rintro e C11 ⟨y, rfl, ⟨⟨f11, s11, lo11, nd11⟩, hbn⟩⟩
  obtain ⟨B11, q11, rfl, _, _⟩ := s11.form
  have hi11 := s11.lt
  have zc11 := hbn.size
  have hxC := hx.below' hbn
  have paC := pa.below' hbn
  have poC := po.below' hbn
  have prC := pr.below hbn (by omega)
  have hBC := hB.trans (hbn.mono hB.size)
  have t0 := s0.below' hbn
  have t1 := s1.below' hbn
  have t2 := s2.below' hbn
  have t3 := s3.below' hbn
  have t4 := s4.below' hbn
  have t5 := s5.below' hbn
  have t6 := s6.below' hbn
  have t7 := s7.below' hbn
  have t8 := s8.below' hbn
  have t9 := s9.below' hbn
  have t10 := s10.below' hbn
  have t11 := s11
  clear hx pa po pr hB hbn s0 s1 s2 s3 s4 s5 s6 s7 s8 s9 s10 s11 ca13
  have oc13 := poC.c 13 (by decide)
  have oz13 := poC.z 13
  have g0 : C11.cell? ⟨w.heap.size + 1 + 1, 0, none⟩ = some (.slice B0 x.ob.length q0) := by have := poC.c 0 (by decide); simpa using this
  have g1 : C11.cell? ⟨w.heap.size + 1 + 1, 1, none⟩ = some (.int .i64 x.rows) := by have := poC.c 1 (by decide); simpa using this
  have g2 : C11.cell? ⟨w.heap.size + 1 + 1, 2, none⟩ = some (.int .i64 x.columns) := by have := poC.c 2 (by decide); simpa using this
  have g3 : C11.cell? ⟨w.heap.size + 1 + 1, 3, none⟩ = some (.slice B1 x.ma.length q1) := by have := poC.c 3 (by decide); simpa using this
  have g4 : C11.cell? ⟨w.heap.size + 1 + 1, 4, none⟩ = some (.slice B2 x.te.length q2) := by have := poC.c 4 (by decide); simpa using this
  have g5 : C11.cell? ⟨w.heap.size + 1 + 1, 5, none⟩ = some (.slice B3 x.st.length q3) := by have := poC.c 5 (by decide); simpa using this
  have g6 : C11.cell? ⟨w.heap.size + 1 + 1, 6, none⟩ = some (.slice B4 x.pa.length q4) := by have := poC.c 6 (by decide); simpa using this
  have g7 : C11.cell? ⟨w.heap.size + 1 + 1, 7, none⟩ = some (.slice B5 x.zo.length q5) := by have := poC.c 7 (by decide); simpa using this
  have g8 : C11.cell? ⟨w.heap.size + 1 + 1, 8, none⟩ = some (.slice B6 x.re.length q6) := by have := poC.c 8 (by decide); simpa using this
  have g9 : C11.cell? ⟨w.heap.size + 1 + 1, 9, none⟩ = some (.slice B7 x.ve.length q7) := by have := poC.c 9 (by decide); simpa using this
  have g10 : C11.cell? ⟨w.heap.size + 1 + 1, 10, none⟩ = some (.slice B8 x.sh.length q8) := by have := poC.c 10 (by decide); simpa using this
  have g11 : C11.cell? ⟨w.heap.size + 1 + 1, 11, none⟩ = some (.slice B9 x.gr.length q9) := by have := poC.c 11 (by decide); simpa using this
  have g12 : C11.cell? ⟨w.heap.size + 1 + 1, 12, none⟩ = some (.slice B10 x.wa.length q10) := by have := poC.c 12 (by decide); simpa using this
  obtain ⟨d0, d1, d2, d3, d4, d5, d6, d7, d8, d9, d10, d11, d12, d13, z0, z1, z2, z3, z4, z5, z6, z7, z8, z9, z10, z11, z12, z13⟩ := prC
  clear poC paC hxC
  go_wp2
  have hZ : ∀ i, i < 12 → ∀ b ∈ [f0, f1, f2, f3, f4, f5, f6, f7, f8, f9, f10, f11].getD i [], [w.heap.size + 1 + 1 + 1, C0.heap.size, C1.heap.size, C2.heap.size, C3.heap.size, C4.heap.size, C5.heap.size, C6.heap.size, C7.heap.size, C8.heap.size, C9.heap.size, C10.heap.size, C11.heap.size].getD i 0 ≤ b ∧ b < [w.heap.size + 1 + 1 + 1, C0.heap.size, C1.heap.size, C2.heap.size, C3.heap.size, C4.heap.size, C5.heap.size, C6.heap.size, C7.heap.size, C8.heap.size, C9.heap.size, C10.heap.size, C11.heap.size].getD (i + 1) 0 := by
    intro i hi b hb
    match i, hi, hb with
    | 0, _, hb => exact ⟨by have h := lo0 b hb; show w.heap.size + 1 + 1 + 1 ≤ b; omega, hi0 b hb⟩
    | 1, _, hb => exact ⟨by have h := lo1 b hb; show C0.heap.size ≤ b; omega, hi1 b hb⟩
    | 2, _, hb => exact ⟨by have h := lo2 b hb; show C1.heap.size ≤ b; omega, hi2 b hb⟩
    | 3, _, hb => exact ⟨by have h := lo3 b hb; show C2.heap.size ≤ b; omega, hi3 b hb⟩
    | 4, _, hb => exact ⟨by have h := lo4 b hb; show C3.heap.size ≤ b; omega, hi4 b hb⟩
    | 5, _, hb => exact ⟨by have h := lo5 b hb; show C4.heap.size ≤ b; omega, hi5 b hb⟩
    | 6, _, hb => exact ⟨by have h := lo6 b hb; show C5.heap.size ≤ b; omega, hi6 b hb⟩
    | 7, _, hb => exact ⟨by have h := lo7 b hb; show C6.heap.size ≤ b; omega, hi7 b hb⟩
    | 8, _, hb => exact ⟨by have h := lo8 b hb; show C7.heap.size ≤ b; omega, hi8 b hb⟩
    | 9, _, hb => exact ⟨by have h := lo9 b hb; show C8.heap.size ≤ b; omega, hi9 b hb⟩
    | 10, _, hb => exact ⟨by have h := lo10 b hb; show C9.heap.size ≤ b; omega, hi10 b hb⟩
    | 11, _, hb => exact ⟨by have h := lo11 b hb; show C10.heap.size ≤ b; omega, hi11 b hb⟩
  have hM : ∀ i, i < 12 → [w.heap.size + 1 + 1 + 1, C0.heap.size, C1.heap.size, C2.heap.size, C3.heap.size, C4.heap.size, C5.heap.size, C6.heap.size, C7.heap.size, C8.heap.size, C9.heap.size, C10.heap.size, C11.heap.size].getD i 0 ≤ [w.heap.size + 1 + 1 + 1, C0.heap.size, C1.heap.size, C2.heap.size, C3.heap.size, C4.heap.size, C5.heap.size, C6.heap.size, C7.heap.size, C8.heap.size, C9.heap.size, C10.heap.size, C11.heap.size].getD (i + 1) 0 := by
    intro i hi
    match i, hi with
    | 0, _ => show w.heap.size + 1 + 1 + 1 ≤ C0.heap.size; omega
    | 1, _ => show C0.heap.size ≤ C1.heap.size; omega
    | 2, _ => show C1.heap.size ≤ C2.heap.size; omega
    | 3, _ => show C2.heap.size ≤ C3.heap.size; omega
    | 4, _ => show C3.heap.size ≤ C4.heap.size; omega
    | 5, _ => show C4.heap.size ≤ C5.heap.size; omega
    | 6, _ => show C5.heap.size ≤ C6.heap.size; omega
    | 7, _ => show C6.heap.size ≤ C7.heap.size; omega
    | 8, _ => show C7.heap.size ≤ C8.heap.size; omega
    | 9, _ => show C8.heap.size ≤ C9.heap.size; omega
    | 10, _ => show C9.heap.size ≤ C10.heap.size; omega
    | 11, _ => show C10.heap.size ≤ C11.heap.size; omega
  generalize hZZ : [w.heap.size + 1 + 1 + 1, C0.heap.size, C1.heap.size, C2.heap.size, C3.heap.size, C4.heap.size, C5.heap.size, C6.heap.size, C7.heap.size, C8.heap.size, C9.heap.size, C10.heap.size, C11.heap.size] = Z at hZ hM
  have hZ0 : Z.getD 0 0 = w.heap.size + 1 + 1 + 1 := by rw [← hZZ]; rfl
  have hMM : ∀ d i, i + d ≤ 12 → Z.getD i 0 ≤ Z.getD (i + d) 0 := by
    intro d
    induction d with
    | zero => intro i _; exact Nat.le_refl _
    | succ d ih => intro i hi; exact Nat.le_trans (ih i (by omega)) (hM (i + d) (by omega))
  have hlow : ∀ i, i < 12 → ∀ b ∈ [f0, f1, f2, f3, f4, f5, f6, f7, f8, f9, f10, f11].getD i [], w.heap.size + 1 + 1 + 1 ≤ b := fun i hi b hb => by
    have h1 := (hZ i hi b hb).1
    have h2 := hMM i 0 (by omega)
    rw [Nat.zero_add] at h2
    omega
  have hap : ∀ i j, i < 12 → j < 12 → i ≠ j → ∀ b ∈ [f0, f1, f2, f3, f4, f5, f6, f7, f8, f9, f10, f11].getD i [], b ∉ [f0, f1, f2, f3, f4, f5, f6, f7, f8, f9, f10, f11].getD j [] := by
    intro i j hi hj hne b hb hb'
    have h1 := hZ i hi b hb
    have h2 := hZ j hj b hb'
    rcases Nat.lt_or_ge i j with h | h
    · have := hMM (j - (i + 1)) (i + 1) (by omega)
      rw [show i + 1 + (j - (i + 1)) = j by omega] at this
      omega
    · have := hMM (i - (j + 1)) (j + 1) (by omega)
      rw [show j + 1 + (i - (j + 1)) = i by omega] at this
      omega
  clear hZ hM hMM
  refine bodyPost_ret (v := .agg #[.slice B0 x.ob.length q0, .int .i64 x.rows, .int .i64 x.columns, .slice B1 x.ma.length q1, .slice B2 x.te.length q2, .slice B3 x.st.length q3, .slice B4 x.pa.length q4, .slice B5 x.zo.length q5, .slice B6 x.re.length q6, .slice B7 x.ve.length q7, .slice B8 x.sh.length q8, .slice B9 x.gr.length q9, .slice B10 x.wa.length q10, .slice B11 x.in_.length q11]) (by simp [results, hit_cellG, d0, d1, d2, d3, d4, d5, d6, d7, d8, d9, d10, d11, d12, d13, g0, g1, g2, g3, g4, g5, g6, g7, g8, g9, g10, g11, g12, oc13, Tryz.results6, go_sem]) rfl ⟨⟨.slice B0 x.ob.length q0, .slice B1 x.ma.length q1, .slice B2 x.te.length q2, .slice B3 x.st.length q3, .slice B4 x.pa.length q4, .slice B5 x.zo.length q5, .slice B6 x.re.length q6, .slice B7 x.ve.length q7, .slice B8 x.sh.length q8, .slice B9 x.gr.length q9, .slice B10 x.wa.length q10, .slice B11 x.in_.length q11⟩, fun i => [f0, f1, f2, f3, f4, f5, f6, f7, f8, f9, f10, f11].getD i [], rfl, ⟨⟨t0.only (fp' := [w.heap.size + 1, w.heap.size + 1 + 1]) ?_ ?_, t1.only (fp' := [w.heap.size + 1, w.heap.size + 1 + 1]) ?_ ?_, t2.only (fp' := [w.heap.size + 1, w.heap.size + 1 + 1]) ?_ ?_, t3.only (fp' := [w.heap.size + 1, w.heap.size + 1 + 1]) ?_ ?_, t4.only (fp' := [w.heap.size + 1, w.heap.size + 1 + 1]) ?_ ?_, t5.only (fp' := [w.heap.size + 1, w.heap.size + 1 + 1]) ?_ ?_, t6.only (fp' := [w.heap.size + 1, w.heap.size + 1 + 1]) ?_ ?_, t7.only (fp' := [w.heap.size + 1, w.heap.size + 1 + 1]) ?_ ?_, t8.only (fp' := [w.heap.size + 1, w.heap.size + 1 + 1]) ?_ ?_, t9.only (fp' := [w.heap.size + 1, w.heap.size + 1 + 1]) ?_ ?_, t10.only (fp' := [w.heap.size + 1, w.heap.size + 1 + 1]) ?_ ?_, t11.only (fp' := [w.heap.size + 1, w.heap.size + 1 + 1]) ?_ ?_⟩, fun i hi b hb => by have := hlow i hi b hb; omega, hap, nd6, ?_⟩⟩
  all_goals first
    | (repeat (refine Only.setIn ?_ (by simp) _ _))
      exact Only.refl _ _
    | skip
  · intro b h1 h2
    have := hlow 0 (by decide) b h1
    simp at h2
    omega
  · intro b h1 h2
    have := hlow 1 (by decide) b h1
    simp at h2
    omega
  · intro b h1 h2
    have := hlow 2 (by decide) b h1
    simp at h2
    omega
  · intro b h1 h2
    have := hlow 3 (by decide) b h1
    simp at h2
    omega
  · intro b h1 h2
    have := hlow 4 (by decide) b h1
    simp at h2
    omega
  · intro b h1 h2
    have := hlow 5 (by decide) b h1
    simp at h2
    omega
  · intro b h1 h2
    have := hlow 6 (by decide) b h1
    simp at h2
    omega
  · intro b h1 h2
    have := hlow 7 (by decide) b h1
    simp at h2
    omega
  · intro b h1 h2
    have := hlow 8 (by decide) b h1
    simp at h2
    omega
  · intro b h1 h2
    have := hlow 9 (by decide) b h1
    simp at h2
    omega
  · intro b h1 h2
    have := hlow 10 (by decide) b h1
    simp at h2
    omega
  · intro b h1 h2
    have := hlow 11 (by decide) b h1
    simp at h2
    omega
  · refine hBC.trans (Only.below (fp := [w.heap.size + 1, w.heap.size + 1 + 1]) ?_ hBC.size (fun b hb => by simp at hb; omega))
    repeat (refine Only.setIn ?_ (by simp) _ _)
    exact Only.refl _ _

end Go.Proofs.YtldigalncjhkeaaGreatDoor

namespace Go.Proofs.YtldigalncjhkeaaGreatDoor
open Go.RowKit

def inB (a lo hi : Int) : Bool := decide (lo ≤ a) && decide (a ≤ hi)
theorem inB_true {a lo hi : Int} : inB a lo hi = true ↔ lo ≤ a ∧ a ≤ hi := by simp [inB]
theorem inB_false {a lo hi : Int} : inB a lo hi = false ↔ a < lo ∨ hi < a := by
  simp [inB]
  omega

set_option maxRecDepth 100000 in
set_option maxHeartbeats 400000 in
theorem l00InB_any (a b c : Int) (w : World) :
    Calls Tryz.prog 119 #[.int .i64 a, .int .i64 b, .int .i64 c] w fun e w' => e = .returned (.bool (inB a b c)) ∧ w = w' := by
  go_enter Tryz.func119, Tryz.ntmps119
  go_wp2
  all_goals
    go_ret
    exact ⟨ret_bool (by simp [inB, *] <;> omega), rfl⟩
set_option maxRecDepth 100000 in
set_option maxHeartbeats 400000 in
theorem withinB_any (a b c : Int) (w : World) :
    Calls Tryz.prog 135 #[.int .i64 a, .int .i64 b, .int .i64 c] w fun e w' => e = .returned (.bool (inB a b c)) ∧ w = w' := by
  go_enter Tryz.func135, Tryz.ntmps135
  go_wp2
  all_goals
    go_ret
    exact ⟨ret_bool (by simp [inB, *] <;> omega), rfl⟩

def smallB (c : Int) : Bool := inB c 97 122
def digitB (c : Int) : Bool := inB c 48 57
def okNm (c : UInt8) : Bool := smallB c.toNat || digitB c.toNat
def allNm (l : List UInt8) : Bool := l.all okNm
def headNm (s : ByteArray) : Bool := match s.data.toList with | [] => false | c :: _ => smallB c.toNat
def nameB (s : ByteArray) : Bool := decide (s.size ≤ 10) && headNm s && allNm s.data.toList

theorem headNm_zero {s : ByteArray} (h : s.size = 0) : headNm s = false := by
  unfold headNm
  have : s.data.toList = [] := List.eq_nil_of_length_eq_zero (by simpa using h)
  rw [this]
theorem headNm_pos {s : ByteArray} (h : 0 < s.size) : headNm s = smallB s[0].toNat := by
  obtain ⟨⟨l⟩⟩ := s
  cases l with
  | nil => exact absurd h (by show ¬ 0 < 0; omega)
  | cons c r => rfl
theorem allNm_step {s : ByteArray} {k : Nat} (h : k < s.size) (h0 : allNm (s.data.toList.take k) = true) (h1 : okNm s[k] = true) : allNm (s.data.toList.take (k + 1)) = true := by
  rw [List.take_succ_eq_append_getElem (by simpa using h)]
  unfold allNm at *
  rw [List.all_append, h0]
  simp only [List.all_cons, List.all_nil, Bool.and_true, Bool.true_and]
  exact h1
theorem allNm_bad {s : ByteArray} {k : Nat} (h : k < s.size) (h1 : okNm s[k] = false) : allNm s.data.toList = false := by
  unfold allNm
  rw [List.all_eq_false]
  exact ⟨s[k], Array.mem_toList_iff.2 (Array.getElem_mem _), by rw [h1]; simp⟩
theorem allNm_full {s : ByteArray} {k : Nat} (h : s.size ≤ k) (h0 : allNm (s.data.toList.take k) = true) : allNm s.data.toList = true := by
  rwa [List.take_of_length_le (by simpa using h)] at h0

theorem okNm_true {c : UInt8} (h : (97 ≤ (c.toNat : Int) ∧ (c.toNat : Int) ≤ 122) ∨ (48 ≤ (c.toNat : Int) ∧ (c.toNat : Int) ≤ 57)) : okNm c = true := by
  simp only [okNm, smallB, digitB, Bool.or_eq_true, inB_true]; exact h
theorem okNm_false {c : UInt8} (h : ((c.toNat : Int) < 97 ∨ 122 < (c.toNat : Int)) ∧ ((c.toNat : Int) < 48 ∨ 57 < (c.toNat : Int))) : okNm c = false := by
  simp only [okNm, smallB, digitB, Bool.or_eq_false_iff, inB_false]; exact h

set_option maxRecDepth 100000 in
set_option maxHeartbeats 1000000 in
theorem onlyNameBytes_any (s : ByteArray) (w : World) (hs : s.size ≤ 9223372036854775807) :
    Calls Tryz.prog 159 #[.string s] w fun e w' => e = .returned (.bool (allNm s.data.toList)) ∧ w = w' := by
  go_enter Tryz.func159, Tryz.ntmps159
  go_wp2
  go_loop [7] (fun i => ∃ k : Nat, k ≤ s.size ∧ i = .int .i64 k ∧ allNm (s.data.toList.take k) = true) (fun i => s.size - (intOf i).toNat)
  case atStart => exact ⟨0, Nat.zero_le _, rfl, rfl⟩
  case round =>
    obtain ⟨k, hk, rfl, h0⟩ := hrel
    have H0 := Lib.hid h0
    clear h0
    by_cases hlt : k < s.size
    · go_wp2
      all_goals first
        | (go_ret; exact ⟨ret_bool (allNm_bad hlt (okNm_false (by omega))).symm, rfl⟩)
        | (go_round
           case rel => exact ⟨k + 1, by omega, by go_num, allNm_step hlt H0.out (okNm_true (by omega))⟩
           case measure => simp [intOf]; omega)
    · go_wp2
      go_ret
      exact ⟨ret_bool (allNm_full (by omega) H0.out).symm, rfl⟩
theorem nameB_empty {s : ByteArray} (h : s.size = 0) : nameB s = false := by simp [nameB, headNm_zero h]
theorem nameB_long {s : ByteArray} (h : 10 < s.size) : nameB s = false := by
  have : decide (s.size ≤ 10) = false := by simp; omega
  simp [nameB, this]
theorem nameB_head {s : ByteArray} (h : 0 < s.size) (h1 : (s[0].toNat : Int) < 97 ∨ 122 < (s[0].toNat : Int)) : nameB s = false := by
  have : headNm s = false := by rw [headNm_pos h]; exact inB_false.2 h1
  simp [nameB, this]
theorem nameB_rest {s : ByteArray} (h : 0 < s.size) (h0 : s.size ≤ 10) (h1 : 97 ≤ (s[0].toNat : Int) ∧ (s[0].toNat : Int) ≤ 122) : nameB s = allNm s.data.toList := by
  have : headNm s = true := by rw [headNm_pos h]; exact inB_true.2 h1
  simp [nameB, this, h0]

set_option maxRecDepth 100000 in
set_option maxHeartbeats 1000000 in
theorem implIsName_any (s : ByteArray) (w : World) (hs : s.size ≤ 9223372036854775807) :
    Calls Tryz.prog 139 #[.string s] w fun e w' => e = .returned (.bool (nameB s)) ∧ w = w' := by
  by_cases c0 : s.size = 0
  · rw [nameB_empty c0]
    have c0' : (s.size : Int) < 1 := by omega
    clear c0
    go_enter Tryz.func139, Tryz.ntmps139
    go_wp2
    go_ret
    exact ⟨rfl, rfl⟩
  · by_cases c1 : 10 < s.size
    · rw [nameB_long c1]
      go_enter Tryz.func139, Tryz.ntmps139
      go_wp2
      go_ret
      exact ⟨rfl, rfl⟩
    · have c2 : 0 < s.size := by omega
      by_cases c3 : 97 ≤ (s[0].toNat : Int) ∧ (s[0].toNat : Int) ≤ 122
      · rw [nameB_rest c2 (by omega) c3]
        obtain ⟨c4, c5⟩ := c3
        go_enter Tryz.func139, Tryz.ntmps139
        go_wp2_with (go_at_call 159; refine (onlyNameBytes_any _ _ hs).mono ?_; rintro e w' ⟨rfl, rfl⟩)
        go_ret
        exact ⟨rfl, rfl⟩
      · rw [nameB_head c2 (by omega)]
        by_cases c4 : (s[0].toNat : Int) < 97
        · clear c3
          go_enter Tryz.func139, Tryz.ntmps139
          go_wp2
          go_ret
          exact ⟨rfl, rfl⟩
        · have c5 : 122 < (s[0].toNat : Int) := by omega
          clear c3
          go_enter Tryz.func139, Tryz.ntmps139
          go_wp2
          go_ret
          exact ⟨rfl, rfl⟩
set_option maxRecDepth 100000 in
set_option maxHeartbeats 400000 in
theorem l01Small_any (c : Int) (w : World) :
    Calls Tryz.prog 153 #[.int .u8 c] w fun e w' => e = .returned (.bool (smallB c)) ∧ w = w' := by
  go_enter Tryz.func153, Tryz.ntmps153
  go_wp2
  all_goals
    go_ret
    exact ⟨ret_bool (by simp [smallB, inB, *] <;> omega), rfl⟩
set_option maxRecDepth 100000 in
set_option maxHeartbeats 400000 in
theorem l01Digit_any (c : Int) (w : World) :
    Calls Tryz.prog 154 #[.int .u8 c] w fun e w' => e = .returned (.bool (digitB c)) ∧ w = w' := by
  go_enter Tryz.func154, Tryz.ntmps154
  go_wp2
  all_goals
    go_ret
    exact ⟨ret_bool (by simp [digitB, inB, *] <;> omega), rfl⟩

set_option maxRecDepth 100000 in
set_option maxHeartbeats 1000000 in
theorem l01Name_any (s : ByteArray) (w : World) (hs : s.size ≤ 9223372036854775807) :
    Calls Tryz.prog 123 #[.string s] w fun e w' => e = .returned (.bool (nameB s)) ∧ w = w' := by
  by_cases c0 : s.size = 0
  · rw [nameB_empty c0]
    have e0 : s = ⟨#[]⟩ := ByteArray.ext (Array.eq_empty_of_size_eq_zero c0)
    subst e0
    clear c0
    go_enter Tryz.func123, Tryz.ntmps123
    go_wp2
    go_ret
    exact ⟨rfl, rfl⟩
  · have hemp : s.toList.isEmpty = false := by
      rw [ByteArray.toList_eq]
      cases hl : s.data.toList with
      | nil => exact absurd (by have := congrArg List.length hl; simpa using this) c0
      | cons => rfl
    by_cases c1 : 10 < s.size
    · rw [nameB_long c1]
      go_enter Tryz.func123, Tryz.ntmps123
      go_wp2
      go_ret
      exact ⟨rfl, rfl⟩
    · have c2 : 0 < s.size := by omega
      by_cases c3 : 97 ≤ (s[0].toNat : Int) ∧ (s[0].toNat : Int) ≤ 122
      · rw [nameB_rest c2 (by omega) c3]
        have c4 : smallB s[0].toNat = true := inB_true.2 c3
        clear c3
        go_enter Tryz.func123, Tryz.ntmps123
        go_wp2_with (go_at_call 153; refine (l01Small_any _ _).mono ?_; rintro e w' ⟨rfl, rfl⟩)
        clear c4
        go_loop [3] (fun i => ∃ k : Nat, k ≤ s.size ∧ i = .int .i64 k ∧ allNm (s.data.toList.take k) = true) (fun i => s.size - (intOf i).toNat)
        case atStart => exact ⟨0, Nat.zero_le _, rfl, rfl⟩
        case round =>
          obtain ⟨k, hk, rfl, h0⟩ := hrel
          have H0 := Lib.hid h0
          clear h0
          by_cases hlt : k < s.size
          · cases d1 : smallB s[k].toNat <;> cases d2 : digitB s[k].toNat
            all_goals
              go_wp2_with (first | (go_at_call 153; refine (l01Small_any _ _).mono ?_; rintro e w' ⟨rfl, rfl⟩) | (go_at_call 154; refine (l01Digit_any _ _).mono ?_; rintro e w' ⟨rfl, rfl⟩))
              first
                | (go_ret; exact ⟨ret_bool (allNm_bad hlt (by simp [okNm, *])).symm, rfl⟩)
                | (go_round
                   case rel => exact ⟨k + 1, by omega, by go_num, allNm_step hlt H0.out (by simp [okNm, *])⟩
                   case measure => simp [intOf]; omega)
          · go_wp2
            go_ret
            exact ⟨ret_bool (allNm_full (by omega) H0.out).symm, rfl⟩
      · rw [nameB_head c2 (by omega)]
        have c4 : smallB s[0].toNat = false := inB_false.2 (by omega)
        clear c3
        go_enter Tryz.func123, Tryz.ntmps123
        go_wp2_with (go_at_call 153; refine (l01Small_any _ _).mono ?_; rintro e w' ⟨rfl, rfl⟩)
        go_ret
        exact ⟨rfl, rfl⟩
end Go.Proofs.YtldigalncjhkeaaGreatDoor

namespace Go.Proofs.YtldigalncjhkeaaGreatDoor
open Go.RowKit
set_option linter.unusedVariables false

set_option maxRecDepth 100000 in
set_option maxHeartbeats 2000000 in
theorem l02DayV_any (n : Int) (w : World) : Calls Tryz.prog 155 #[.int .i64 n] w fun e w' => e = .returned (.bool (inB n 0 36524)) ∧ w = w' := by
  go_enter Tryz.func155, Tryz.ntmps155
  go_wp2_with (go_at_call 119; refine (l00InB_any _ _ _ _).mono ?_; rintro e w' ⟨rfl, rfl⟩)
  go_ret
  exact ⟨rfl, rfl⟩
set_option maxRecDepth 100000 in
set_option maxHeartbeats 2000000 in
theorem l17IsV_any (n : Int) (w : World) : Calls Tryz.prog 124 #[.int .i64 n] w fun e w' => e = .returned (.bool (inB n 1 5)) ∧ w = w' := by
  go_enter Tryz.func124, Tryz.ntmps124
  go_wp2_with (go_at_call 119; refine (l00InB_any _ _ _ _).mono ?_; rintro e w' ⟨rfl, rfl⟩)
  go_ret
  exact ⟨rfl, rfl⟩
set_option maxRecDepth 100000 in
set_option maxHeartbeats 2000000 in
theorem levelOkV_any (n : Int) (w : World) : Calls Tryz.prog 140 #[.int .i64 n] w fun e w' => e = .returned (.bool (inB n 1 5)) ∧ w = w' := by
  go_enter Tryz.func140, Tryz.ntmps140
  go_wp2_with (go_at_call 135; refine (withinB_any _ _ _ _).mono ?_; rintro e w' ⟨rfl, rfl⟩)
  go_ret
  exact ⟨rfl, rfl⟩
set_option maxRecDepth 100000 in
set_option maxHeartbeats 2000000 in
theorem dayValid_any (n : Int) (w : World) : Calls Tryz.prog 162 #[.int .i64 n] w fun e w' => e = .returned (.bool (inB n 0 36524)) ∧ w = w' := by
  go_enter Tryz.func162, Tryz.ntmps162
  go_wp2_with (go_at_call 135; refine (withinB_any _ _ _ _).mono ?_; rintro e w' ⟨rfl, rfl⟩)
  go_ret
  exact ⟨rfl, rfl⟩
end Go.Proofs.YtldigalncjhkeaaGreatDoor

namespace Go.Proofs.YtldigalncjhkeaaGreatDoor
open Go.RowKit
set_option linter.unusedVariables false

/-- A pointer to a Observed that lies somewhere. -/
structure PObserved (w : World) (pb po : Nat) (x : DObserved) : Prop where
  c0 : w.cell? ⟨pb, po, none⟩ = some (.int .i64 x.hour)
  c1 : w.cell? ⟨pb, po + 1, none⟩ = some (.int .i64 x.snow)
  c2 : w.cell? ⟨pb, po + 2, none⟩ = some (.int .i64 x.degrees)
  c3 : w.cell? ⟨pb, po + 3, none⟩ = some (.int .i64 x.wind)
theorem PObserved.below {w w' : World} {pb po : Nat} {x : DObserved} {B : Nat} (h : PObserved w pb po x) (hb : Below B w w') (hB : pb < B) : PObserved w' pb po x :=
  ⟨(hb.cell (p := ⟨pb, _, none⟩) hB).trans h.c0, (hb.cell (p := ⟨pb, _, none⟩) hB).trans h.c1, (hb.cell (p := ⟨pb, _, none⟩) hB).trans h.c2, (hb.cell (p := ⟨pb, _, none⟩) hB).trans h.c3⟩
theorem PObserved.drewN {w : World} {pb po : Nat} {x : DObserved} (h : PObserved w pb po x) (n : Nat) : PObserved (w.drewN n) pb po x :=
  ⟨h.c0, h.c1, h.c2, h.c3⟩
theorem PObserved.lt {w : World} {pb po : Nat} {x : DObserved} (h : PObserved w pb po x) : pb < w.heap.size := block_lt_of_cell h.c0
theorem PObserved.below' {w w' : World} {pb po : Nat} {x : DObserved} (h : PObserved w pb po x) (hb : Below w.heap.size w w') : PObserved w' pb po x := h.below hb h.lt
theorem PObserved.box (w : World) (x : DObserved) (T : TypeId) : PObserved (w.alloc (.cells #[.int .i64 x.hour, .int .i64 x.snow, .int .i64 x.degrees, .int .i64 x.wind] T)) w.heap.size 0 x := by
  constructor <;> simp
theorem PObserved.elem {w : World} {A : Option Addr} {len cap : Nat} {xs : List DObserved} {fp : List Nat} (h : Sl fObserved.cod w (.slice A len cap) xs fp) {k : Nat} (hk : k < xs.length) :
    ∃ b off, A = some ⟨b, off, none⟩ ∧ b ∈ fp ∧ fObserved.ok xs[k] ∧ PObserved w b (off + k * 4) xs[k] := by
  obtain ⟨b, off, hA, hm, hok, hc, _⟩ := h.at_ hk
  exact ⟨b, off, hA, hm, hok, ⟨hc 0 (by decide), hc 1 (by decide), hc 2 (by decide), hc 3 (by decide)⟩⟩
end Go.Proofs.YtldigalncjhkeaaGreatDoor

namespace Go.Proofs.YtldigalncjhkeaaGreatDoor
open Go.RowKit
set_option linter.unusedVariables false

/-- A pointer to a Test that lies somewhere. -/
structure PTest (w : World) (pb po : Nat) (x : DTest) : Prop where
  c0 : w.cell? ⟨pb, po, none⟩ = some (.int .i64 x.kind)
  c1 : w.cell? ⟨pb, po + 1, none⟩ = some (.int .i64 x.score)
  c2 : w.cell? ⟨pb, po + 2, none⟩ = some (.int .i64 x.quality)
  c3 : w.cell? ⟨pb, po + 3, none⟩ = some (.int .i64 x.depth)
  c4 : w.cell? ⟨pb, po + 4, none⟩ = some (.int .i64 x.hour)
theorem PTest.below {w w' : World} {pb po : Nat} {x : DTest} {B : Nat} (h : PTest w pb po x) (hb : Below B w w') (hB : pb < B) : PTest w' pb po x :=
  ⟨(hb.cell (p := ⟨pb, _, none⟩) hB).trans h.c0, (hb.cell (p := ⟨pb, _, none⟩) hB).trans h.c1, (hb.cell (p := ⟨pb, _, none⟩) hB).trans h.c2, (hb.cell (p := ⟨pb, _, none⟩) hB).trans h.c3, (hb.cell (p := ⟨pb, _, none⟩) hB).trans h.c4⟩
theorem PTest.drewN {w : World} {pb po : Nat} {x : DTest} (h : PTest w pb po x) (n : Nat) : PTest (w.drewN n) pb po x :=
  ⟨h.c0, h.c1, h.c2, h.c3, h.c4⟩
theorem PTest.lt {w : World} {pb po : Nat} {x : DTest} (h : PTest w pb po x) : pb < w.heap.size := block_lt_of_cell h.c0
theorem PTest.below' {w w' : World} {pb po : Nat} {x : DTest} (h : PTest w pb po x) (hb : Below w.heap.size w w') : PTest w' pb po x := h.below hb h.lt
theorem PTest.box (w : World) (x : DTest) (T : TypeId) : PTest (w.alloc (.cells #[.int .i64 x.kind, .int .i64 x.score, .int .i64 x.quality, .int .i64 x.depth, .int .i64 x.hour] T)) w.heap.size 0 x := by
  constructor <;> simp
theorem PTest.elem {w : World} {A : Option Addr} {len cap : Nat} {xs : List DTest} {fp : List Nat} (h : Sl fTest.cod w (.slice A len cap) xs fp) {k : Nat} (hk : k < xs.length) :
    ∃ b off, A = some ⟨b, off, none⟩ ∧ b ∈ fp ∧ fTest.ok xs[k] ∧ PTest w b (off + k * 5) xs[k] := by
  obtain ⟨b, off, hA, hm, hok, hc, _⟩ := h.at_ hk
  exact ⟨b, off, hA, hm, hok, ⟨hc 0 (by decide), hc 1 (by decide), hc 2 (by decide), hc 3 (by decide), hc 4 (by decide)⟩⟩
end Go.Proofs.YtldigalncjhkeaaGreatDoor

namespace Go.Proofs.YtldigalncjhkeaaGreatDoor
open Go.RowKit
set_option linter.unusedVariables false

/-- A pointer to a Stand that lies somewhere. -/
structure PStand (w : World) (pb po : Nat) (x : DStand) : Prop where
  c0 : w.cell? ⟨pb, po, none⟩ = some (.string x.id)
  c1 : w.cell? ⟨pb, po + 1, none⟩ = some (.int .i64 x.trees)
  c2 : w.cell? ⟨pb, po + 2, none⟩ = some (.int .i64 x.height)
  c3 : w.cell? ⟨pb, po + 3, none⟩ = some (.int .i64 x.cover)
  c4 : w.cell? ⟨pb, po + 4, none⟩ = some (.int .i64 x.gap)
theorem PStand.below {w w' : World} {pb po : Nat} {x : DStand} {B : Nat} (h : PStand w pb po x) (hb : Below B w w') (hB : pb < B) : PStand w' pb po x :=
  ⟨(hb.cell (p := ⟨pb, _, none⟩) hB).trans h.c0, (hb.cell (p := ⟨pb, _, none⟩) hB).trans h.c1, (hb.cell (p := ⟨pb, _, none⟩) hB).trans h.c2, (hb.cell (p := ⟨pb, _, none⟩) hB).trans h.c3, (hb.cell (p := ⟨pb, _, none⟩) hB).trans h.c4⟩
theorem PStand.drewN {w : World} {pb po : Nat} {x : DStand} (h : PStand w pb po x) (n : Nat) : PStand (w.drewN n) pb po x :=
  ⟨h.c0, h.c1, h.c2, h.c3, h.c4⟩
theorem PStand.lt {w : World} {pb po : Nat} {x : DStand} (h : PStand w pb po x) : pb < w.heap.size := block_lt_of_cell h.c0
theorem PStand.below' {w w' : World} {pb po : Nat} {x : DStand} (h : PStand w pb po x) (hb : Below w.heap.size w w') : PStand w' pb po x := h.below hb h.lt
theorem PStand.box (w : World) (x : DStand) (T : TypeId) : PStand (w.alloc (.cells #[.string x.id, .int .i64 x.trees, .int .i64 x.height, .int .i64 x.cover, .int .i64 x.gap] T)) w.heap.size 0 x := by
  constructor <;> simp
theorem PStand.elem {w : World} {A : Option Addr} {len cap : Nat} {xs : List DStand} {fp : List Nat} (h : Sl fStand.cod w (.slice A len cap) xs fp) {k : Nat} (hk : k < xs.length) :
    ∃ b off, A = some ⟨b, off, none⟩ ∧ b ∈ fp ∧ fStand.ok xs[k] ∧ PStand w b (off + k * 5) xs[k] := by
  obtain ⟨b, off, hA, hm, hok, hc, _⟩ := h.at_ hk
  exact ⟨b, off, hA, hm, hok, ⟨hc 0 (by decide), hc 1 (by decide), hc 2 (by decide), hc 3 (by decide), hc 4 (by decide)⟩⟩
end Go.Proofs.YtldigalncjhkeaaGreatDoor

namespace Go.Proofs.YtldigalncjhkeaaGreatDoor
open Go.RowKit
set_option linter.unusedVariables false

/-- A pointer to a Verified that lies somewhere. -/
structure PVerified (w : World) (pb po : Nat) (x : DVerified) : Prop where
  c0 : w.cell? ⟨pb, po, none⟩ = some (.int .i64 x.day)
  c1 : w.cell? ⟨pb, po + 1, none⟩ = some (.int .i64 x.told)
  c2 : w.cell? ⟨pb, po + 2, none⟩ = some (.int .i64 x.seen)
theorem PVerified.below {w w' : World} {pb po : Nat} {x : DVerified} {B : Nat} (h : PVerified w pb po x) (hb : Below B w w') (hB : pb < B) : PVerified w' pb po x :=
  ⟨(hb.cell (p := ⟨pb, _, none⟩) hB).trans h.c0, (hb.cell (p := ⟨pb, _, none⟩) hB).trans h.c1, (hb.cell (p := ⟨pb, _, none⟩) hB).trans h.c2⟩
theorem PVerified.drewN {w : World} {pb po : Nat} {x : DVerified} (h : PVerified w pb po x) (n : Nat) : PVerified (w.drewN n) pb po x :=
  ⟨h.c0, h.c1, h.c2⟩
theorem PVerified.lt {w : World} {pb po : Nat} {x : DVerified} (h : PVerified w pb po x) : pb < w.heap.size := block_lt_of_cell h.c0
theorem PVerified.below' {w w' : World} {pb po : Nat} {x : DVerified} (h : PVerified w pb po x) (hb : Below w.heap.size w w') : PVerified w' pb po x := h.below hb h.lt
theorem PVerified.box (w : World) (x : DVerified) (T : TypeId) : PVerified (w.alloc (.cells #[.int .i64 x.day, .int .i64 x.told, .int .i64 x.seen] T)) w.heap.size 0 x := by
  constructor <;> simp
theorem PVerified.elem {w : World} {A : Option Addr} {len cap : Nat} {xs : List DVerified} {fp : List Nat} (h : Sl fVerified.cod w (.slice A len cap) xs fp) {k : Nat} (hk : k < xs.length) :
    ∃ b off, A = some ⟨b, off, none⟩ ∧ b ∈ fp ∧ fVerified.ok xs[k] ∧ PVerified w b (off + k * 3) xs[k] := by
  obtain ⟨b, off, hA, hm, hok, hc, _⟩ := h.at_ hk
  exact ⟨b, off, hA, hm, hok, ⟨hc 0 (by decide), hc 1 (by decide), hc 2 (by decide)⟩⟩
end Go.Proofs.YtldigalncjhkeaaGreatDoor

namespace Go.Proofs.YtldigalncjhkeaaGreatDoor
open Go.RowKit
set_option linter.unusedVariables false

/-- A pointer to a Shot that lies somewhere. -/
structure PShot (w : World) (pb po : Nat) (x : DShot) : Prop where
  c0 : w.cell? ⟨pb, po, none⟩ = some (.string x.id)
  c1 : w.cell? ⟨pb, po + 1, none⟩ = some (.int .i64 x.from_)
  c2 : w.cell? ⟨pb, po + 2, none⟩ = some (.int .i64 x.until_)
  c3 : w.cell? ⟨pb, po + 3, none⟩ = some (.int .i64 x.minutes)
  c4 : w.cell? ⟨pb, po + 4, none⟩ = some (.int .i64 x.gain)
theorem PShot.below {w w' : World} {pb po : Nat} {x : DShot} {B : Nat} (h : PShot w pb po x) (hb : Below B w w') (hB : pb < B) : PShot w' pb po x :=
  ⟨(hb.cell (p := ⟨pb, _, none⟩) hB).trans h.c0, (hb.cell (p := ⟨pb, _, none⟩) hB).trans h.c1, (hb.cell (p := ⟨pb, _, none⟩) hB).trans h.c2, (hb.cell (p := ⟨pb, _, none⟩) hB).trans h.c3, (hb.cell (p := ⟨pb, _, none⟩) hB).trans h.c4⟩
theorem PShot.drewN {w : World} {pb po : Nat} {x : DShot} (h : PShot w pb po x) (n : Nat) : PShot (w.drewN n) pb po x :=
  ⟨h.c0, h.c1, h.c2, h.c3, h.c4⟩
theorem PShot.lt {w : World} {pb po : Nat} {x : DShot} (h : PShot w pb po x) : pb < w.heap.size := block_lt_of_cell h.c0
theorem PShot.below' {w w' : World} {pb po : Nat} {x : DShot} (h : PShot w pb po x) (hb : Below w.heap.size w w') : PShot w' pb po x := h.below hb h.lt
theorem PShot.box (w : World) (x : DShot) (T : TypeId) : PShot (w.alloc (.cells #[.string x.id, .int .i64 x.from_, .int .i64 x.until_, .int .i64 x.minutes, .int .i64 x.gain] T)) w.heap.size 0 x := by
  constructor <;> simp
theorem PShot.elem {w : World} {A : Option Addr} {len cap : Nat} {xs : List DShot} {fp : List Nat} (h : Sl fShot.cod w (.slice A len cap) xs fp) {k : Nat} (hk : k < xs.length) :
    ∃ b off, A = some ⟨b, off, none⟩ ∧ b ∈ fp ∧ fShot.ok xs[k] ∧ PShot w b (off + k * 5) xs[k] := by
  obtain ⟨b, off, hA, hm, hok, hc, _⟩ := h.at_ hk
  exact ⟨b, off, hA, hm, hok, ⟨hc 0 (by decide), hc 1 (by decide), hc 2 (by decide), hc 3 (by decide), hc 4 (by decide)⟩⟩
end Go.Proofs.YtldigalncjhkeaaGreatDoor

namespace Go.Proofs.YtldigalncjhkeaaGreatDoor
open Go.RowKit
set_option linter.unusedVariables false

/-- A pointer to a Watch that lies somewhere. -/
structure PWatch (w : World) (pb po : Nat) (x : DWatch) : Prop where
  c0 : w.cell? ⟨pb, po, none⟩ = some (.string x.person)
  c1 : w.cell? ⟨pb, po + 1, none⟩ = some (.int .i64 x.start)
  c2 : w.cell? ⟨pb, po + 2, none⟩ = some (.int .i64 x.hours)
  c3 : w.cell? ⟨pb, po + 3, none⟩ = some (.bool x.onCall)
theorem PWatch.below {w w' : World} {pb po : Nat} {x : DWatch} {B : Nat} (h : PWatch w pb po x) (hb : Below B w w') (hB : pb < B) : PWatch w' pb po x :=
  ⟨(hb.cell (p := ⟨pb, _, none⟩) hB).trans h.c0, (hb.cell (p := ⟨pb, _, none⟩) hB).trans h.c1, (hb.cell (p := ⟨pb, _, none⟩) hB).trans h.c2, (hb.cell (p := ⟨pb, _, none⟩) hB).trans h.c3⟩
theorem PWatch.drewN {w : World} {pb po : Nat} {x : DWatch} (h : PWatch w pb po x) (n : Nat) : PWatch (w.drewN n) pb po x :=
  ⟨h.c0, h.c1, h.c2, h.c3⟩
theorem PWatch.lt {w : World} {pb po : Nat} {x : DWatch} (h : PWatch w pb po x) : pb < w.heap.size := block_lt_of_cell h.c0
theorem PWatch.below' {w w' : World} {pb po : Nat} {x : DWatch} (h : PWatch w pb po x) (hb : Below w.heap.size w w') : PWatch w' pb po x := h.below hb h.lt
theorem PWatch.box (w : World) (x : DWatch) (T : TypeId) : PWatch (w.alloc (.cells #[.string x.person, .int .i64 x.start, .int .i64 x.hours, .bool x.onCall] T)) w.heap.size 0 x := by
  constructor <;> simp
theorem PWatch.elem {w : World} {A : Option Addr} {len cap : Nat} {xs : List DWatch} {fp : List Nat} (h : Sl fWatch.cod w (.slice A len cap) xs fp) {k : Nat} (hk : k < xs.length) :
    ∃ b off, A = some ⟨b, off, none⟩ ∧ b ∈ fp ∧ fWatch.ok xs[k] ∧ PWatch w b (off + k * 4) xs[k] := by
  obtain ⟨b, off, hA, hm, hok, hc, _⟩ := h.at_ hk
  exact ⟨b, off, hA, hm, hok, ⟨hc 0 (by decide), hc 1 (by decide), hc 2 (by decide), hc 3 (by decide)⟩⟩
end Go.Proofs.YtldigalncjhkeaaGreatDoor

namespace Go.Proofs.YtldigalncjhkeaaGreatDoor
open Go.RowKit
set_option linter.unusedVariables false

set_option maxRecDepth 100000 in
set_option maxHeartbeats 2000000 in
theorem l04HourV_any (n : Int) (w : World) : Calls Tryz.prog 151 #[.int .i64 n] w fun e w' => e = .returned (.bool (inB n 0 100000)) ∧ w = w' := by
  go_enter Tryz.func151, Tryz.ntmps151
  go_wp2_with (go_at_call 119; refine (l00InB_any _ _ _ _).mono ?_; rintro e w' ⟨rfl, rfl⟩)
  go_ret
  exact ⟨rfl, rfl⟩
set_option maxRecDepth 100000 in
set_option maxHeartbeats 2000000 in
theorem hourOkV_any (n : Int) (w : World) : Calls Tryz.prog 156 #[.int .i64 n] w fun e w' => e = .returned (.bool (inB n 0 100000)) ∧ w = w' := by
  go_enter Tryz.func156, Tryz.ntmps156
  go_wp2_with (go_at_call 135; refine (withinB_any _ _ _ _).mono ?_; rintro e w' ⟨rfl, rfl⟩)
  go_ret
  exact ⟨rfl, rfl⟩

def obsB (x : DObserved) : Bool := inB x.hour 0 100000 && inB x.snow 0 2000 && inB x.degrees (-5000) 5000 && inB x.wind 0 10000
theorem obsB_eq (x : DObserved) : obsB x = (inB x.hour 0 100000 && (inB x.snow 0 2000 && (inB x.degrees (-5000) 5000 && (inB x.wind 0 10000)))) := by
  unfold obsB; simp only [Bool.and_assoc]
set_option maxRecDepth 100000 in
set_option maxHeartbeats 4000000 in
theorem l04One_any (pb po : Nat) (x : DObserved) (w : World) (hp : PObserved w pb po x) (hok : fObserved.ok x) :
    Calls Tryz.prog 118 #[.pointer (some ⟨pb, po, none⟩)] w fun e w' => e = .returned (.bool (obsB x)) ∧ Below w.heap.size w w' := by
  obtain ⟨c0, c1, c2, c3⟩ := id hp
  clear hok hp
  have HV := Lib.hid (obsB_eq x)
  go_enter Tryz.func118, Tryz.ntmps118
  go_wp2_with fail
  refine (l04HourV_any _ _).mono ?_
  rintro e w' ⟨rfl, rfl⟩
  cases hq0 : inB x.hour 0 100000
  · have HX : Hid (obsB x = false) := by show _ = _; rw [HV.out, hq0]; rfl
    go_wp2
    go_ret
    exact ⟨ret_bool HX.out.symm, Below.refl _ _⟩
  · have HX : Hid (obsB x = (inB x.snow 0 2000 && (inB x.degrees (-5000) 5000 && (inB x.wind 0 10000)))) := by show _ = _; rw [HV.out, hq0]; rfl
    go_wp2_with fail
    refine (l00InB_any _ _ _ _).mono ?_
    rintro e w' ⟨rfl, rfl⟩
    cases hq1 : inB x.snow 0 2000
    · have HX : Hid (obsB x = false) := by show _ = _; rw [HV.out, hq0, hq1]; rfl
      go_wp2
      go_ret
      exact ⟨ret_bool HX.out.symm, Below.refl _ _⟩
    · have HX : Hid (obsB x = (inB x.degrees (-5000) 5000 && (inB x.wind 0 10000))) := by show _ = _; rw [HV.out, hq0, hq1]; rfl
      go_wp2_with fail
      refine (l00InB_any _ _ _ _).mono ?_
      rintro e w' ⟨rfl, rfl⟩
      cases hq2 : inB x.degrees (-5000) 5000
      · have HX : Hid (obsB x = false) := by show _ = _; rw [HV.out, hq0, hq1, hq2]; rfl
        go_wp2
        go_ret
        exact ⟨ret_bool HX.out.symm, Below.refl _ _⟩
      · have HX : Hid (obsB x = (inB x.wind 0 10000)) := by show _ = _; rw [HV.out, hq0, hq1, hq2]; rfl
        go_wp2_with fail
        refine (l00InB_any _ _ _ _).mono ?_
        rintro e w' ⟨rfl, rfl⟩
        rw [← HX.out]
        go_wp2
        go_ret
        exact ⟨rfl, Below.refl _ _⟩
set_option maxRecDepth 100000 in
set_option maxHeartbeats 4000000 in
theorem validObserved_any (x : DObserved) (w : World) (hok : fObserved.ok x) :
    Calls Tryz.prog 134 #[.agg #[.int .i64 x.hour, .int .i64 x.snow, .int .i64 x.degrees, .int .i64 x.wind]] w fun e w' => e = .returned (.bool (obsB x)) ∧ Below w.heap.size w w' := by
  clear hok
  have HV := Lib.hid (obsB_eq x)
  go_enter Tryz.func134, Tryz.ntmps134
  go_wp2_with fail
  refine (hourOkV_any _ _).mono ?_
  rintro e w' ⟨rfl, rfl⟩
  cases hq0 : inB x.hour 0 100000
  · have HX : Hid (obsB x = false) := by show _ = _; rw [HV.out, hq0]; rfl
    go_wp2
    go_ret
    exact ⟨ret_bool HX.out.symm, (Below.refl _ _).alloc (Nat.le_refl _) _⟩
  · have HX : Hid (obsB x = (inB x.snow 0 2000 && (inB x.degrees (-5000) 5000 && (inB x.wind 0 10000)))) := by show _ = _; rw [HV.out, hq0]; rfl
    go_wp2_with fail
    refine (withinB_any _ _ _ _).mono ?_
    rintro e w' ⟨rfl, rfl⟩
    cases hq1 : inB x.snow 0 2000
    · have HX : Hid (obsB x = false) := by show _ = _; rw [HV.out, hq0, hq1]; rfl
      go_wp2
      go_ret
      exact ⟨ret_bool HX.out.symm, (Below.refl _ _).alloc (Nat.le_refl _) _⟩
    · have HX : Hid (obsB x = (inB x.degrees (-5000) 5000 && (inB x.wind 0 10000))) := by show _ = _; rw [HV.out, hq0, hq1]; rfl
      go_wp2_with fail
      refine (withinB_any _ _ _ _).mono ?_
      rintro e w' ⟨rfl, rfl⟩
      cases hq2 : inB x.degrees (-5000) 5000
      · have HX : Hid (obsB x = false) := by show _ = _; rw [HV.out, hq0, hq1, hq2]; rfl
        go_wp2
        go_ret
        exact ⟨ret_bool HX.out.symm, (Below.refl _ _).alloc (Nat.le_refl _) _⟩
      · have HX : Hid (obsB x = (inB x.wind 0 10000)) := by show _ = _; rw [HV.out, hq0, hq1, hq2]; rfl
        go_wp2_with fail
        refine (withinB_any _ _ _ _).mono ?_
        rintro e w' ⟨rfl, rfl⟩
        rw [← HX.out]
        go_wp2
        go_ret
        exact ⟨rfl, (Below.refl _ _).alloc (Nat.le_refl _) _⟩

def standB (x : DStand) : Bool := nameB x.id && inB x.trees 0 2000 && inB x.height 0 5000 && inB x.cover 0 1000 && inB x.gap 0 100
theorem standB_eq (x : DStand) : standB x = (nameB x.id && (inB x.trees 0 2000 && (inB x.height 0 5000 && (inB x.cover 0 1000 && (inB x.gap 0 100))))) := by
  unfold standB; simp only [Bool.and_assoc]
set_option maxRecDepth 100000 in
set_option maxHeartbeats 4000000 in
theorem l10One_any (pb po : Nat) (x : DStand) (w : World) (hp : PStand w pb po x) (hok : fStand.ok x) :
    Calls Tryz.prog 122 #[.pointer (some ⟨pb, po, none⟩)] w fun e w' => e = .returned (.bool (standB x)) ∧ Below w.heap.size w w' := by
  obtain ⟨c0, c1, c2, c3, c4⟩ := id hp
  have k1 : x.id.size ≤ 9223372036854775807 := by have := hok; first | exact this.1 | exact this
  clear hok hp
  have HV := Lib.hid (standB_eq x)
  go_enter Tryz.func122, Tryz.ntmps122
  go_wp2_with fail
  refine (l01Name_any _ _ k1).mono ?_
  rintro e w' ⟨rfl, rfl⟩
  cases hq0 : nameB x.id
  · have HX : Hid (standB x = false) := by show _ = _; rw [HV.out, hq0]; rfl
    go_wp2
    go_ret
    exact ⟨ret_bool HX.out.symm, Below.refl _ _⟩
  · have HX : Hid (standB x = (inB x.trees 0 2000 && (inB x.height 0 5000 && (inB x.cover 0 1000 && (inB x.gap 0 100))))) := by show _ = _; rw [HV.out, hq0]; rfl
    go_wp2_with fail
    refine (l00InB_any _ _ _ _).mono ?_
    rintro e w' ⟨rfl, rfl⟩
    cases hq1 : inB x.trees 0 2000
    · have HX : Hid (standB x = false) := by show _ = _; rw [HV.out, hq0, hq1]; rfl
      go_wp2
      go_ret
      exact ⟨ret_bool HX.out.symm, Below.refl _ _⟩
    · have HX : Hid (standB x = (inB x.height 0 5000 && (inB x.cover 0 1000 && (inB x.gap 0 100)))) := by show _ = _; rw [HV.out, hq0, hq1]; rfl
      go_wp2_with fail
      refine (l00InB_any _ _ _ _).mono ?_
      rintro e w' ⟨rfl, rfl⟩
      cases hq2 : inB x.height 0 5000
      · have HX : Hid (standB x = false) := by show _ = _; rw [HV.out, hq0, hq1, hq2]; rfl
        go_wp2
        go_ret
        exact ⟨ret_bool HX.out.symm, Below.refl _ _⟩
      · have HX : Hid (standB x = (inB x.cover 0 1000 && (inB x.gap 0 100))) := by show _ = _; rw [HV.out, hq0, hq1, hq2]; rfl
        go_wp2_with fail
        refine (l00InB_any _ _ _ _).mono ?_
        rintro e w' ⟨rfl, rfl⟩
        cases hq3 : inB x.cover 0 1000
        · have HX : Hid (standB x = false) := by show _ = _; rw [HV.out, hq0, hq1, hq2, hq3]; rfl
          go_wp2
          go_ret
          exact ⟨ret_bool HX.out.symm, Below.refl _ _⟩
        · have HX : Hid (standB x = (inB x.gap 0 100)) := by show _ = _; rw [HV.out, hq0, hq1, hq2, hq3]; rfl
          go_wp2_with fail
          refine (l00InB_any _ _ _ _).mono ?_
          rintro e w' ⟨rfl, rfl⟩
          rw [← HX.out]
          go_wp2
          go_ret
          exact ⟨rfl, Below.refl _ _⟩
set_option maxRecDepth 100000 in
set_option maxHeartbeats 4000000 in
theorem validStand_any (x : DStand) (w : World) (hok : fStand.ok x) :
    Calls Tryz.prog 138 #[.agg #[.string x.id, .int .i64 x.trees, .int .i64 x.height, .int .i64 x.cover, .int .i64 x.gap]] w fun e w' => e = .returned (.bool (standB x)) ∧ Below w.heap.size w w' := by
  have k1 : x.id.size ≤ 9223372036854775807 := by have := hok; first | exact this.1 | exact this
  clear hok
  have HV := Lib.hid (standB_eq x)
  go_enter Tryz.func138, Tryz.ntmps138
  go_wp2_with fail
  refine (implIsName_any _ _ k1).mono ?_
  rintro e w' ⟨rfl, rfl⟩
  cases hq0 : nameB x.id
  · have HX : Hid (standB x = false) := by show _ = _; rw [HV.out, hq0]; rfl
    go_wp2
    go_ret
    exact ⟨ret_bool HX.out.symm, (Below.refl _ _).alloc (Nat.le_refl _) _⟩
  · have HX : Hid (standB x = (inB x.trees 0 2000 && (inB x.height 0 5000 && (inB x.cover 0 1000 && (inB x.gap 0 100))))) := by show _ = _; rw [HV.out, hq0]; rfl
    go_wp2_with fail
    refine (withinB_any _ _ _ _).mono ?_
    rintro e w' ⟨rfl, rfl⟩
    cases hq1 : inB x.trees 0 2000
    · have HX : Hid (standB x = false) := by show _ = _; rw [HV.out, hq0, hq1]; rfl
      go_wp2
      go_ret
      exact ⟨ret_bool HX.out.symm, (Below.refl _ _).alloc (Nat.le_refl _) _⟩
    · have HX : Hid (standB x = (inB x.height 0 5000 && (inB x.cover 0 1000 && (inB x.gap 0 100)))) := by show _ = _; rw [HV.out, hq0, hq1]; rfl
      go_wp2_with fail
      refine (withinB_any _ _ _ _).mono ?_
      rintro e w' ⟨rfl, rfl⟩
      cases hq2 : inB x.height 0 5000
      · have HX : Hid (standB x = false) := by show _ = _; rw [HV.out, hq0, hq1, hq2]; rfl
        go_wp2
        go_ret
        exact ⟨ret_bool HX.out.symm, (Below.refl _ _).alloc (Nat.le_refl _) _⟩
      · have HX : Hid (standB x = (inB x.cover 0 1000 && (inB x.gap 0 100))) := by show _ = _; rw [HV.out, hq0, hq1, hq2]; rfl
        go_wp2_with fail
        refine (withinB_any _ _ _ _).mono ?_
        rintro e w' ⟨rfl, rfl⟩
        cases hq3 : inB x.cover 0 1000
        · have HX : Hid (standB x = false) := by show _ = _; rw [HV.out, hq0, hq1, hq2, hq3]; rfl
          go_wp2
          go_ret
          exact ⟨ret_bool HX.out.symm, (Below.refl _ _).alloc (Nat.le_refl _) _⟩
        · have HX : Hid (standB x = (inB x.gap 0 100)) := by show _ = _; rw [HV.out, hq0, hq1, hq2, hq3]; rfl
          go_wp2_with fail
          refine (withinB_any _ _ _ _).mono ?_
          rintro e w' ⟨rfl, rfl⟩
          rw [← HX.out]
          go_wp2
          go_ret
          exact ⟨rfl, (Below.refl _ _).alloc (Nat.le_refl _) _⟩

def verB (x : DVerified) : Bool := inB x.day 0 36524 && inB x.told 1 5 && inB x.seen 1 5
theorem verB_eq (x : DVerified) : verB x = (inB x.day 0 36524 && (inB x.told 1 5 && (inB x.seen 1 5))) := by
  unfold verB; simp only [Bool.and_assoc]
set_option maxRecDepth 100000 in
set_option maxHeartbeats 4000000 in
theorem l20One_any (pb po : Nat) (x : DVerified) (w : World) (hp : PVerified w pb po x) (hok : fVerified.ok x) :
    Calls Tryz.prog 127 #[.pointer (some ⟨pb, po, none⟩)] w fun e w' => e = .returned (.bool (verB x)) ∧ Below w.heap.size w w' := by
  obtain ⟨c0, c1, c2⟩ := id hp
  clear hok hp
  have HV := Lib.hid (verB_eq x)
  go_enter Tryz.func127, Tryz.ntmps127
  go_wp2_with fail
  refine (l02DayV_any _ _).mono ?_
  rintro e w' ⟨rfl, rfl⟩
  cases hq0 : inB x.day 0 36524
  · have HX : Hid (verB x = false) := by show _ = _; rw [HV.out, hq0]; rfl
    go_wp2
    go_ret
    exact ⟨ret_bool HX.out.symm, Below.refl _ _⟩
  · have HX : Hid (verB x = (inB x.told 1 5 && (inB x.seen 1 5))) := by show _ = _; rw [HV.out, hq0]; rfl
    go_wp2_with fail
    refine (l17IsV_any _ _).mono ?_
    rintro e w' ⟨rfl, rfl⟩
    cases hq1 : inB x.told 1 5
    · have HX : Hid (verB x = false) := by show _ = _; rw [HV.out, hq0, hq1]; rfl
      go_wp2
      go_ret
      exact ⟨ret_bool HX.out.symm, Below.refl _ _⟩
    · have HX : Hid (verB x = (inB x.seen 1 5)) := by show _ = _; rw [HV.out, hq0, hq1]; rfl
      go_wp2_with fail
      refine (l17IsV_any _ _).mono ?_
      rintro e w' ⟨rfl, rfl⟩
      rw [← HX.out]
      go_wp2
      go_ret
      exact ⟨rfl, Below.refl _ _⟩
set_option maxRecDepth 100000 in
set_option maxHeartbeats 4000000 in
theorem validVerified_any (x : DVerified) (w : World) (hok : fVerified.ok x) :
    Calls Tryz.prog 142 #[.agg #[.int .i64 x.day, .int .i64 x.told, .int .i64 x.seen]] w fun e w' => e = .returned (.bool (verB x)) ∧ Below w.heap.size w w' := by
  clear hok
  have HV := Lib.hid (verB_eq x)
  go_enter Tryz.func142, Tryz.ntmps142
  go_wp2_with fail
  refine (dayValid_any _ _).mono ?_
  rintro e w' ⟨rfl, rfl⟩
  cases hq0 : inB x.day 0 36524
  · have HX : Hid (verB x = false) := by show _ = _; rw [HV.out, hq0]; rfl
    go_wp2
    go_ret
    exact ⟨ret_bool HX.out.symm, (Below.refl _ _).alloc (Nat.le_refl _) _⟩
  · have HX : Hid (verB x = (inB x.told 1 5 && (inB x.seen 1 5))) := by show _ = _; rw [HV.out, hq0]; rfl
    go_wp2_with fail
    refine (levelOkV_any _ _).mono ?_
    rintro e w' ⟨rfl, rfl⟩
    cases hq1 : inB x.told 1 5
    · have HX : Hid (verB x = false) := by show _ = _; rw [HV.out, hq0, hq1]; rfl
      go_wp2
      go_ret
      exact ⟨ret_bool HX.out.symm, (Below.refl _ _).alloc (Nat.le_refl _) _⟩
    · have HX : Hid (verB x = (inB x.seen 1 5)) := by show _ = _; rw [HV.out, hq0, hq1]; rfl
      go_wp2_with fail
      refine (levelOkV_any _ _).mono ?_
      rintro e w' ⟨rfl, rfl⟩
      rw [← HX.out]
      go_wp2
      go_ret
      exact ⟨rfl, (Below.refl _ _).alloc (Nat.le_refl _) _⟩

def watchB (x : DWatch) : Bool := nameB x.person && inB x.start 0 10000 && inB x.hours 1 48
theorem watchB_eq (x : DWatch) : watchB x = (nameB x.person && (inB x.start 0 10000 && (inB x.hours 1 48))) := by
  unfold watchB; simp only [Bool.and_assoc]
set_option maxRecDepth 100000 in
set_option maxHeartbeats 4000000 in
theorem l26One_any (pb po : Nat) (x : DWatch) (w : World) (hp : PWatch w pb po x) (hok : fWatch.ok x) :
    Calls Tryz.prog 130 #[.pointer (some ⟨pb, po, none⟩)] w fun e w' => e = .returned (.bool (watchB x)) ∧ Below w.heap.size w w' := by
  obtain ⟨c0, c1, c2, c3⟩ := id hp
  have k1 : x.person.size ≤ 9223372036854775807 := by have := hok; first | exact this.1 | exact this
  clear hok hp
  have HV := Lib.hid (watchB_eq x)
  go_enter Tryz.func130, Tryz.ntmps130
  go_wp2_with fail
  refine (l01Name_any _ _ k1).mono ?_
  rintro e w' ⟨rfl, rfl⟩
  cases hq0 : nameB x.person
  · have HX : Hid (watchB x = false) := by show _ = _; rw [HV.out, hq0]; rfl
    go_wp2
    go_ret
    exact ⟨ret_bool HX.out.symm, Below.refl _ _⟩
  · have HX : Hid (watchB x = (inB x.start 0 10000 && (inB x.hours 1 48))) := by show _ = _; rw [HV.out, hq0]; rfl
    go_wp2_with fail
    refine (l00InB_any _ _ _ _).mono ?_
    rintro e w' ⟨rfl, rfl⟩
    cases hq1 : inB x.start 0 10000
    · have HX : Hid (watchB x = false) := by show _ = _; rw [HV.out, hq0, hq1]; rfl
      go_wp2
      go_ret
      exact ⟨ret_bool HX.out.symm, Below.refl _ _⟩
    · have HX : Hid (watchB x = (inB x.hours 1 48)) := by show _ = _; rw [HV.out, hq0, hq1]; rfl
      go_wp2_with fail
      refine (l00InB_any _ _ _ _).mono ?_
      rintro e w' ⟨rfl, rfl⟩
      rw [← HX.out]
      go_wp2
      go_ret
      exact ⟨rfl, Below.refl _ _⟩
set_option maxRecDepth 100000 in
set_option maxHeartbeats 4000000 in
theorem validWatch_any (x : DWatch) (w : World) (hok : fWatch.ok x) :
    Calls Tryz.prog 145 #[.agg #[.string x.person, .int .i64 x.start, .int .i64 x.hours, .bool x.onCall]] w fun e w' => e = .returned (.bool (watchB x)) ∧ Below w.heap.size w w' := by
  have k1 : x.person.size ≤ 9223372036854775807 := by have := hok; first | exact this.1 | exact this
  clear hok
  have HV := Lib.hid (watchB_eq x)
  go_enter Tryz.func145, Tryz.ntmps145
  go_wp2_with fail
  refine (implIsName_any _ _ k1).mono ?_
  rintro e w' ⟨rfl, rfl⟩
  cases hq0 : nameB x.person
  · have HX : Hid (watchB x = false) := by show _ = _; rw [HV.out, hq0]; rfl
    go_wp2
    go_ret
    exact ⟨ret_bool HX.out.symm, (Below.refl _ _).alloc (Nat.le_refl _) _⟩
  · have HX : Hid (watchB x = (inB x.start 0 10000 && (inB x.hours 1 48))) := by show _ = _; rw [HV.out, hq0]; rfl
    go_wp2_with fail
    refine (withinB_any _ _ _ _).mono ?_
    rintro e w' ⟨rfl, rfl⟩
    cases hq1 : inB x.start 0 10000
    · have HX : Hid (watchB x = false) := by show _ = _; rw [HV.out, hq0, hq1]; rfl
      go_wp2
      go_ret
      exact ⟨ret_bool HX.out.symm, (Below.refl _ _).alloc (Nat.le_refl _) _⟩
    · have HX : Hid (watchB x = (inB x.hours 1 48)) := by show _ = _; rw [HV.out, hq0, hq1]; rfl
      go_wp2_with fail
      refine (withinB_any _ _ _ _).mono ?_
      rintro e w' ⟨rfl, rfl⟩
      rw [← HX.out]
      go_wp2
      go_ret
      exact ⟨rfl, (Below.refl _ _).alloc (Nat.le_refl _) _⟩

def testB (x : DTest) : Bool := inB x.quality 1 3 && (inB x.depth 1 300 && (inB x.hour 0 100000 && (if x.kind = 3 then inB x.score 1 7 else (decide (x.kind = 1) || decide (x.kind = 2)) && inB x.score 0 31)))
set_option maxRecDepth 100000 in
set_option maxHeartbeats 4000000 in
theorem l08One_any (pb po : Nat) (x : DTest) (w : World) (hp : PTest w pb po x) (hok : fTest.ok x) :
    Calls Tryz.prog 121 #[.pointer (some ⟨pb, po, none⟩)] w fun e w' => e = .returned (.bool (testB x)) ∧ Below w.heap.size w w' := by
  obtain ⟨c0, c1, c2, c3, c4⟩ := id hp
  clear hok hp
  go_enter Tryz.func121, Tryz.ntmps121
  go_wp2_with fail
  refine (l00InB_any _ _ _ _).mono ?_
  rintro e w' ⟨rfl, rfl⟩
  rcases Bool.eq_false_or_eq_true (inB x.quality 1 3) with h0 | h0
  rotate_left
  · have HX : Hid (testB x = false) := by show _ = _; unfold testB; simp [*]
    rw [h0]
    go_wp2
    go_ret
    exact ⟨ret_bool HX.out.symm, Below.refl _ _⟩
  rw [h0]
  go_wp2_with fail
  refine (l00InB_any _ _ _ _).mono ?_
  rintro e w' ⟨rfl, rfl⟩
  rcases Bool.eq_false_or_eq_true (inB x.depth 1 300) with h1 | h1
  rotate_left
  · have HX : Hid (testB x = false) := by show _ = _; unfold testB; simp [*]
    rw [h1]
    go_wp2
    go_ret
    exact ⟨ret_bool HX.out.symm, Below.refl _ _⟩
  rw [h1]
  go_wp2_with fail
  refine (l04HourV_any _ _).mono ?_
  rintro e w' ⟨rfl, rfl⟩
  rcases Bool.eq_false_or_eq_true (inB x.hour 0 100000) with h2 | h2
  rotate_left
  · have HX : Hid (testB x = false) := by show _ = _; unfold testB; simp [*]
    rw [h2]
    go_wp2
    go_ret
    exact ⟨ret_bool HX.out.symm, Below.refl _ _⟩
  rw [h2]
  by_cases hk1 : x.kind = 1
  · have HX : Hid (testB x = inB x.score 0 31) := by show _ = _; unfold testB; simp [h0, h1, h2, hk1]
    rw [hk1] at c0
    go_wp2_with fail
    refine (l00InB_any _ _ _ _).mono ?_
    rintro e w' ⟨rfl, rfl⟩
    go_wp2
    go_ret
    exact ⟨ret_bool HX.out.symm, Below.refl _ _⟩
  by_cases hk2 : x.kind = 2
  · have HX : Hid (testB x = inB x.score 0 31) := by show _ = _; unfold testB; simp [h0, h1, h2, hk2]
    rw [hk2] at c0
    go_wp2_with fail
    refine (l00InB_any _ _ _ _).mono ?_
    rintro e w' ⟨rfl, rfl⟩
    go_wp2
    go_ret
    exact ⟨ret_bool HX.out.symm, Below.refl _ _⟩
  by_cases hk3 : x.kind = 3
  · have HX : Hid (testB x = inB x.score 1 7) := by show _ = _; unfold testB; simp [h0, h1, h2, hk3]
    rw [hk3] at c0
    go_wp2_with fail
    refine (l00InB_any _ _ _ _).mono ?_
    rintro e w' ⟨rfl, rfl⟩
    go_wp2
    go_ret
    exact ⟨ret_bool HX.out.symm, Below.refl _ _⟩
  have HX : Hid (testB x = false) := by show _ = _; unfold testB; simp [h0, h1, h2, hk1, hk2, hk3]
  go_wp2
  go_ret
  exact ⟨ret_bool HX.out.symm, Below.refl _ _⟩
set_option maxRecDepth 100000 in
set_option maxHeartbeats 4000000 in
theorem validTest_any (x : DTest) (w : World) (hok : fTest.ok x) :
    Calls Tryz.prog 137 #[.agg #[.int .i64 x.kind, .int .i64 x.score, .int .i64 x.quality, .int .i64 x.depth, .int .i64 x.hour]] w fun e w' => e = .returned (.bool (testB x)) ∧ Below w.heap.size w w' := by
  clear hok
  go_enter Tryz.func137, Tryz.ntmps137
  go_wp2_with fail
  refine (withinB_any _ _ _ _).mono ?_
  rintro e w' ⟨rfl, rfl⟩
  rcases Bool.eq_false_or_eq_true (inB x.quality 1 3) with h0 | h0
  rotate_left
  · have HX : Hid (testB x = false) := by show _ = _; unfold testB; simp [*]
    rw [h0]
    go_wp2
    go_ret
    exact ⟨ret_bool HX.out.symm, (Below.refl _ _).alloc (Nat.le_refl _) _⟩
  rw [h0]
  go_wp2_with fail
  refine (withinB_any _ _ _ _).mono ?_
  rintro e w' ⟨rfl, rfl⟩
  rcases Bool.eq_false_or_eq_true (inB x.depth 1 300) with h1 | h1
  rotate_left
  · have HX : Hid (testB x = false) := by show _ = _; unfold testB; simp [*]
    rw [h1]
    go_wp2
    go_ret
    exact ⟨ret_bool HX.out.symm, (Below.refl _ _).alloc (Nat.le_refl _) _⟩
  rw [h1]
  go_wp2_with fail
  refine (hourOkV_any _ _).mono ?_
  rintro e w' ⟨rfl, rfl⟩
  rcases Bool.eq_false_or_eq_true (inB x.hour 0 100000) with h2 | h2
  rotate_left
  · have HX : Hid (testB x = false) := by show _ = _; unfold testB; simp [*]
    rw [h2]
    go_wp2
    go_ret
    exact ⟨ret_bool HX.out.symm, (Below.refl _ _).alloc (Nat.le_refl _) _⟩
  rw [h2]
  by_cases hk1 : x.kind = 1
  · have HX : Hid (testB x = inB x.score 0 31) := by show _ = _; unfold testB; simp [h0, h1, h2, hk1]
    go_wp2_with fail
    refine (withinB_any _ _ _ _).mono ?_
    rintro e w' ⟨rfl, rfl⟩
    go_wp2
    go_ret
    exact ⟨ret_bool HX.out.symm, (Below.refl _ _).alloc (Nat.le_refl _) _⟩
  by_cases hk2 : x.kind = 2
  · have HX : Hid (testB x = inB x.score 0 31) := by show _ = _; unfold testB; simp [h0, h1, h2, hk2]
    go_wp2_with fail
    refine (withinB_any _ _ _ _).mono ?_
    rintro e w' ⟨rfl, rfl⟩
    go_wp2
    go_ret
    exact ⟨ret_bool HX.out.symm, (Below.refl _ _).alloc (Nat.le_refl _) _⟩
  by_cases hk3 : x.kind = 3
  · have HX : Hid (testB x = inB x.score 1 7) := by show _ = _; unfold testB; simp [h0, h1, h2, hk3]
    go_wp2_with fail
    refine (withinB_any _ _ _ _).mono ?_
    rintro e w' ⟨rfl, rfl⟩
    go_wp2
    go_ret
    exact ⟨ret_bool HX.out.symm, (Below.refl _ _).alloc (Nat.le_refl _) _⟩
  have HX : Hid (testB x = false) := by show _ = _; unfold testB; simp [h0, h1, h2, hk1, hk2, hk3]
  go_wp2
  go_ret
  exact ⟨ret_bool HX.out.symm, (Below.refl _ _).alloc (Nat.le_refl _) _⟩

def shotB (x : DShot) : Bool := nameB x.id && inB x.from_ 0 1440 && inB x.until_ 0 1440 && inB x.minutes 1 240 && decide (x.from_ + x.minutes ≤ x.until_) && inB x.gain 0 1000
theorem shotB_eq (x : DShot) : shotB x = (nameB x.id && (inB x.from_ 0 1440 && (inB x.until_ 0 1440 && (inB x.minutes 1 (min (x.until_ - x.from_) 240) && inB x.gain 0 1000)))) := by
  unfold shotB
  rw [Bool.eq_iff_iff]
  simp only [Bool.and_eq_true, inB_true, decide_eq_true_eq]
  constructor
  · rintro ⟨⟨⟨⟨⟨h0, h1⟩, h2⟩, h3⟩, h4⟩, h5⟩
    exact ⟨h0, h1, h2, by omega, h5⟩
  · rintro ⟨h0, h1, h2, h3, h5⟩
    exact ⟨⟨⟨⟨⟨h0, h1⟩, h2⟩, by omega⟩, by omega⟩, h5⟩
set_option maxRecDepth 100000 in
set_option maxHeartbeats 4000000 in
theorem l22One_any (pb po : Nat) (x : DShot) (w : World) (hp : PShot w pb po x) (hok : fShot.ok x) :
    Calls Tryz.prog 128 #[.pointer (some ⟨pb, po, none⟩)] w fun e w' => e = .returned (.bool (shotB x)) ∧ Below w.heap.size w w' := by
  obtain ⟨c0, c1, c2, c3, c4⟩ := id hp
  have k1 : x.id.size ≤ 9223372036854775807 := by have := hok; first | exact this.1 | exact this
  clear hok hp
  go_enter Tryz.func128, Tryz.ntmps128
  go_wp2
  have gc0 := cell_regrown c0
  have gc1 := cell_regrown c1
  have gc2 := cell_regrown c2
  have gc3 := cell_regrown c3
  have gc4 := cell_regrown c4
  refine wp_region_mix (C := fun w' => ∃ p : Regrown, w' = Go.Sort.grow (redrawn w p.d) p.os) [true, true, true, true, false, true, true, true, true, true, false, true, true, true, true, true, true, false, true, true, true, true, true, true, false, true, true, true, true, true, true, true, true, true, true, true, true, true, true, true, true, true, true, true, true, true, true, false, true, true] (by kernel_rfl) (by kernel_rfl) (by kernel_rfl) (fun _ _ d _ _ h => by cases d <;> exact h) (regrown_of_below (Below.drew (Below.refl _ _))) ?_
  have hS0 : Below (w.heap.size) w w.drew := Below.drew (Below.refl _ _)
  refine wpMix_pure (by kernel_rfl) (fun K hK => ?_); go_big_quiet_op; refine hK _ ?_; clear hK K
  refine wpMix_pure (by kernel_rfl) (fun K hK => ?_); go_big_quiet_op; refine hK _ ?_; clear hK K
  refine wpMix_pure (by kernel_rfl) (fun K hK => ?_); go_big_quiet_op; refine hK _ ?_; clear hK K
  refine wpMix_pure (by kernel_rfl) (fun K hK => ?_); go_big_quiet_op; refine hK _ ?_; clear hK K
  refine wpMix_act (by kernel_rfl) (fun K hK => ?_)
  go_big_op
  refine (l01Name_any _ _ k1).mono ?_
  rintro e w' ⟨rfl, rfl⟩
  refine hK _ _ (regrown_of_below hS0) ?_
  clear hK K
  cases hq4 : nameB x.id
  · skip
    refine wpMix_pure (by kernel_rfl) (fun K hK => ?_); go_big_quiet_op; refine hK _ ?_; clear hK K
    refine wpMix_skip (by kernel_rfl) (fun K hK => ?_)
    simp only [Act.put, List.setIfInBounds_toArray, List.set_cons_zero, List.set_cons_succ]
    refine hK _ ?_; clear hK K
    refine wpMix_skip (by kernel_rfl) (fun K hK => ?_)
    simp only [Act.put, List.setIfInBounds_toArray, List.set_cons_zero, List.set_cons_succ]
    refine hK _ ?_; clear hK K
    refine wpMix_skip (by kernel_rfl) (fun K hK => ?_)
    simp only [Act.put, List.setIfInBounds_toArray, List.set_cons_zero, List.set_cons_succ]
    refine hK _ ?_; clear hK K
    refine wpMix_skip (by kernel_rfl) (fun K hK => ?_)
    simp only [Act.put, List.setIfInBounds_toArray, List.set_cons_zero, List.set_cons_succ]
    refine hK _ ?_; clear hK K
    refine wpMix_skip (by kernel_rfl) (fun K hK => ?_)
    simp only [Act.put, List.setIfInBounds_toArray, List.set_cons_zero, List.set_cons_succ]
    refine hK _ ?_; clear hK K
    refine wpMix_pure (by kernel_rfl) (fun K hK => ?_); go_big_quiet_op; refine hK _ ?_; clear hK K
    refine wpMix_pure (by kernel_rfl) (fun K hK => ?_); go_big_quiet_op; refine hK _ ?_; clear hK K
    refine wpMix_skip (by kernel_rfl) (fun K hK => ?_)
    simp only [Act.put, List.setIfInBounds_toArray, List.set_cons_zero, List.set_cons_succ]
    refine hK _ ?_; clear hK K
    refine wpMix_skip (by kernel_rfl) (fun K hK => ?_)
    simp only [Act.put, List.setIfInBounds_toArray, List.set_cons_zero, List.set_cons_succ]
    refine hK _ ?_; clear hK K
    refine wpMix_skip (by kernel_rfl) (fun K hK => ?_)
    simp only [Act.put, List.setIfInBounds_toArray, List.set_cons_zero, List.set_cons_succ]
    refine hK _ ?_; clear hK K
    refine wpMix_skip (by kernel_rfl) (fun K hK => ?_)
    simp only [Act.put, List.setIfInBounds_toArray, List.set_cons_zero, List.set_cons_succ]
    refine hK _ ?_; clear hK K
    refine wpMix_skip (by kernel_rfl) (fun K hK => ?_)
    simp only [Act.put, List.setIfInBounds_toArray, List.set_cons_zero, List.set_cons_succ]
    refine hK _ ?_; clear hK K
    refine wpMix_pure (by kernel_rfl) (fun K hK => ?_); go_big_quiet_op; refine hK _ ?_; clear hK K
    refine wpMix_pure (by kernel_rfl) (fun K hK => ?_); go_big_quiet_op; refine hK _ ?_; clear hK K
    refine wpMix_skip (by kernel_rfl) (fun K hK => ?_)
    simp only [Act.put, List.setIfInBounds_toArray, List.set_cons_zero, List.set_cons_succ]
    refine hK _ ?_; clear hK K
    refine wpMix_skip (by kernel_rfl) (fun K hK => ?_)
    simp only [Act.put, List.setIfInBounds_toArray, List.set_cons_zero, List.set_cons_succ]
    refine hK _ ?_; clear hK K
    refine wpMix_skip (by kernel_rfl) (fun K hK => ?_)
    simp only [Act.put, List.setIfInBounds_toArray, List.set_cons_zero, List.set_cons_succ]
    refine hK _ ?_; clear hK K
    refine wpMix_skip (by kernel_rfl) (fun K hK => ?_)
    simp only [Act.put, List.setIfInBounds_toArray, List.set_cons_zero, List.set_cons_succ]
    refine hK _ ?_; clear hK K
    refine wpMix_skip (by kernel_rfl) (fun K hK => ?_)
    simp only [Act.put, List.setIfInBounds_toArray, List.set_cons_zero, List.set_cons_succ]
    refine hK _ ?_; clear hK K
    refine wpMix_pure (by kernel_rfl) (fun K hK => ?_); go_big_quiet_op; refine hK _ ?_; clear hK K
    refine wpMix_pure (by kernel_rfl) (fun K hK => ?_); go_big_quiet_op; refine hK _ ?_; clear hK K
    refine wpMix_skip (by kernel_rfl) (fun K hK => ?_)
    simp only [Act.put, List.setIfInBounds_toArray, List.set_cons_zero, List.set_cons_succ]
    refine hK _ ?_; clear hK K
    refine wpMix_skip (by kernel_rfl) (fun K hK => ?_)
    simp only [Act.put, List.setIfInBounds_toArray, List.set_cons_zero, List.set_cons_succ]
    refine hK _ ?_; clear hK K
    refine wpMix_skip (by kernel_rfl) (fun K hK => ?_)
    simp only [Act.put, List.setIfInBounds_toArray, List.set_cons_zero, List.set_cons_succ]
    refine hK _ ?_; clear hK K
    refine wpMix_skip (by kernel_rfl) (fun K hK => ?_)
    simp only [Act.put, List.setIfInBounds_toArray, List.set_cons_zero, List.set_cons_succ]
    refine hK _ ?_; clear hK K
    refine wpMix_skip (by kernel_rfl) (fun K hK => ?_)
    simp only [Act.put, List.setIfInBounds_toArray, List.set_cons_zero, List.set_cons_succ]
    refine hK _ ?_; clear hK K
    refine wpMix_skip (by kernel_rfl) (fun K hK => ?_)
    simp only [Act.put, List.setIfInBounds_toArray, List.set_cons_zero, List.set_cons_succ]
    refine hK _ ?_; clear hK K
    refine wpMix_skip (by kernel_rfl) (fun K hK => ?_)
    simp only [Act.put, List.setIfInBounds_toArray, List.set_cons_zero, List.set_cons_succ]
    refine hK _ ?_; clear hK K
    refine wpMix_skip (by kernel_rfl) (fun K hK => ?_)
    simp only [Act.put, List.setIfInBounds_toArray, List.set_cons_zero, List.set_cons_succ]
    refine hK _ ?_; clear hK K
    refine wpMix_skip (by kernel_rfl) (fun K hK => ?_)
    simp only [Act.put, List.setIfInBounds_toArray, List.set_cons_zero, List.set_cons_succ]
    refine hK _ ?_; clear hK K
    refine wpMix_skip (by kernel_rfl) (fun K hK => ?_)
    simp only [Act.put, List.setIfInBounds_toArray, List.set_cons_zero, List.set_cons_succ]
    refine hK _ ?_; clear hK K
    refine wpMix_skip (by kernel_rfl) (fun K hK => ?_)
    simp only [Act.put, List.setIfInBounds_toArray, List.set_cons_zero, List.set_cons_succ]
    refine hK _ ?_; clear hK K
    refine wpMix_skip (by kernel_rfl) (fun K hK => ?_)
    simp only [Act.put, List.setIfInBounds_toArray, List.set_cons_zero, List.set_cons_succ]
    refine hK _ ?_; clear hK K
    refine wpMix_skip (by kernel_rfl) (fun K hK => ?_)
    simp only [Act.put, List.setIfInBounds_toArray, List.set_cons_zero, List.set_cons_succ]
    refine hK _ ?_; clear hK K
    refine wpMix_skip (by kernel_rfl) (fun K hK => ?_)
    simp only [Act.put, List.setIfInBounds_toArray, List.set_cons_zero, List.set_cons_succ]
    refine hK _ ?_; clear hK K
    refine wpMix_pure (by kernel_rfl) (fun K hK => ?_); go_big_quiet_op; refine hK _ ?_; clear hK K
    refine wpMix_pure (by kernel_rfl) (fun K hK => ?_); go_big_quiet_op; refine hK _ ?_; clear hK K
    refine wpMix_skip (by kernel_rfl) (fun K hK => ?_)
    simp only [Act.put, List.setIfInBounds_toArray, List.set_cons_zero, List.set_cons_succ]
    refine hK _ ?_; clear hK K
    refine wpMix_skip (by kernel_rfl) (fun K hK => ?_)
    simp only [Act.put, List.setIfInBounds_toArray, List.set_cons_zero, List.set_cons_succ]
    refine hK _ ?_; clear hK K
    refine wpMix_skip (by kernel_rfl) (fun K hK => ?_)
    simp only [Act.put, List.setIfInBounds_toArray, List.set_cons_zero, List.set_cons_succ]
    refine hK _ ?_; clear hK K
    refine wpMix_skip (by kernel_rfl) (fun K hK => ?_)
    simp only [Act.put, List.setIfInBounds_toArray, List.set_cons_zero, List.set_cons_succ]
    refine hK _ ?_; clear hK K
    refine wpMix_skip (by kernel_rfl) (fun K hK => ?_)
    simp only [Act.put, List.setIfInBounds_toArray, List.set_cons_zero, List.set_cons_succ]
    refine hK _ ?_; clear hK K
    refine wpMix_pure (by kernel_rfl) (fun K hK => ?_); go_big_quiet_op; refine hK _ ?_; clear hK K
    refine wpMix_pure (by kernel_rfl) (fun K hK => ?_); go_big_quiet_op; refine hK _ ?_; clear hK K
    refine wpMix_nil ?_
    go_wp2
    go_ret
    exact ⟨ret_bool (by simp [shotB, *]), hS0⟩
  · skip
    refine wpMix_pure (by kernel_rfl) (fun K hK => ?_); go_big_quiet_op; refine hK _ ?_; clear hK K
    refine wpMix_pure (by kernel_rfl) (fun K hK => ?_); go_big_quiet_op; refine hK _ ?_; clear hK K
    refine wpMix_pure (by kernel_rfl) (fun K hK => ?_); go_big_quiet_op; refine hK _ ?_; clear hK K
    refine wpMix_pure (by kernel_rfl) (fun K hK => ?_); go_big_quiet_op; refine hK _ ?_; clear hK K
    refine wpMix_pure (by kernel_rfl) (fun K hK => ?_); go_big_quiet_op; refine hK _ ?_; clear hK K
    refine wpMix_act (by kernel_rfl) (fun K hK => ?_)
    go_big_op
    refine (l00InB_any _ _ _ _).mono ?_
    rintro e w' ⟨rfl, rfl⟩
    refine hK _ _ (regrown_of_below hS0) ?_
    clear hK K
    cases hq10 : inB x.from_ 0 1440
    · skip
      refine wpMix_pure (by kernel_rfl) (fun K hK => ?_); go_big_quiet_op; refine hK _ ?_; clear hK K
      refine wpMix_pure (by kernel_rfl) (fun K hK => ?_); go_big_quiet_op; refine hK _ ?_; clear hK K
      refine wpMix_skip (by kernel_rfl) (fun K hK => ?_)
      simp only [Act.put, List.setIfInBounds_toArray, List.set_cons_zero, List.set_cons_succ]
      refine hK _ ?_; clear hK K
      refine wpMix_skip (by kernel_rfl) (fun K hK => ?_)
      simp only [Act.put, List.setIfInBounds_toArray, List.set_cons_zero, List.set_cons_succ]
      refine hK _ ?_; clear hK K
      refine wpMix_skip (by kernel_rfl) (fun K hK => ?_)
      simp only [Act.put, List.setIfInBounds_toArray, List.set_cons_zero, List.set_cons_succ]
      refine hK _ ?_; clear hK K
      refine wpMix_skip (by kernel_rfl) (fun K hK => ?_)
      simp only [Act.put, List.setIfInBounds_toArray, List.set_cons_zero, List.set_cons_succ]
      refine hK _ ?_; clear hK K
      refine wpMix_skip (by kernel_rfl) (fun K hK => ?_)
      simp only [Act.put, List.setIfInBounds_toArray, List.set_cons_zero, List.set_cons_succ]
      refine hK _ ?_; clear hK K
      refine wpMix_pure (by kernel_rfl) (fun K hK => ?_); go_big_quiet_op; refine hK _ ?_; clear hK K
      refine wpMix_pure (by kernel_rfl) (fun K hK => ?_); go_big_quiet_op; refine hK _ ?_; clear hK K
      refine wpMix_skip (by kernel_rfl) (fun K hK => ?_)
      simp only [Act.put, List.setIfInBounds_toArray, List.set_cons_zero, List.set_cons_succ]
      refine hK _ ?_; clear hK K
      refine wpMix_skip (by kernel_rfl) (fun K hK => ?_)
      simp only [Act.put, List.setIfInBounds_toArray, List.set_cons_zero, List.set_cons_succ]
      refine hK _ ?_; clear hK K
      refine wpMix_skip (by kernel_rfl) (fun K hK => ?_)
      simp only [Act.put, List.setIfInBounds_toArray, List.set_cons_zero, List.set_cons_succ]
      refine hK _ ?_; clear hK K
      refine wpMix_skip (by kernel_rfl) (fun K hK => ?_)
      simp only [Act.put, List.setIfInBounds_toArray, List.set_cons_zero, List.set_cons_succ]
      refine hK _ ?_; clear hK K
      refine wpMix_skip (by kernel_rfl) (fun K hK => ?_)
      simp only [Act.put, List.setIfInBounds_toArray, List.set_cons_zero, List.set_cons_succ]
      refine hK _ ?_; clear hK K
      refine wpMix_pure (by kernel_rfl) (fun K hK => ?_); go_big_quiet_op; refine hK _ ?_; clear hK K
      refine wpMix_pure (by kernel_rfl) (fun K hK => ?_); go_big_quiet_op; refine hK _ ?_; clear hK K
      refine wpMix_skip (by kernel_rfl) (fun K hK => ?_)
      simp only [Act.put, List.setIfInBounds_toArray, List.set_cons_zero, List.set_cons_succ]
      refine hK _ ?_; clear hK K
      refine wpMix_skip (by kernel_rfl) (fun K hK => ?_)
      simp only [Act.put, List.setIfInBounds_toArray, List.set_cons_zero, List.set_cons_succ]
      refine hK _ ?_; clear hK K
      refine wpMix_skip (by kernel_rfl) (fun K hK => ?_)
      simp only [Act.put, List.setIfInBounds_toArray, List.set_cons_zero, List.set_cons_succ]
      refine hK _ ?_; clear hK K
      refine wpMix_skip (by kernel_rfl) (fun K hK => ?_)
      simp only [Act.put, List.setIfInBounds_toArray, List.set_cons_zero, List.set_cons_succ]
      refine hK _ ?_; clear hK K
      refine wpMix_skip (by kernel_rfl) (fun K hK => ?_)
      simp only [Act.put, List.setIfInBounds_toArray, List.set_cons_zero, List.set_cons_succ]
      refine hK _ ?_; clear hK K
      refine wpMix_skip (by kernel_rfl) (fun K hK => ?_)
      simp only [Act.put, List.setIfInBounds_toArray, List.set_cons_zero, List.set_cons_succ]
      refine hK _ ?_; clear hK K
      refine wpMix_skip (by kernel_rfl) (fun K hK => ?_)
      simp only [Act.put, List.setIfInBounds_toArray, List.set_cons_zero, List.set_cons_succ]
      refine hK _ ?_; clear hK K
      refine wpMix_skip (by kernel_rfl) (fun K hK => ?_)
      simp only [Act.put, List.setIfInBounds_toArray, List.set_cons_zero, List.set_cons_succ]
      refine hK _ ?_; clear hK K
      refine wpMix_skip (by kernel_rfl) (fun K hK => ?_)
      simp only [Act.put, List.setIfInBounds_toArray, List.set_cons_zero, List.set_cons_succ]
      refine hK _ ?_; clear hK K
      refine wpMix_skip (by kernel_rfl) (fun K hK => ?_)
      simp only [Act.put, List.setIfInBounds_toArray, List.set_cons_zero, List.set_cons_succ]
      refine hK _ ?_; clear hK K
      refine wpMix_skip (by kernel_rfl) (fun K hK => ?_)
      simp only [Act.put, List.setIfInBounds_toArray, List.set_cons_zero, List.set_cons_succ]
      refine hK _ ?_; clear hK K
      refine wpMix_skip (by kernel_rfl) (fun K hK => ?_)
      simp only [Act.put, List.setIfInBounds_toArray, List.set_cons_zero, List.set_cons_succ]
      refine hK _ ?_; clear hK K
      refine wpMix_skip (by kernel_rfl) (fun K hK => ?_)
      simp only [Act.put, List.setIfInBounds_toArray, List.set_cons_zero, List.set_cons_succ]
      refine hK _ ?_; clear hK K
      refine wpMix_skip (by kernel_rfl) (fun K hK => ?_)
      simp only [Act.put, List.setIfInBounds_toArray, List.set_cons_zero, List.set_cons_succ]
      refine hK _ ?_; clear hK K
      refine wpMix_pure (by kernel_rfl) (fun K hK => ?_); go_big_quiet_op; refine hK _ ?_; clear hK K
      refine wpMix_pure (by kernel_rfl) (fun K hK => ?_); go_big_quiet_op; refine hK _ ?_; clear hK K
      refine wpMix_skip (by kernel_rfl) (fun K hK => ?_)
      simp only [Act.put, List.setIfInBounds_toArray, List.set_cons_zero, List.set_cons_succ]
      refine hK _ ?_; clear hK K
      refine wpMix_skip (by kernel_rfl) (fun K hK => ?_)
      simp only [Act.put, List.setIfInBounds_toArray, List.set_cons_zero, List.set_cons_succ]
      refine hK _ ?_; clear hK K
      refine wpMix_skip (by kernel_rfl) (fun K hK => ?_)
      simp only [Act.put, List.setIfInBounds_toArray, List.set_cons_zero, List.set_cons_succ]
      refine hK _ ?_; clear hK K
      refine wpMix_skip (by kernel_rfl) (fun K hK => ?_)
      simp only [Act.put, List.setIfInBounds_toArray, List.set_cons_zero, List.set_cons_succ]
      refine hK _ ?_; clear hK K
      refine wpMix_skip (by kernel_rfl) (fun K hK => ?_)
      simp only [Act.put, List.setIfInBounds_toArray, List.set_cons_zero, List.set_cons_succ]
      refine hK _ ?_; clear hK K
      refine wpMix_pure (by kernel_rfl) (fun K hK => ?_); go_big_quiet_op; refine hK _ ?_; clear hK K
      refine wpMix_pure (by kernel_rfl) (fun K hK => ?_); go_big_quiet_op; refine hK _ ?_; clear hK K
      refine wpMix_nil ?_
      go_wp2
      go_ret
      exact ⟨ret_bool (by simp [shotB, *]), hS0⟩
    · skip
      have b1 := inB_true.1 hq10
      refine wpMix_pure (by kernel_rfl) (fun K hK => ?_); go_big_quiet_op; refine hK _ ?_; clear hK K
      refine wpMix_pure (by kernel_rfl) (fun K hK => ?_); go_big_quiet_op; refine hK _ ?_; clear hK K
      refine wpMix_pure (by kernel_rfl) (fun K hK => ?_); go_big_quiet_op; refine hK _ ?_; clear hK K
      refine wpMix_pure (by kernel_rfl) (fun K hK => ?_); go_big_quiet_op; refine hK _ ?_; clear hK K
      refine wpMix_pure (by kernel_rfl) (fun K hK => ?_); go_big_quiet_op; refine hK _ ?_; clear hK K
      refine wpMix_pure (by kernel_rfl) (fun K hK => ?_); go_big_quiet_op; refine hK _ ?_; clear hK K
      refine wpMix_act (by kernel_rfl) (fun K hK => ?_)
      go_big_op
      refine (l00InB_any _ _ _ _).mono ?_
      rintro e w' ⟨rfl, rfl⟩
      refine hK _ _ (regrown_of_below hS0) ?_
      clear hK K
      cases hq17 : inB x.until_ 0 1440
      · skip
        refine wpMix_pure (by kernel_rfl) (fun K hK => ?_); go_big_quiet_op; refine hK _ ?_; clear hK K
        refine wpMix_pure (by kernel_rfl) (fun K hK => ?_); go_big_quiet_op; refine hK _ ?_; clear hK K
        refine wpMix_skip (by kernel_rfl) (fun K hK => ?_)
        simp only [Act.put, List.setIfInBounds_toArray, List.set_cons_zero, List.set_cons_succ]
        refine hK _ ?_; clear hK K
        refine wpMix_skip (by kernel_rfl) (fun K hK => ?_)
        simp only [Act.put, List.setIfInBounds_toArray, List.set_cons_zero, List.set_cons_succ]
        refine hK _ ?_; clear hK K
        refine wpMix_skip (by kernel_rfl) (fun K hK => ?_)
        simp only [Act.put, List.setIfInBounds_toArray, List.set_cons_zero, List.set_cons_succ]
        refine hK _ ?_; clear hK K
        refine wpMix_skip (by kernel_rfl) (fun K hK => ?_)
        simp only [Act.put, List.setIfInBounds_toArray, List.set_cons_zero, List.set_cons_succ]
        refine hK _ ?_; clear hK K
        refine wpMix_skip (by kernel_rfl) (fun K hK => ?_)
        simp only [Act.put, List.setIfInBounds_toArray, List.set_cons_zero, List.set_cons_succ]
        refine hK _ ?_; clear hK K
        refine wpMix_pure (by kernel_rfl) (fun K hK => ?_); go_big_quiet_op; refine hK _ ?_; clear hK K
        refine wpMix_pure (by kernel_rfl) (fun K hK => ?_); go_big_quiet_op; refine hK _ ?_; clear hK K
        refine wpMix_skip (by kernel_rfl) (fun K hK => ?_)
        simp only [Act.put, List.setIfInBounds_toArray, List.set_cons_zero, List.set_cons_succ]
        refine hK _ ?_; clear hK K
        refine wpMix_skip (by kernel_rfl) (fun K hK => ?_)
        simp only [Act.put, List.setIfInBounds_toArray, List.set_cons_zero, List.set_cons_succ]
        refine hK _ ?_; clear hK K
        refine wpMix_skip (by kernel_rfl) (fun K hK => ?_)
        simp only [Act.put, List.setIfInBounds_toArray, List.set_cons_zero, List.set_cons_succ]
        refine hK _ ?_; clear hK K
        refine wpMix_skip (by kernel_rfl) (fun K hK => ?_)
        simp only [Act.put, List.setIfInBounds_toArray, List.set_cons_zero, List.set_cons_succ]
        refine hK _ ?_; clear hK K
        refine wpMix_skip (by kernel_rfl) (fun K hK => ?_)
        simp only [Act.put, List.setIfInBounds_toArray, List.set_cons_zero, List.set_cons_succ]
        refine hK _ ?_; clear hK K
        refine wpMix_skip (by kernel_rfl) (fun K hK => ?_)
        simp only [Act.put, List.setIfInBounds_toArray, List.set_cons_zero, List.set_cons_succ]
        refine hK _ ?_; clear hK K
        refine wpMix_skip (by kernel_rfl) (fun K hK => ?_)
        simp only [Act.put, List.setIfInBounds_toArray, List.set_cons_zero, List.set_cons_succ]
        refine hK _ ?_; clear hK K
        refine wpMix_skip (by kernel_rfl) (fun K hK => ?_)
        simp only [Act.put, List.setIfInBounds_toArray, List.set_cons_zero, List.set_cons_succ]
        refine hK _ ?_; clear hK K
        refine wpMix_skip (by kernel_rfl) (fun K hK => ?_)
        simp only [Act.put, List.setIfInBounds_toArray, List.set_cons_zero, List.set_cons_succ]
        refine hK _ ?_; clear hK K
        refine wpMix_skip (by kernel_rfl) (fun K hK => ?_)
        simp only [Act.put, List.setIfInBounds_toArray, List.set_cons_zero, List.set_cons_succ]
        refine hK _ ?_; clear hK K
        refine wpMix_skip (by kernel_rfl) (fun K hK => ?_)
        simp only [Act.put, List.setIfInBounds_toArray, List.set_cons_zero, List.set_cons_succ]
        refine hK _ ?_; clear hK K
        refine wpMix_skip (by kernel_rfl) (fun K hK => ?_)
        simp only [Act.put, List.setIfInBounds_toArray, List.set_cons_zero, List.set_cons_succ]
        refine hK _ ?_; clear hK K
        refine wpMix_skip (by kernel_rfl) (fun K hK => ?_)
        simp only [Act.put, List.setIfInBounds_toArray, List.set_cons_zero, List.set_cons_succ]
        refine hK _ ?_; clear hK K
        refine wpMix_skip (by kernel_rfl) (fun K hK => ?_)
        simp only [Act.put, List.setIfInBounds_toArray, List.set_cons_zero, List.set_cons_succ]
        refine hK _ ?_; clear hK K
        refine wpMix_pure (by kernel_rfl) (fun K hK => ?_); go_big_quiet_op; refine hK _ ?_; clear hK K
        refine wpMix_pure (by kernel_rfl) (fun K hK => ?_); go_big_quiet_op; refine hK _ ?_; clear hK K
        refine wpMix_skip (by kernel_rfl) (fun K hK => ?_)
        simp only [Act.put, List.setIfInBounds_toArray, List.set_cons_zero, List.set_cons_succ]
        refine hK _ ?_; clear hK K
        refine wpMix_skip (by kernel_rfl) (fun K hK => ?_)
        simp only [Act.put, List.setIfInBounds_toArray, List.set_cons_zero, List.set_cons_succ]
        refine hK _ ?_; clear hK K
        refine wpMix_skip (by kernel_rfl) (fun K hK => ?_)
        simp only [Act.put, List.setIfInBounds_toArray, List.set_cons_zero, List.set_cons_succ]
        refine hK _ ?_; clear hK K
        refine wpMix_skip (by kernel_rfl) (fun K hK => ?_)
        simp only [Act.put, List.setIfInBounds_toArray, List.set_cons_zero, List.set_cons_succ]
        refine hK _ ?_; clear hK K
        refine wpMix_skip (by kernel_rfl) (fun K hK => ?_)
        simp only [Act.put, List.setIfInBounds_toArray, List.set_cons_zero, List.set_cons_succ]
        refine hK _ ?_; clear hK K
        refine wpMix_pure (by kernel_rfl) (fun K hK => ?_); go_big_quiet_op; refine hK _ ?_; clear hK K
        refine wpMix_pure (by kernel_rfl) (fun K hK => ?_); go_big_quiet_op; refine hK _ ?_; clear hK K
        refine wpMix_nil ?_
        go_wp2
        go_ret
        exact ⟨ret_bool (by simp [shotB, *]), hS0⟩
      · skip
        have b2 := inB_true.1 hq17
        refine wpMix_pure (by kernel_rfl) (fun K hK => ?_); go_big_quiet_op; refine hK _ ?_; clear hK K
        refine wpMix_pure (by kernel_rfl) (fun K hK => ?_); go_big_quiet_op; refine hK _ ?_; clear hK K
        refine wpMix_pure (by kernel_rfl) (fun K hK => ?_); go_big_quiet_op; refine hK _ ?_; clear hK K
        refine wpMix_pure (by kernel_rfl) (fun K hK => ?_); go_big_quiet_op; refine hK _ ?_; clear hK K
        refine wpMix_pure (by kernel_rfl) (fun K hK => ?_); go_big_quiet_op; refine hK _ ?_; clear hK K
        refine wpMix_pure (by kernel_rfl) (fun K hK => ?_); go_big_quiet_op; refine hK _ ?_; clear hK K
        refine wpMix_act (by kernel_rfl) (fun K hK => ?_)
        go_big_op
        refine (l00InB_any _ _ _ _).mono ?_
        rintro e w' ⟨rfl, rfl⟩
        refine hK _ _ (regrown_of_below hS0) ?_
        clear hK K
        cases hq24 : inB x.minutes 1 240
        · skip
          refine wpMix_pure (by kernel_rfl) (fun K hK => ?_); go_big_quiet_op; refine hK _ ?_; clear hK K
          refine wpMix_pure (by kernel_rfl) (fun K hK => ?_); go_big_quiet_op; refine hK _ ?_; clear hK K
          refine wpMix_skip (by kernel_rfl) (fun K hK => ?_)
          simp only [Act.put, List.setIfInBounds_toArray, List.set_cons_zero, List.set_cons_succ]
          refine hK _ ?_; clear hK K
          refine wpMix_skip (by kernel_rfl) (fun K hK => ?_)
          simp only [Act.put, List.setIfInBounds_toArray, List.set_cons_zero, List.set_cons_succ]
          refine hK _ ?_; clear hK K
          refine wpMix_skip (by kernel_rfl) (fun K hK => ?_)
          simp only [Act.put, List.setIfInBounds_toArray, List.set_cons_zero, List.set_cons_succ]
          refine hK _ ?_; clear hK K
          refine wpMix_skip (by kernel_rfl) (fun K hK => ?_)
          simp only [Act.put, List.setIfInBounds_toArray, List.set_cons_zero, List.set_cons_succ]
          refine hK _ ?_; clear hK K
          refine wpMix_skip (by kernel_rfl) (fun K hK => ?_)
          simp only [Act.put, List.setIfInBounds_toArray, List.set_cons_zero, List.set_cons_succ]
          refine hK _ ?_; clear hK K
          refine wpMix_skip (by kernel_rfl) (fun K hK => ?_)
          simp only [Act.put, List.setIfInBounds_toArray, List.set_cons_zero, List.set_cons_succ]
          refine hK _ ?_; clear hK K
          refine wpMix_skip (by kernel_rfl) (fun K hK => ?_)
          simp only [Act.put, List.setIfInBounds_toArray, List.set_cons_zero, List.set_cons_succ]
          refine hK _ ?_; clear hK K
          refine wpMix_skip (by kernel_rfl) (fun K hK => ?_)
          simp only [Act.put, List.setIfInBounds_toArray, List.set_cons_zero, List.set_cons_succ]
          refine hK _ ?_; clear hK K
          refine wpMix_skip (by kernel_rfl) (fun K hK => ?_)
          simp only [Act.put, List.setIfInBounds_toArray, List.set_cons_zero, List.set_cons_succ]
          refine hK _ ?_; clear hK K
          refine wpMix_skip (by kernel_rfl) (fun K hK => ?_)
          simp only [Act.put, List.setIfInBounds_toArray, List.set_cons_zero, List.set_cons_succ]
          refine hK _ ?_; clear hK K
          refine wpMix_skip (by kernel_rfl) (fun K hK => ?_)
          simp only [Act.put, List.setIfInBounds_toArray, List.set_cons_zero, List.set_cons_succ]
          refine hK _ ?_; clear hK K
          refine wpMix_skip (by kernel_rfl) (fun K hK => ?_)
          simp only [Act.put, List.setIfInBounds_toArray, List.set_cons_zero, List.set_cons_succ]
          refine hK _ ?_; clear hK K
          refine wpMix_skip (by kernel_rfl) (fun K hK => ?_)
          simp only [Act.put, List.setIfInBounds_toArray, List.set_cons_zero, List.set_cons_succ]
          refine hK _ ?_; clear hK K
          refine wpMix_skip (by kernel_rfl) (fun K hK => ?_)
          simp only [Act.put, List.setIfInBounds_toArray, List.set_cons_zero, List.set_cons_succ]
          refine hK _ ?_; clear hK K
          refine wpMix_pure (by kernel_rfl) (fun K hK => ?_); go_big_quiet_op; refine hK _ ?_; clear hK K
          refine wpMix_pure (by kernel_rfl) (fun K hK => ?_); go_big_quiet_op; refine hK _ ?_; clear hK K
          refine wpMix_skip (by kernel_rfl) (fun K hK => ?_)
          simp only [Act.put, List.setIfInBounds_toArray, List.set_cons_zero, List.set_cons_succ]
          refine hK _ ?_; clear hK K
          refine wpMix_skip (by kernel_rfl) (fun K hK => ?_)
          simp only [Act.put, List.setIfInBounds_toArray, List.set_cons_zero, List.set_cons_succ]
          refine hK _ ?_; clear hK K
          refine wpMix_skip (by kernel_rfl) (fun K hK => ?_)
          simp only [Act.put, List.setIfInBounds_toArray, List.set_cons_zero, List.set_cons_succ]
          refine hK _ ?_; clear hK K
          refine wpMix_skip (by kernel_rfl) (fun K hK => ?_)
          simp only [Act.put, List.setIfInBounds_toArray, List.set_cons_zero, List.set_cons_succ]
          refine hK _ ?_; clear hK K
          refine wpMix_skip (by kernel_rfl) (fun K hK => ?_)
          simp only [Act.put, List.setIfInBounds_toArray, List.set_cons_zero, List.set_cons_succ]
          refine hK _ ?_; clear hK K
          refine wpMix_pure (by kernel_rfl) (fun K hK => ?_); go_big_quiet_op; refine hK _ ?_; clear hK K
          refine wpMix_pure (by kernel_rfl) (fun K hK => ?_); go_big_quiet_op; refine hK _ ?_; clear hK K
          refine wpMix_nil ?_
          go_wp2
          go_ret
          exact ⟨ret_bool (by simp [shotB, *]), hS0⟩
        · skip
          have b3 := inB_true.1 hq24
          refine wpMix_pure (by kernel_rfl) (fun K hK => ?_); go_big_quiet_op; refine hK _ ?_; clear hK K
          refine wpMix_pure (by kernel_rfl) (fun K hK => ?_); go_big_quiet_op; refine hK _ ?_; clear hK K
          refine wpMix_pure (by kernel_rfl) (fun K hK => ?_); go_big_quiet_op; refine hK _ ?_; clear hK K
          refine wpMix_pure (by kernel_rfl) (fun K hK => ?_); go_big_quiet_op; refine hK _ ?_; clear hK K
          refine wpMix_pure (by kernel_rfl) (fun K hK => ?_); go_big_quiet_op; refine hK _ ?_; clear hK K
          refine wpMix_pure (by kernel_rfl) (fun K hK => ?_); go_big_quiet_op; refine hK _ ?_; clear hK K
          refine wpMix_pure (by kernel_rfl) (fun K hK => ?_); go_big_quiet_op; refine hK _ ?_; clear hK K
          refine wpMix_pure (by kernel_rfl) (fun K hK => ?_); go_big_quiet_op; refine hK _ ?_; clear hK K
          refine wpMix_pure (by kernel_rfl) (fun K hK => ?_); go_big_quiet_op; refine hK _ ?_; clear hK K
          refine wpMix_pure (by kernel_rfl) (fun K hK => ?_); go_big_quiet_op; refine hK _ ?_; clear hK K
          refine wpMix_pure (by kernel_rfl) (fun K hK => ?_); go_big_quiet_op; refine hK _ ?_; clear hK K
          refine wpMix_pure (by kernel_rfl) (fun K hK => ?_); go_big_quiet_op; refine hK _ ?_; clear hK K
          refine wpMix_pure (by kernel_rfl) (fun K hK => ?_); go_big_quiet_op; refine hK _ ?_; clear hK K
          refine wpMix_pure (by kernel_rfl) (fun K hK => ?_); go_big_quiet_op; refine hK _ ?_; clear hK K
          refine wpMix_pure (by kernel_rfl) (fun K hK => ?_); go_big_quiet_op; refine hK _ ?_; clear hK K
          by_cases hq40 : x.from_ + x.minutes ≤ x.until_
          · skip
            have e40 : decide (x.from_ + x.minutes ≤ x.until_) = true := by simpa using hq40
            refine wpMix_pure (by kernel_rfl) (fun K hK => ?_); go_big_quiet_op; refine hK _ ?_; clear hK K
            refine wpMix_pure (by kernel_rfl) (fun K hK => ?_); go_big_quiet_op; refine hK _ ?_; clear hK K
            refine wpMix_pure (by kernel_rfl) (fun K hK => ?_); go_big_quiet_op; refine hK _ ?_; clear hK K
            refine wpMix_pure (by kernel_rfl) (fun K hK => ?_); go_big_quiet_op; refine hK _ ?_; clear hK K
            refine wpMix_pure (by kernel_rfl) (fun K hK => ?_); go_big_quiet_op; refine hK _ ?_; clear hK K
            refine wpMix_pure (by kernel_rfl) (fun K hK => ?_); go_big_quiet_op; refine hK _ ?_; clear hK K
            refine wpMix_pure (by kernel_rfl) (fun K hK => ?_); go_big_quiet_op; refine hK _ ?_; clear hK K
            refine wpMix_act (by kernel_rfl) (fun K hK => ?_)
            go_big_op
            refine (l00InB_any _ _ _ _).mono ?_
            rintro e w' ⟨rfl, rfl⟩
            refine hK _ _ (regrown_of_below hS0) ?_
            clear hK K
            cases hq47 : inB x.gain 0 1000
            · skip
              refine wpMix_pure (by kernel_rfl) (fun K hK => ?_); go_big_quiet_op; refine hK _ ?_; clear hK K
              refine wpMix_pure (by kernel_rfl) (fun K hK => ?_); go_big_quiet_op; refine hK _ ?_; clear hK K
              refine wpMix_nil ?_
              go_wp2
              go_ret
              exact ⟨ret_bool (by simp [shotB, *]), hS0⟩
            · skip
              refine wpMix_pure (by kernel_rfl) (fun K hK => ?_); go_big_quiet_op; refine hK _ ?_; clear hK K
              refine wpMix_pure (by kernel_rfl) (fun K hK => ?_); go_big_quiet_op; refine hK _ ?_; clear hK K
              refine wpMix_nil ?_
              go_wp2
              go_ret
              exact ⟨ret_bool (by simp [shotB, *]), hS0⟩
          · skip
            have e40 : decide (x.from_ + x.minutes ≤ x.until_) = false := by simpa using hq40
            refine wpMix_pure (by kernel_rfl) (fun K hK => ?_); go_big_quiet_op; refine hK _ ?_; clear hK K
            refine wpMix_pure (by kernel_rfl) (fun K hK => ?_); go_big_quiet_op; refine hK _ ?_; clear hK K
            refine wpMix_pure (by kernel_rfl) (fun K hK => ?_); go_big_quiet_op; refine hK _ ?_; clear hK K
            refine wpMix_skip (by kernel_rfl) (fun K hK => ?_)
            simp only [Act.put, List.setIfInBounds_toArray, List.set_cons_zero, List.set_cons_succ]
            refine hK _ ?_; clear hK K
            refine wpMix_skip (by kernel_rfl) (fun K hK => ?_)
            simp only [Act.put, List.setIfInBounds_toArray, List.set_cons_zero, List.set_cons_succ]
            refine hK _ ?_; clear hK K
            refine wpMix_skip (by kernel_rfl) (fun K hK => ?_)
            simp only [Act.put, List.setIfInBounds_toArray, List.set_cons_zero, List.set_cons_succ]
            refine hK _ ?_; clear hK K
            refine wpMix_skip (by kernel_rfl) (fun K hK => ?_)
            simp only [Act.put, List.setIfInBounds_toArray, List.set_cons_zero, List.set_cons_succ]
            refine hK _ ?_; clear hK K
            refine wpMix_skip (by kernel_rfl) (fun K hK => ?_)
            simp only [Act.put, List.setIfInBounds_toArray, List.set_cons_zero, List.set_cons_succ]
            refine hK _ ?_; clear hK K
            refine wpMix_pure (by kernel_rfl) (fun K hK => ?_); go_big_quiet_op; refine hK _ ?_; clear hK K
            refine wpMix_pure (by kernel_rfl) (fun K hK => ?_); go_big_quiet_op; refine hK _ ?_; clear hK K
            refine wpMix_nil ?_
            go_wp2
            go_ret
            exact ⟨ret_bool (by simp [shotB, *]), hS0⟩
set_option maxRecDepth 100000 in
set_option maxHeartbeats 4000000 in
theorem validShot_any (x : DShot) (w : World) (hok : fShot.ok x) :
    Calls Tryz.prog 143 #[.agg #[.string x.id, .int .i64 x.from_, .int .i64 x.until_, .int .i64 x.minutes, .int .i64 x.gain]] w fun e w' => e = .returned (.bool (shotB x)) ∧ Below w.heap.size w w' := by
  have k1 : x.id.size ≤ 9223372036854775807 := by have := hok; first | exact this.1 | exact this
  clear hok
  by_cases hm : 240 < x.until_ - x.from_
  · have HV : Hid (shotB x = (nameB x.id && (inB x.from_ 0 1440 && (inB x.until_ 0 1440 && (inB x.minutes 1 240 && (inB x.gain 0 1000)))))) := by show _ = _; rw [shotB_eq, show min (x.until_ - x.from_) 240 = 240 from by omega]
    go_enter Tryz.func143, Tryz.ntmps143
    go_wp2_with fail
    refine (implIsName_any _ _ k1).mono ?_
    rintro e w' ⟨rfl, rfl⟩
    cases hq0 : nameB x.id
    · have HX : Hid (shotB x = false) := by show _ = _; rw [HV.out, hq0]; rfl
      go_wp2
      go_ret
      exact ⟨ret_bool HX.out.symm, (Below.refl _ _).alloc (Nat.le_refl _) _⟩
    · have HX : Hid (shotB x = (inB x.from_ 0 1440 && (inB x.until_ 0 1440 && (inB x.minutes 1 240 && (inB x.gain 0 1000))))) := by show _ = _; rw [HV.out, hq0]; rfl
      go_wp2_with fail
      refine (withinB_any _ _ _ _).mono ?_
      rintro e w' ⟨rfl, rfl⟩
      cases hq1 : inB x.from_ 0 1440
      · have HX : Hid (shotB x = false) := by show _ = _; rw [HV.out, hq0, hq1]; rfl
        go_wp2
        go_ret
        exact ⟨ret_bool HX.out.symm, (Below.refl _ _).alloc (Nat.le_refl _) _⟩
      · have HX : Hid (shotB x = (inB x.until_ 0 1440 && (inB x.minutes 1 240 && (inB x.gain 0 1000)))) := by show _ = _; rw [HV.out, hq0, hq1]; rfl
        have b1 := inB_true.1 hq1
        go_wp2_with fail
        refine (withinB_any _ _ _ _).mono ?_
        rintro e w' ⟨rfl, rfl⟩
        cases hq2 : inB x.until_ 0 1440
        · have HX : Hid (shotB x = false) := by show _ = _; rw [HV.out, hq0, hq1, hq2]; rfl
          go_wp2
          go_ret
          exact ⟨ret_bool HX.out.symm, (Below.refl _ _).alloc (Nat.le_refl _) _⟩
        · have HX : Hid (shotB x = (inB x.minutes 1 240 && (inB x.gain 0 1000))) := by show _ = _; rw [HV.out, hq0, hq1, hq2]; rfl
          have b2 := inB_true.1 hq2
          go_wp2_with fail
          refine (withinB_any _ _ _ _).mono ?_
          rintro e w' ⟨rfl, rfl⟩
          cases hq3 : inB x.minutes 1 240
          · have HX : Hid (shotB x = false) := by show _ = _; rw [HV.out, hq0, hq1, hq2, hq3]; rfl
            go_wp2
            go_ret
            exact ⟨ret_bool HX.out.symm, (Below.refl _ _).alloc (Nat.le_refl _) _⟩
          · have HX : Hid (shotB x = (inB x.gain 0 1000)) := by show _ = _; rw [HV.out, hq0, hq1, hq2, hq3]; rfl
            go_wp2_with fail
            refine (withinB_any _ _ _ _).mono ?_
            rintro e w' ⟨rfl, rfl⟩
            rw [← HX.out]
            go_wp2
            go_ret
            exact ⟨rfl, (Below.refl _ _).alloc (Nat.le_refl _) _⟩
  · have HV : Hid (shotB x = (nameB x.id && (inB x.from_ 0 1440 && (inB x.until_ 0 1440 && (inB x.minutes 1 (x.until_ - x.from_) && (inB x.gain 0 1000)))))) := by show _ = _; rw [shotB_eq, show min (x.until_ - x.from_) 240 = (x.until_ - x.from_) from by omega]
    go_enter Tryz.func143, Tryz.ntmps143
    go_wp2_with fail
    refine (implIsName_any _ _ k1).mono ?_
    rintro e w' ⟨rfl, rfl⟩
    cases hq0 : nameB x.id
    · have HX : Hid (shotB x = false) := by show _ = _; rw [HV.out, hq0]; rfl
      go_wp2
      go_ret
      exact ⟨ret_bool HX.out.symm, (Below.refl _ _).alloc (Nat.le_refl _) _⟩
    · have HX : Hid (shotB x = (inB x.from_ 0 1440 && (inB x.until_ 0 1440 && (inB x.minutes 1 (x.until_ - x.from_) && (inB x.gain 0 1000))))) := by show _ = _; rw [HV.out, hq0]; rfl
      go_wp2_with fail
      refine (withinB_any _ _ _ _).mono ?_
      rintro e w' ⟨rfl, rfl⟩
      cases hq1 : inB x.from_ 0 1440
      · have HX : Hid (shotB x = false) := by show _ = _; rw [HV.out, hq0, hq1]; rfl
        go_wp2
        go_ret
        exact ⟨ret_bool HX.out.symm, (Below.refl _ _).alloc (Nat.le_refl _) _⟩
      · have HX : Hid (shotB x = (inB x.until_ 0 1440 && (inB x.minutes 1 (x.until_ - x.from_) && (inB x.gain 0 1000)))) := by show _ = _; rw [HV.out, hq0, hq1]; rfl
        have b1 := inB_true.1 hq1
        go_wp2_with fail
        refine (withinB_any _ _ _ _).mono ?_
        rintro e w' ⟨rfl, rfl⟩
        cases hq2 : inB x.until_ 0 1440
        · have HX : Hid (shotB x = false) := by show _ = _; rw [HV.out, hq0, hq1, hq2]; rfl
          go_wp2
          go_ret
          exact ⟨ret_bool HX.out.symm, (Below.refl _ _).alloc (Nat.le_refl _) _⟩
        · have HX : Hid (shotB x = (inB x.minutes 1 (x.until_ - x.from_) && (inB x.gain 0 1000))) := by show _ = _; rw [HV.out, hq0, hq1, hq2]; rfl
          have b2 := inB_true.1 hq2
          go_wp2_with fail
          refine (withinB_any _ _ _ _).mono ?_
          rintro e w' ⟨rfl, rfl⟩
          cases hq3 : inB x.minutes 1 (x.until_ - x.from_)
          · have HX : Hid (shotB x = false) := by show _ = _; rw [HV.out, hq0, hq1, hq2, hq3]; rfl
            go_wp2
            go_ret
            exact ⟨ret_bool HX.out.symm, (Below.refl _ _).alloc (Nat.le_refl _) _⟩
          · have HX : Hid (shotB x = (inB x.gain 0 1000)) := by show _ = _; rw [HV.out, hq0, hq1, hq2, hq3]; rfl
            go_wp2_with fail
            refine (withinB_any _ _ _ _).mono ?_
            rintro e w' ⟨rfl, rfl⟩
            rw [← HX.out]
            go_wp2
            go_ret
            exact ⟨rfl, (Below.refl _ _).alloc (Nat.le_refl _) _⟩
end Go.Proofs.YtldigalncjhkeaaGreatDoor
