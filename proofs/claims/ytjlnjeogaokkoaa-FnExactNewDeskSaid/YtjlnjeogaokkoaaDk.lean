/- Desks: the data; the given helpers over it. Written by wip/gen/dk.py. -/
import Derived.Test.YtjlnjeogaokkoaaTObserved
import Derived.Test.YtjlnjeogaokkoaaTInt64
import Derived.Test.YtjlnjeogaokkoaaTTest
import Derived.Test.YtjlnjeogaokkoaaTStand
import Derived.Test.YtjlnjeogaokkoaaTPathPoint
import Derived.Test.YtjlnjeogaokkoaaTVerified
import Derived.Test.YtjlnjeogaokkoaaTShot
import Derived.Test.YtjlnjeogaokkoaaTGroup
import Derived.Test.YtjlnjeogaokkoaaTWatch
import Derived.Test.YtjlnjeogaokkoaaTIncident
import Derived.Test.YtjlnjeogaokkoaaColl
namespace Go.Proofs.Ytjlnjeogaokkoaa
open Go.RowKit
set_option linter.unusedVariables false

/-- The slices of a desk. -/
structure DVals where
  ob : Value
  ma : Value
  te : Value
  st : Value
  pa : Value
  zo : Value
  re : Value
  ve : Value
  sh : Value
  gr : Value
  wa : Value
  in_ : Value

structure DDesk where
  rows : Int
  columns : Int
  ob : List DObserved
  ma : List Int
  te : List DTest
  st : List DStand
  pa : List DPathPoint
  zo : List Int
  ve : List DVerified
  sh : List DShot
  gr : List DGroup
  wa : List DWatch
  in_ : List DIncident
def deskA (v : DVals) (x : DDesk) : Value := .agg #[v.ob, .int .i64 x.rows, .int .i64 x.columns, v.ma, v.te, v.st, v.pa, v.zo, v.re, v.ve, v.sh, v.gr, v.wa, v.in_]
/-- The desk's slices read as its lists. -/
structure DeskRd (w : World) (v : DVals) (x : DDesk) (F : Nat → List Nat) : Prop where
  ob : Sl fObserved.cod w v.ob x.ob (F 0)
  ma : Sl fInt.cod w v.ma x.ma (F 1)
  te : Sl fTest.cod w v.te x.te (F 2)
  st : Sl fStand.cod w v.st x.st (F 3)
  pa : Sl fPathPoint.cod w v.pa x.pa (F 4)
  zo : Sl fInt.cod w v.zo x.zo (F 5)
  re : Hid (v.re = .slice none 0 0)
  ve : Sl fVerified.cod w v.ve x.ve (F 7)
  sh : Sl fShot.cod w v.sh x.sh (F 8)
  gr : Sl fGroup.cod w v.gr x.gr (F 9)
  wa : Sl fWatch.cod w v.wa x.wa (F 10)
  in_ : Sl fIncident.cod w v.in_ x.in_ (F 11)
theorem DeskRd.below' {w w' : World} {v : DVals} {x : DDesk} {F : Nat → List Nat} (h : DeskRd w v x F) (hb : Below w.heap.size w w') : DeskRd w' v x F :=
  ⟨h.ob.below' hb, h.ma.below' hb, h.te.below' hb, h.st.below' hb, h.pa.below' hb, h.zo.below' hb, h.re, h.ve.below' hb, h.sh.below' hb, h.gr.below' hb, h.wa.below' hb, h.in_.below' hb⟩
/-- The slices are written as they are. -/
structure DeskSh (v : DVals) : Prop where
  ob : ∃ A n c, v.ob = .slice A n c
  ma : ∃ A n c, v.ma = .slice A n c
  te : ∃ A n c, v.te = .slice A n c
  st : ∃ A n c, v.st = .slice A n c
  pa : ∃ A n c, v.pa = .slice A n c
  zo : ∃ A n c, v.zo = .slice A n c
  re : ∃ A n c, v.re = .slice A n c
  ve : ∃ A n c, v.ve = .slice A n c
  sh : ∃ A n c, v.sh = .slice A n c
  gr : ∃ A n c, v.gr = .slice A n c
  wa : ∃ A n c, v.wa = .slice A n c
  in_ : ∃ A n c, v.in_ = .slice A n c
theorem DeskRd.shape {w : World} {v : DVals} {x : DDesk} {F : Nat → List Nat} (h : DeskRd w v x F) : DeskSh v :=
  ⟨(let ⟨A, c, e, _⟩ := h.ob.form; ⟨A, _, c, e⟩), (let ⟨A, c, e, _⟩ := h.ma.form; ⟨A, _, c, e⟩), (let ⟨A, c, e, _⟩ := h.te.form; ⟨A, _, c, e⟩), (let ⟨A, c, e, _⟩ := h.st.form; ⟨A, _, c, e⟩), (let ⟨A, c, e, _⟩ := h.pa.form; ⟨A, _, c, e⟩), (let ⟨A, c, e, _⟩ := h.zo.form; ⟨A, _, c, e⟩), ⟨_, _, _, h.re.out⟩, (let ⟨A, c, e, _⟩ := h.ve.form; ⟨A, _, c, e⟩), (let ⟨A, c, e, _⟩ := h.sh.form; ⟨A, _, c, e⟩), (let ⟨A, c, e, _⟩ := h.gr.form; ⟨A, _, c, e⟩), (let ⟨A, c, e, _⟩ := h.wa.form; ⟨A, _, c, e⟩), (let ⟨A, c, e, _⟩ := h.in_.form; ⟨A, _, c, e⟩)⟩
/-- A desk in a box. -/
structure DBox (w : World) (g : Nat) (v : DVals) (x : DDesk) : Prop where
  c0 : w.cell? ⟨g, 0, none⟩ = some (v.ob)
  c1 : w.cell? ⟨g, 1, none⟩ = some (.int .i64 x.rows)
  c2 : w.cell? ⟨g, 2, none⟩ = some (.int .i64 x.columns)
  c3 : w.cell? ⟨g, 3, none⟩ = some (v.ma)
  c4 : w.cell? ⟨g, 4, none⟩ = some (v.te)
  c5 : w.cell? ⟨g, 5, none⟩ = some (v.st)
  c6 : w.cell? ⟨g, 6, none⟩ = some (v.pa)
  c7 : w.cell? ⟨g, 7, none⟩ = some (v.zo)
  c8 : w.cell? ⟨g, 8, none⟩ = some (v.re)
  c9 : w.cell? ⟨g, 9, none⟩ = some (v.ve)
  c10 : w.cell? ⟨g, 10, none⟩ = some (v.sh)
  c11 : w.cell? ⟨g, 11, none⟩ = some (v.gr)
  c12 : w.cell? ⟨g, 12, none⟩ = some (v.wa)
  c13 : w.cell? ⟨g, 13, none⟩ = some (v.in_)
theorem DBox.below {w w' : World} {g B : Nat} {v : DVals} {x : DDesk} (h : DBox w g v x) (hb : Below B w w') (hg : g < B) : DBox w' g v x :=
  ⟨(hb.cell (p := ⟨g, _, none⟩) hg).trans h.c0, (hb.cell (p := ⟨g, _, none⟩) hg).trans h.c1, (hb.cell (p := ⟨g, _, none⟩) hg).trans h.c2, (hb.cell (p := ⟨g, _, none⟩) hg).trans h.c3, (hb.cell (p := ⟨g, _, none⟩) hg).trans h.c4, (hb.cell (p := ⟨g, _, none⟩) hg).trans h.c5, (hb.cell (p := ⟨g, _, none⟩) hg).trans h.c6, (hb.cell (p := ⟨g, _, none⟩) hg).trans h.c7, (hb.cell (p := ⟨g, _, none⟩) hg).trans h.c8, (hb.cell (p := ⟨g, _, none⟩) hg).trans h.c9, (hb.cell (p := ⟨g, _, none⟩) hg).trans h.c10, (hb.cell (p := ⟨g, _, none⟩) hg).trans h.c11, (hb.cell (p := ⟨g, _, none⟩) hg).trans h.c12, (hb.cell (p := ⟨g, _, none⟩) hg).trans h.c13⟩
theorem DBox.lt {w : World} {g : Nat} {v : DVals} {x : DDesk} (h : DBox w g v x) : g < w.heap.size := block_lt_of_cell h.c0
theorem DBox.below' {w w' : World} {g : Nat} {v : DVals} {x : DDesk} (h : DBox w g v x) (hb : Below w.heap.size w w') : DBox w' g v x := h.below hb h.lt
theorem DBox.only {w w' : World} {g : Nat} {v : DVals} {x : DDesk} {fp : List Nat} (h : DBox w g v x) (ho : Only fp w w') (hg : g ∉ fp) : DBox w' g v x :=
  ⟨(World.cell?_of_block (a := ⟨g, 0, none⟩) (ho.block g h.lt hg)).trans h.c0, (World.cell?_of_block (a := ⟨g, 1, none⟩) (ho.block g h.lt hg)).trans h.c1, (World.cell?_of_block (a := ⟨g, 2, none⟩) (ho.block g h.lt hg)).trans h.c2, (World.cell?_of_block (a := ⟨g, 3, none⟩) (ho.block g h.lt hg)).trans h.c3, (World.cell?_of_block (a := ⟨g, 4, none⟩) (ho.block g h.lt hg)).trans h.c4, (World.cell?_of_block (a := ⟨g, 5, none⟩) (ho.block g h.lt hg)).trans h.c5, (World.cell?_of_block (a := ⟨g, 6, none⟩) (ho.block g h.lt hg)).trans h.c6, (World.cell?_of_block (a := ⟨g, 7, none⟩) (ho.block g h.lt hg)).trans h.c7, (World.cell?_of_block (a := ⟨g, 8, none⟩) (ho.block g h.lt hg)).trans h.c8, (World.cell?_of_block (a := ⟨g, 9, none⟩) (ho.block g h.lt hg)).trans h.c9, (World.cell?_of_block (a := ⟨g, 10, none⟩) (ho.block g h.lt hg)).trans h.c10, (World.cell?_of_block (a := ⟨g, 11, none⟩) (ho.block g h.lt hg)).trans h.c11, (World.cell?_of_block (a := ⟨g, 12, none⟩) (ho.block g h.lt hg)).trans h.c12, (World.cell?_of_block (a := ⟨g, 13, none⟩) (ho.block g h.lt hg)).trans h.c13⟩
theorem DBox.new (w : World) (v : DVals) (x : DDesk) (T : TypeId) : DBox (w.alloc (.cells #[v.ob, .int .i64 x.rows, .int .i64 x.columns, v.ma, v.te, v.st, v.pa, v.zo, v.re, v.ve, v.sh, v.gr, v.wa, v.in_] T)) w.heap.size v x := by
  constructor <;> simp
theorem Sl.nilD {α : Type} (E : Cod α) (w : World) : Sl E w (.slice none 0 0) ([] : List α) [] := ⟨none, 0, rfl, by simp, by simp [maxLen], .inl ⟨rfl, rfl⟩⟩
set_option maxRecDepth 100000 in
set_option maxHeartbeats 400000 in
theorem eqRegionS_nil (w : World) : Calls Try.prog 40 #[.slice none 0 0, .slice none 0 0] w fun e w' => YesR w e w' := by
  go_enter Try.func40, Try.ntmps40
  go_wp2
  go_loop [5] (fun i => i = .int .i64 0) (fun _ => 0)
  case atStart => rfl
  case round =>
    subst hrel
    go_wp2
    go_ret
    exact ⟨rfl, Below.refl _ _⟩
set_option maxRecDepth 100000 in
set_option maxHeartbeats 400000 in
theorem markRegionS_nil (k : Int) (w : World) : Calls Try.prog 52 #[.slice none 0 0, .int .i64 k] w fun e w' => e = .returned (.int .i64 k) ∧ Below w.heap.size w w' := by
  go_enter Try.func52, Try.ntmps52
  go_wp2
  go_loop [1, 5] (fun n i => i = .int .i64 0 ∧ n = .int .i64 k) (fun _ _ => 0)
  case atStart => exact ⟨rfl, rfl⟩
  case round =>
    obtain ⟨rfl, rfl⟩ := hrel
    go_wp2
    go_ret
    exact ⟨rfl, Below.refl _ _⟩
set_option maxRecDepth 100000 in
set_option maxHeartbeats 400000 in
theorem heldRegionS_nil (k : Int) (w : World) : Calls Try.prog 64 #[.slice none 0 0, .int .i64 k] w fun e w' => e = .returned (.int .i64 k) ∧ Below w.heap.size w w' := by
  go_enter Try.func64, Try.ntmps64
  go_wp2
  go_loop [1, 5] (fun n i => i = .int .i64 0 ∧ n = .int .i64 k) (fun _ _ => 0)
  case atStart => exact ⟨rfl, rfl⟩
  case round =>
    obtain ⟨rfl, rfl⟩ := hrel
    go_wp2
    go_ret
    exact ⟨rfl, Below.refl _ _⟩
set_option maxRecDepth 100000 in
set_option maxHeartbeats 2000000 in
theorem eqField_any (r c : Int) (v v' : Value) (xs : List Int) (fp fp' : List Nat) (w : World) (hx : Sl fInt.cod w v xs fp) (hy : Sl fInt.cod w v' xs fp') :
    Calls Try.prog 35 #[.agg #[.int .i64 r, .int .i64 c, v], .agg #[.int .i64 r, .int .i64 c, v']] w fun e w' => YesR w e w' := by
  obtain ⟨A, cap, rfl, hlen, hcap⟩ := hx.form
  obtain ⟨A', cap', rfl, hlen', hcap'⟩ := hy.form
  have hB : Below w.heap.size w ((w.alloc (.cells #[.int .i64 r, .int .i64 c, .slice A xs.length cap] 25)).alloc (.cells #[.int .i64 r, .int .i64 c, .slice A' xs.length cap'] 25)) := ((Below.refl _ _).alloc (Nat.le_refl _) _).alloc (by simp) _
  have hx2 := hx.below' hB
  have hy2 := hy.below' hB
  go_enter Try.func35, Try.ntmps35
  go_wp2_with fail
  refine (eqInt64S_any _ _ _ _ _ _ hx2 hy2).mono ?_
  rintro e w1 ⟨rfl, hb⟩
  go_wp2
  go_ret
  exact ⟨rfl, hB.trans (hb.mono hB.size)⟩
set_option maxRecDepth 100000 in
set_option maxHeartbeats 2000000 in
theorem markField_any (r c : Int) (v : Value) (xs : List Int) (fp : List Nat) (k0 : Int) (w : World) (hx : Sl fInt.cod w v xs fp) (h0 : 0 ≤ k0) (h1 : k0 + 1 * (xs.length : Int) ≤ 1000000000000) :
    Calls Try.prog 47 #[.agg #[.int .i64 r, .int .i64 c, v], .int .i64 k0] w fun e w' => MarkR fInt.cod fp w (k0 + 1 * (xs.length : Int)) v (marksInt64 k0 xs.length) e w' := by
  obtain ⟨A, cap, rfl, hlen, hcap⟩ := hx.form
  have hB : Below w.heap.size w (w.alloc (.cells #[.int .i64 r, .int .i64 c, .slice A xs.length cap] 25)) := (Below.refl _ _).alloc (Nat.le_refl _) _
  have hx2 := hx.below' hB
  go_enter Try.func47, Try.ntmps47
  go_wp2_with fail
  refine (markInt64S_any _ _ _ _ _ hx2 h0 h1).mono ?_
  rintro e w1 ⟨rfl, hm, ho⟩
  go_wp2
  go_ret
  exact ⟨ret_int (by omega), hm, (Only.of_below hB).trans ho⟩
set_option maxRecDepth 100000 in
set_option maxHeartbeats 2000000 in
theorem heldField_any (r c : Int) (v : Value) (n0 : Nat) (fp : List Nat) (k0 : Int) (w : World) (hx : Sl fInt.cod w v (marksInt64 k0 n0) fp) (h0 : 0 ≤ k0) (h1 : k0 + 1 * (n0 : Int) ≤ 1000000000000) :
    Calls Try.prog 59 #[.agg #[.int .i64 r, .int .i64 c, v], .int .i64 k0] w fun e w' => e = .returned (.int .i64 (k0 + 1 * (n0 : Int))) ∧ Below w.heap.size w w' := by
  obtain ⟨A, cap, rfl, hlen, hcap⟩ := hx.form
  have hB : Below w.heap.size w (w.alloc (.cells #[.int .i64 r, .int .i64 c, .slice A (marksInt64 k0 n0).length cap] 25)) := (Below.refl _ _).alloc (Nat.le_refl _) _
  have hx2 := hx.below' hB
  go_enter Try.func59, Try.ntmps59
  go_wp2_with fail
  refine (heldInt64S_any _ _ _ _ _ hx2 h0 h1).mono ?_
  rintro e w1 ⟨rfl, hb⟩
  have hB2 := hB.trans (hb.mono hB.size)
  go_wp2
  go_ret
  exact ⟨ret_int (by omega), hB2⟩
set_option maxRecDepth 100000 in
set_option maxHeartbeats 8000000 in
theorem eqDesk_any (x : DDesk) (va vb : DVals) (Fa Fb : Nat → List Nat) (w : World) (ha : DeskRd w va x Fa) (hb : DeskRd w vb x Fb) :
    Calls Try.prog 9 #[deskA va x, deskA vb x] w fun e w' => YesR w e w' := by
  have hB0 : Below w.heap.size w (w.alloc (.cells #[va.ob, .int .i64 x.rows, .int .i64 x.columns, va.ma, va.te, va.st, va.pa, va.zo, va.re, va.ve, va.sh, va.gr, va.wa, va.in_] 36)) := (Below.refl _ _).alloc (Nat.le_refl _) _
  have hB : Below w.heap.size w ((w.alloc (.cells #[va.ob, .int .i64 x.rows, .int .i64 x.columns, va.ma, va.te, va.st, va.pa, va.zo, va.re, va.ve, va.sh, va.gr, va.wa, va.in_] 36)).alloc (.cells #[vb.ob, .int .i64 x.rows, .int .i64 x.columns, vb.ma, vb.te, vb.st, vb.pa, vb.zo, vb.re, vb.ve, vb.sh, vb.gr, vb.wa, vb.in_] 36)) := hB0.alloc (by simp) _
  have pa := (DBox.new w va x 36).below' ((Below.refl _ _).alloc (Nat.le_refl _) (.cells #[vb.ob, .int .i64 x.rows, .int .i64 x.columns, vb.ma, vb.te, vb.st, vb.pa, vb.zo, vb.re, vb.ve, vb.sh, vb.gr, vb.wa, vb.in_] 36))
  have pb := DBox.new (w.alloc (.cells #[va.ob, .int .i64 x.rows, .int .i64 x.columns, va.ma, va.te, va.st, va.pa, va.zo, va.re, va.ve, va.sh, va.gr, va.wa, va.in_] 36)) vb x 36
  rw [World.size_alloc] at pb
  replace ha := ha.below' hB
  replace hb := hb.below' hB
  clear hB0
  unfold deskA
  go_enter Try.func9, Try.ntmps9
  go_wp2_with fail
  refine (eqObservedS_any _ _ _ _ _ _ ha.ob hb.ob).mono ?_
  rintro e W0 ⟨rfl, hbn⟩
  replace ha := ha.below' hbn
  replace hb := hb.below' hbn
  replace pa := pa.below' hbn
  replace pb := pb.below' hbn
  replace hB := hB.trans (hbn.mono hB.size)
  clear hbn
  have ca1 := pa.c1
  have cb1 := pb.c1
  have ca2 := pa.c2
  have cb2 := pb.c2
  have ca3 := pa.c3
  have cb3 := pb.c3
  go_wp2_with fail
  refine (eqField_any _ _ _ _ _ _ _ _ ha.ma hb.ma).mono ?_
  rintro e W1 ⟨rfl, hbn⟩
  replace ha := ha.below' hbn
  replace hb := hb.below' hbn
  replace pa := pa.below' hbn
  replace pb := pb.below' hbn
  replace hB := hB.trans (hbn.mono hB.size)
  clear hbn ca1 cb1 ca2 cb2 ca3 cb3
  have ca4 := pa.c4
  have cb4 := pb.c4
  go_wp2_with fail
  refine (eqTestS_any _ _ _ _ _ _ ha.te hb.te).mono ?_
  rintro e W2 ⟨rfl, hbn⟩
  replace ha := ha.below' hbn
  replace hb := hb.below' hbn
  replace pa := pa.below' hbn
  replace pb := pb.below' hbn
  replace hB := hB.trans (hbn.mono hB.size)
  clear hbn ca4 cb4
  have ca5 := pa.c5
  have cb5 := pb.c5
  go_wp2_with fail
  refine (eqStandS_any _ _ _ _ _ _ ha.st hb.st).mono ?_
  rintro e W3 ⟨rfl, hbn⟩
  replace ha := ha.below' hbn
  replace hb := hb.below' hbn
  replace pa := pa.below' hbn
  replace pb := pb.below' hbn
  replace hB := hB.trans (hbn.mono hB.size)
  clear hbn ca5 cb5
  have ca6 := pa.c6
  have cb6 := pb.c6
  go_wp2_with fail
  refine (eqPathPointS_any _ _ _ _ _ _ ha.pa hb.pa).mono ?_
  rintro e W4 ⟨rfl, hbn⟩
  replace ha := ha.below' hbn
  replace hb := hb.below' hbn
  replace pa := pa.below' hbn
  replace pb := pb.below' hbn
  replace hB := hB.trans (hbn.mono hB.size)
  clear hbn ca6 cb6
  have ca7 := pa.c7
  have cb7 := pb.c7
  go_wp2_with fail
  refine (eqInt64S_any _ _ _ _ _ _ ha.zo hb.zo).mono ?_
  rintro e W5 ⟨rfl, hbn⟩
  replace ha := ha.below' hbn
  replace hb := hb.below' hbn
  replace pa := pa.below' hbn
  replace pb := pb.below' hbn
  replace hB := hB.trans (hbn.mono hB.size)
  clear hbn ca7 cb7
  have ca8 := pa.c8
  have cb8 := pb.c8
  go_wp2_with fail
  rw [ha.re.out, hb.re.out]
  refine (eqRegionS_nil _).mono ?_
  rintro e W6 ⟨rfl, hbn⟩
  replace ha := ha.below' hbn
  replace hb := hb.below' hbn
  replace pa := pa.below' hbn
  replace pb := pb.below' hbn
  replace hB := hB.trans (hbn.mono hB.size)
  clear hbn ca8 cb8
  have ca9 := pa.c9
  have cb9 := pb.c9
  go_wp2_with fail
  refine (eqVerifiedS_any _ _ _ _ _ _ ha.ve hb.ve).mono ?_
  rintro e W7 ⟨rfl, hbn⟩
  replace ha := ha.below' hbn
  replace hb := hb.below' hbn
  replace pa := pa.below' hbn
  replace pb := pb.below' hbn
  replace hB := hB.trans (hbn.mono hB.size)
  clear hbn ca9 cb9
  have ca10 := pa.c10
  have cb10 := pb.c10
  go_wp2_with fail
  refine (eqShotS_any _ _ _ _ _ _ ha.sh hb.sh).mono ?_
  rintro e W8 ⟨rfl, hbn⟩
  replace ha := ha.below' hbn
  replace hb := hb.below' hbn
  replace pa := pa.below' hbn
  replace pb := pb.below' hbn
  replace hB := hB.trans (hbn.mono hB.size)
  clear hbn ca10 cb10
  have ca11 := pa.c11
  have cb11 := pb.c11
  go_wp2_with fail
  refine (eqGroupS_any _ _ _ _ _ _ ha.gr hb.gr).mono ?_
  rintro e W9 ⟨rfl, hbn⟩
  replace ha := ha.below' hbn
  replace hb := hb.below' hbn
  replace pa := pa.below' hbn
  replace pb := pb.below' hbn
  replace hB := hB.trans (hbn.mono hB.size)
  clear hbn ca11 cb11
  have ca12 := pa.c12
  have cb12 := pb.c12
  go_wp2_with fail
  refine (eqWatchS_any _ _ _ _ _ _ ha.wa hb.wa).mono ?_
  rintro e W10 ⟨rfl, hbn⟩
  replace ha := ha.below' hbn
  replace hb := hb.below' hbn
  replace pa := pa.below' hbn
  replace pb := pb.below' hbn
  replace hB := hB.trans (hbn.mono hB.size)
  clear hbn ca12 cb12
  have ca13 := pa.c13
  have cb13 := pb.c13
  go_wp2_with fail
  refine (eqIncidentS_any _ _ _ _ _ _ ha.in_ hb.in_).mono ?_
  rintro e W11 ⟨rfl, hbn⟩
  replace ha := ha.below' hbn
  replace hb := hb.below' hbn
  replace pa := pa.below' hbn
  replace pb := pb.below' hbn
  replace hB := hB.trans (hbn.mono hB.size)
  clear hbn ca13 cb13
  go_wp2
  go_ret
  exact ⟨rfl, hB⟩
/-- Lists that bear the marks from k on. -/
structure Marked (y : DDesk) (k K : Int) where
  n0 : Nat
  n1 : Nat
  n2 : Nat
  n3 : Nat
  n4 : Nat
  n5 : Nat
  n6 : Nat
  n7 : Nat
  n8 : Nat
  n9 : Nat
  n10 : Nat
  h0 : y.ob = marksObserved k n0
  h1 : y.ma = marksInt64 (k + 4 * (n0 : Int)) n1
  h2 : y.te = marksTest ((k + 4 * (n0 : Int)) + (n1 : Int)) n2
  h3 : y.st = marksStand (((k + 4 * (n0 : Int)) + (n1 : Int)) + 5 * (n2 : Int)) n3
  h4 : y.pa = marksPathPoint ((((k + 4 * (n0 : Int)) + (n1 : Int)) + 5 * (n2 : Int)) + 5 * (n3 : Int)) n4
  h5 : y.zo = marksInt64 (((((k + 4 * (n0 : Int)) + (n1 : Int)) + 5 * (n2 : Int)) + 5 * (n3 : Int)) + 2 * (n4 : Int)) n5
  h6 : y.ve = marksVerified ((((((k + 4 * (n0 : Int)) + (n1 : Int)) + 5 * (n2 : Int)) + 5 * (n3 : Int)) + 2 * (n4 : Int)) + (n5 : Int)) n6
  h7 : y.sh = marksShot (((((((k + 4 * (n0 : Int)) + (n1 : Int)) + 5 * (n2 : Int)) + 5 * (n3 : Int)) + 2 * (n4 : Int)) + (n5 : Int)) + 3 * (n6 : Int)) n7
  h8 : y.gr = marksGroup ((((((((k + 4 * (n0 : Int)) + (n1 : Int)) + 5 * (n2 : Int)) + 5 * (n3 : Int)) + 2 * (n4 : Int)) + (n5 : Int)) + 3 * (n6 : Int)) + 5 * (n7 : Int)) n8
  h9 : y.wa = marksWatch (((((((((k + 4 * (n0 : Int)) + (n1 : Int)) + 5 * (n2 : Int)) + 5 * (n3 : Int)) + 2 * (n4 : Int)) + (n5 : Int)) + 3 * (n6 : Int)) + 5 * (n7 : Int)) + 7 * (n8 : Int)) n9
  h10 : y.in_ = marksIncident ((((((((((k + 4 * (n0 : Int)) + (n1 : Int)) + 5 * (n2 : Int)) + 5 * (n3 : Int)) + 2 * (n4 : Int)) + (n5 : Int)) + 3 * (n6 : Int)) + 5 * (n7 : Int)) + 7 * (n8 : Int)) + 4 * (n9 : Int)) n10
  last : K = (((((((((((k + 4 * (n0 : Int)) + (n1 : Int)) + 5 * (n2 : Int)) + 5 * (n3 : Int)) + 2 * (n4 : Int)) + (n5 : Int)) + 3 * (n6 : Int)) + 5 * (n7 : Int)) + 7 * (n8 : Int)) + 4 * (n9 : Int)) + 6 * (n10 : Int))
  b0 : n0 ≤ 1000000
  b1 : n1 ≤ 1000000
  b2 : n2 ≤ 1000000
  b3 : n3 ≤ 1000000
  b4 : n4 ≤ 1000000
  b5 : n5 ≤ 1000000
  b6 : n6 ≤ 1000000
  b7 : n7 ≤ 1000000
  b8 : n8 ≤ 1000000
  b9 : n9 ≤ 1000000
  b10 : n10 ≤ 1000000
def MarkDR (v : DVals) (x : DDesk) (F : Nat → List Nat) (k : Int) (w : World) (e : Ending) (w' : World) : Prop := ∃ y K, e = .returned (.int .i64 K) ∧ Nonempty (Marked y k K) ∧ y.rows = x.rows ∧ y.columns = x.columns ∧ DeskRd w' v y F ∧ Only ((List.range 12).flatMap F) w w'
theorem only_of {F : Nat → List Nat} {a b : World} {i : Nat} (h : Only (F i) a b) (hi : i < 12) : Only ((List.range 12).flatMap F) a b := ⟨h.os, h.tape, h.output, h.size, fun k hk hn => h.block k hk (fun hm => hn (List.mem_flatMap.2 ⟨i, by simpa using hi, hm⟩))⟩
set_option maxRecDepth 100000 in
set_option maxHeartbeats 8000000 in
theorem markDesk_any (x : DDesk) (v : DVals) (F : Nat → List Nat) (k : Int) (w : World) (hx : DeskRd w v x F) (hap : ∀ i j, i < 12 → j < 12 → i ≠ j → ∀ b ∈ F i, b ∉ F j) (h6 : F 6 = []) (h0 : 0 ≤ k) (h1 : k ≤ 1000000) (hl : x.ob.length ≤ 1000000 ∧ x.ma.length ≤ 1000000 ∧ x.te.length ≤ 1000000 ∧ x.st.length ≤ 1000000 ∧ x.pa.length ≤ 1000000 ∧ x.zo.length ≤ 1000000 ∧ x.ve.length ≤ 1000000 ∧ x.sh.length ≤ 1000000 ∧ x.gr.length ≤ 1000000 ∧ x.wa.length ≤ 1000000 ∧ x.in_.length ≤ 1000000) :
    Calls Try.prog 10 #[deskA v x, .int .i64 k] w fun e w' => MarkDR v x F k w e w' := by
  obtain ⟨l0, l1, l2, l3, l4, l5, l6, l7, l8, l9, l10⟩ := hl
  have hlt : ∀ i, i < 12 → ∀ b ∈ F i, b < w.heap.size := fun i hi => match i, hi with
    | 0, _ => hx.ob.lt
    | 1, _ => hx.ma.lt
    | 2, _ => hx.te.lt
    | 3, _ => hx.st.lt
    | 4, _ => hx.pa.lt
    | 5, _ => hx.zo.lt
    | 6, _ => by rw [h6]; simp
    | 7, _ => hx.ve.lt
    | 8, _ => hx.sh.lt
    | 9, _ => hx.gr.lt
    | 10, _ => hx.wa.lt
    | 11, _ => hx.in_.lt
  have hB : Below w.heap.size w (w.alloc (.cells #[v.ob, .int .i64 x.rows, .int .i64 x.columns, v.ma, v.te, v.st, v.pa, v.zo, v.re, v.ve, v.sh, v.gr, v.wa, v.in_] 36)) := (Below.refl _ _).alloc (Nat.le_refl _) _
  have pa := DBox.new w v x 36
  have hgn : ∀ i, i < 12 → w.heap.size ∉ F i := fun i hi hm => Nat.lt_irrefl _ (hlt i hi _ hm)
  have HO : Only ((List.range 12).flatMap F) w (w.alloc (.cells #[v.ob, .int .i64 x.rows, .int .i64 x.columns, v.ma, v.te, v.st, v.pa, v.zo, v.re, v.ve, v.sh, v.gr, v.wa, v.in_] 36)) := Only.of_below hB
  replace hx := hx.below' hB
  obtain ⟨x_ob, x_ma, x_te, x_st, x_pa, x_zo, x_re, x_ve, x_sh, x_gr, x_wa, x_in_⟩ := hx
  clear hB hlt
  unfold deskA
  go_enter Try.func10, Try.ntmps10
  go_wp2_with fail
  refine (markObservedS_any _ _ _ _ _ x_ob (by omega) (by omega)).mono ?_
  rintro e W0 ⟨rfl, hmk, hon⟩
  replace x_ma := x_ma.only hon (hap 1 0 (by decide) (by decide) (by decide))
  replace x_te := x_te.only hon (hap 2 0 (by decide) (by decide) (by decide))
  replace x_st := x_st.only hon (hap 3 0 (by decide) (by decide) (by decide))
  replace x_pa := x_pa.only hon (hap 4 0 (by decide) (by decide) (by decide))
  replace x_zo := x_zo.only hon (hap 5 0 (by decide) (by decide) (by decide))
  replace x_ve := x_ve.only hon (hap 7 0 (by decide) (by decide) (by decide))
  replace x_sh := x_sh.only hon (hap 8 0 (by decide) (by decide) (by decide))
  replace x_gr := x_gr.only hon (hap 9 0 (by decide) (by decide) (by decide))
  replace x_wa := x_wa.only hon (hap 10 0 (by decide) (by decide) (by decide))
  replace x_in_ := x_in_.only hon (hap 11 0 (by decide) (by decide) (by decide))
  replace x_ob := hmk
  replace pa := pa.only hon (hgn 0 (by decide))
  replace HO := HO.trans (only_of hon (by decide))
  clear hmk hon
  have ca1 := pa.c1
  have ca2 := pa.c2
  have ca3 := pa.c3
  go_wp2_with fail
  refine (markField_any _ _ _ _ _ _ _ x_ma (by omega) (by omega)).mono ?_
  rintro e W1 ⟨rfl, hmk, hon⟩
  replace x_ob := x_ob.only hon (hap 0 1 (by decide) (by decide) (by decide))
  replace x_te := x_te.only hon (hap 2 1 (by decide) (by decide) (by decide))
  replace x_st := x_st.only hon (hap 3 1 (by decide) (by decide) (by decide))
  replace x_pa := x_pa.only hon (hap 4 1 (by decide) (by decide) (by decide))
  replace x_zo := x_zo.only hon (hap 5 1 (by decide) (by decide) (by decide))
  replace x_ve := x_ve.only hon (hap 7 1 (by decide) (by decide) (by decide))
  replace x_sh := x_sh.only hon (hap 8 1 (by decide) (by decide) (by decide))
  replace x_gr := x_gr.only hon (hap 9 1 (by decide) (by decide) (by decide))
  replace x_wa := x_wa.only hon (hap 10 1 (by decide) (by decide) (by decide))
  replace x_in_ := x_in_.only hon (hap 11 1 (by decide) (by decide) (by decide))
  replace x_ma := hmk
  replace pa := pa.only hon (hgn 1 (by decide))
  replace HO := HO.trans (only_of hon (by decide))
  clear hmk hon ca1 ca2 ca3
  have ca4 := pa.c4
  go_wp2_with fail
  refine (markTestS_any _ _ _ _ _ x_te (by omega) (by omega)).mono ?_
  rintro e W2 ⟨rfl, hmk, hon⟩
  replace x_ob := x_ob.only hon (hap 0 2 (by decide) (by decide) (by decide))
  replace x_ma := x_ma.only hon (hap 1 2 (by decide) (by decide) (by decide))
  replace x_st := x_st.only hon (hap 3 2 (by decide) (by decide) (by decide))
  replace x_pa := x_pa.only hon (hap 4 2 (by decide) (by decide) (by decide))
  replace x_zo := x_zo.only hon (hap 5 2 (by decide) (by decide) (by decide))
  replace x_ve := x_ve.only hon (hap 7 2 (by decide) (by decide) (by decide))
  replace x_sh := x_sh.only hon (hap 8 2 (by decide) (by decide) (by decide))
  replace x_gr := x_gr.only hon (hap 9 2 (by decide) (by decide) (by decide))
  replace x_wa := x_wa.only hon (hap 10 2 (by decide) (by decide) (by decide))
  replace x_in_ := x_in_.only hon (hap 11 2 (by decide) (by decide) (by decide))
  replace x_te := hmk
  replace pa := pa.only hon (hgn 2 (by decide))
  replace HO := HO.trans (only_of hon (by decide))
  clear hmk hon ca4
  have ca5 := pa.c5
  go_wp2_with fail
  refine (markStandS_any _ _ _ _ _ x_st (by omega) (by omega)).mono ?_
  rintro e W3 ⟨rfl, hmk, hon⟩
  replace x_ob := x_ob.only hon (hap 0 3 (by decide) (by decide) (by decide))
  replace x_ma := x_ma.only hon (hap 1 3 (by decide) (by decide) (by decide))
  replace x_te := x_te.only hon (hap 2 3 (by decide) (by decide) (by decide))
  replace x_pa := x_pa.only hon (hap 4 3 (by decide) (by decide) (by decide))
  replace x_zo := x_zo.only hon (hap 5 3 (by decide) (by decide) (by decide))
  replace x_ve := x_ve.only hon (hap 7 3 (by decide) (by decide) (by decide))
  replace x_sh := x_sh.only hon (hap 8 3 (by decide) (by decide) (by decide))
  replace x_gr := x_gr.only hon (hap 9 3 (by decide) (by decide) (by decide))
  replace x_wa := x_wa.only hon (hap 10 3 (by decide) (by decide) (by decide))
  replace x_in_ := x_in_.only hon (hap 11 3 (by decide) (by decide) (by decide))
  replace x_st := hmk
  replace pa := pa.only hon (hgn 3 (by decide))
  replace HO := HO.trans (only_of hon (by decide))
  clear hmk hon ca5
  have ca6 := pa.c6
  go_wp2_with fail
  refine (markPathPointS_any _ _ _ _ _ x_pa (by omega) (by omega)).mono ?_
  rintro e W4 ⟨rfl, hmk, hon⟩
  replace x_ob := x_ob.only hon (hap 0 4 (by decide) (by decide) (by decide))
  replace x_ma := x_ma.only hon (hap 1 4 (by decide) (by decide) (by decide))
  replace x_te := x_te.only hon (hap 2 4 (by decide) (by decide) (by decide))
  replace x_st := x_st.only hon (hap 3 4 (by decide) (by decide) (by decide))
  replace x_zo := x_zo.only hon (hap 5 4 (by decide) (by decide) (by decide))
  replace x_ve := x_ve.only hon (hap 7 4 (by decide) (by decide) (by decide))
  replace x_sh := x_sh.only hon (hap 8 4 (by decide) (by decide) (by decide))
  replace x_gr := x_gr.only hon (hap 9 4 (by decide) (by decide) (by decide))
  replace x_wa := x_wa.only hon (hap 10 4 (by decide) (by decide) (by decide))
  replace x_in_ := x_in_.only hon (hap 11 4 (by decide) (by decide) (by decide))
  replace x_pa := hmk
  replace pa := pa.only hon (hgn 4 (by decide))
  replace HO := HO.trans (only_of hon (by decide))
  clear hmk hon ca6
  have ca7 := pa.c7
  go_wp2_with fail
  refine (markInt64S_any _ _ _ _ _ x_zo (by omega) (by omega)).mono ?_
  rintro e W5 ⟨rfl, hmk, hon⟩
  replace x_ob := x_ob.only hon (hap 0 5 (by decide) (by decide) (by decide))
  replace x_ma := x_ma.only hon (hap 1 5 (by decide) (by decide) (by decide))
  replace x_te := x_te.only hon (hap 2 5 (by decide) (by decide) (by decide))
  replace x_st := x_st.only hon (hap 3 5 (by decide) (by decide) (by decide))
  replace x_pa := x_pa.only hon (hap 4 5 (by decide) (by decide) (by decide))
  replace x_ve := x_ve.only hon (hap 7 5 (by decide) (by decide) (by decide))
  replace x_sh := x_sh.only hon (hap 8 5 (by decide) (by decide) (by decide))
  replace x_gr := x_gr.only hon (hap 9 5 (by decide) (by decide) (by decide))
  replace x_wa := x_wa.only hon (hap 10 5 (by decide) (by decide) (by decide))
  replace x_in_ := x_in_.only hon (hap 11 5 (by decide) (by decide) (by decide))
  replace x_zo := hmk
  replace pa := pa.only hon (hgn 5 (by decide))
  replace HO := HO.trans (only_of hon (by decide))
  clear hmk hon ca7
  have ca8 := pa.c8
  go_wp2_with fail
  rw [x_re.out]
  refine (markRegionS_nil _ _).mono ?_
  rintro e W6 ⟨rfl, hbn⟩
  replace x_ob := x_ob.below' hbn
  replace x_ma := x_ma.below' hbn
  replace x_te := x_te.below' hbn
  replace x_st := x_st.below' hbn
  replace x_pa := x_pa.below' hbn
  replace x_zo := x_zo.below' hbn
  replace x_ve := x_ve.below' hbn
  replace x_sh := x_sh.below' hbn
  replace x_gr := x_gr.below' hbn
  replace x_wa := x_wa.below' hbn
  replace x_in_ := x_in_.below' hbn
  replace pa := pa.below' hbn
  replace HO := HO.trans (Only.of_below hbn)
  clear hbn ca8
  have ca9 := pa.c9
  go_wp2_with fail
  refine (markVerifiedS_any _ _ _ _ _ x_ve (by omega) (by omega)).mono ?_
  rintro e W7 ⟨rfl, hmk, hon⟩
  replace x_ob := x_ob.only hon (hap 0 7 (by decide) (by decide) (by decide))
  replace x_ma := x_ma.only hon (hap 1 7 (by decide) (by decide) (by decide))
  replace x_te := x_te.only hon (hap 2 7 (by decide) (by decide) (by decide))
  replace x_st := x_st.only hon (hap 3 7 (by decide) (by decide) (by decide))
  replace x_pa := x_pa.only hon (hap 4 7 (by decide) (by decide) (by decide))
  replace x_zo := x_zo.only hon (hap 5 7 (by decide) (by decide) (by decide))
  replace x_sh := x_sh.only hon (hap 8 7 (by decide) (by decide) (by decide))
  replace x_gr := x_gr.only hon (hap 9 7 (by decide) (by decide) (by decide))
  replace x_wa := x_wa.only hon (hap 10 7 (by decide) (by decide) (by decide))
  replace x_in_ := x_in_.only hon (hap 11 7 (by decide) (by decide) (by decide))
  replace x_ve := hmk
  replace pa := pa.only hon (hgn 7 (by decide))
  replace HO := HO.trans (only_of hon (by decide))
  clear hmk hon ca9
  have ca10 := pa.c10
  go_wp2_with fail
  refine (markShotS_any _ _ _ _ _ x_sh (by omega) (by omega)).mono ?_
  rintro e W8 ⟨rfl, hmk, hon⟩
  replace x_ob := x_ob.only hon (hap 0 8 (by decide) (by decide) (by decide))
  replace x_ma := x_ma.only hon (hap 1 8 (by decide) (by decide) (by decide))
  replace x_te := x_te.only hon (hap 2 8 (by decide) (by decide) (by decide))
  replace x_st := x_st.only hon (hap 3 8 (by decide) (by decide) (by decide))
  replace x_pa := x_pa.only hon (hap 4 8 (by decide) (by decide) (by decide))
  replace x_zo := x_zo.only hon (hap 5 8 (by decide) (by decide) (by decide))
  replace x_ve := x_ve.only hon (hap 7 8 (by decide) (by decide) (by decide))
  replace x_gr := x_gr.only hon (hap 9 8 (by decide) (by decide) (by decide))
  replace x_wa := x_wa.only hon (hap 10 8 (by decide) (by decide) (by decide))
  replace x_in_ := x_in_.only hon (hap 11 8 (by decide) (by decide) (by decide))
  replace x_sh := hmk
  replace pa := pa.only hon (hgn 8 (by decide))
  replace HO := HO.trans (only_of hon (by decide))
  clear hmk hon ca10
  have ca11 := pa.c11
  go_wp2_with fail
  refine (markGroupS_any _ _ _ _ _ x_gr (by omega) (by omega)).mono ?_
  rintro e W9 ⟨rfl, hmk, hon⟩
  replace x_ob := x_ob.only hon (hap 0 9 (by decide) (by decide) (by decide))
  replace x_ma := x_ma.only hon (hap 1 9 (by decide) (by decide) (by decide))
  replace x_te := x_te.only hon (hap 2 9 (by decide) (by decide) (by decide))
  replace x_st := x_st.only hon (hap 3 9 (by decide) (by decide) (by decide))
  replace x_pa := x_pa.only hon (hap 4 9 (by decide) (by decide) (by decide))
  replace x_zo := x_zo.only hon (hap 5 9 (by decide) (by decide) (by decide))
  replace x_ve := x_ve.only hon (hap 7 9 (by decide) (by decide) (by decide))
  replace x_sh := x_sh.only hon (hap 8 9 (by decide) (by decide) (by decide))
  replace x_wa := x_wa.only hon (hap 10 9 (by decide) (by decide) (by decide))
  replace x_in_ := x_in_.only hon (hap 11 9 (by decide) (by decide) (by decide))
  replace x_gr := hmk
  replace pa := pa.only hon (hgn 9 (by decide))
  replace HO := HO.trans (only_of hon (by decide))
  clear hmk hon ca11
  have ca12 := pa.c12
  go_wp2_with fail
  refine (markWatchS_any _ _ _ _ _ x_wa (by omega) (by omega)).mono ?_
  rintro e W10 ⟨rfl, hmk, hon⟩
  replace x_ob := x_ob.only hon (hap 0 10 (by decide) (by decide) (by decide))
  replace x_ma := x_ma.only hon (hap 1 10 (by decide) (by decide) (by decide))
  replace x_te := x_te.only hon (hap 2 10 (by decide) (by decide) (by decide))
  replace x_st := x_st.only hon (hap 3 10 (by decide) (by decide) (by decide))
  replace x_pa := x_pa.only hon (hap 4 10 (by decide) (by decide) (by decide))
  replace x_zo := x_zo.only hon (hap 5 10 (by decide) (by decide) (by decide))
  replace x_ve := x_ve.only hon (hap 7 10 (by decide) (by decide) (by decide))
  replace x_sh := x_sh.only hon (hap 8 10 (by decide) (by decide) (by decide))
  replace x_gr := x_gr.only hon (hap 9 10 (by decide) (by decide) (by decide))
  replace x_in_ := x_in_.only hon (hap 11 10 (by decide) (by decide) (by decide))
  replace x_wa := hmk
  replace pa := pa.only hon (hgn 10 (by decide))
  replace HO := HO.trans (only_of hon (by decide))
  clear hmk hon ca12
  have ca13 := pa.c13
  go_wp2_with fail
  refine (markIncidentS_any _ _ _ _ _ x_in_ (by omega) (by omega)).mono ?_
  rintro e W11 ⟨rfl, hmk, hon⟩
  replace x_ob := x_ob.only hon (hap 0 11 (by decide) (by decide) (by decide))
  replace x_ma := x_ma.only hon (hap 1 11 (by decide) (by decide) (by decide))
  replace x_te := x_te.only hon (hap 2 11 (by decide) (by decide) (by decide))
  replace x_st := x_st.only hon (hap 3 11 (by decide) (by decide) (by decide))
  replace x_pa := x_pa.only hon (hap 4 11 (by decide) (by decide) (by decide))
  replace x_zo := x_zo.only hon (hap 5 11 (by decide) (by decide) (by decide))
  replace x_ve := x_ve.only hon (hap 7 11 (by decide) (by decide) (by decide))
  replace x_sh := x_sh.only hon (hap 8 11 (by decide) (by decide) (by decide))
  replace x_gr := x_gr.only hon (hap 9 11 (by decide) (by decide) (by decide))
  replace x_wa := x_wa.only hon (hap 10 11 (by decide) (by decide) (by decide))
  replace x_in_ := hmk
  replace pa := pa.only hon (hgn 11 (by decide))
  replace HO := HO.trans (only_of hon (by decide))
  clear hmk hon ca13
  go_wp2
  go_ret
  refine ⟨⟨x.rows, x.columns, _, _, _, _, _, _, _, _, _, _, _⟩, _, rfl, ⟨⟨x.ob.length, x.ma.length, x.te.length, x.st.length, x.pa.length, x.zo.length, x.ve.length, x.sh.length, x.gr.length, x.wa.length, x.in_.length, rfl, rfl, rfl, rfl, rfl, rfl, rfl, rfl, rfl, rfl, rfl, rfl, l0, l1, l2, l3, l4, l5, l6, l7, l8, l9, l10⟩⟩, rfl, rfl, ⟨x_ob, x_ma, x_te, x_st, x_pa, x_zo, x_re, x_ve, x_sh, x_gr, x_wa, x_in_⟩, HO⟩
set_option maxRecDepth 100000 in
set_option maxHeartbeats 8000000 in
theorem heldDesk_any (y : DDesk) (v : DVals) (F : Nat → List Nat) (k K : Int) (w : World) (hx : DeskRd w v y F) (hm : Marked y k K) (h0 : 0 ≤ k) (h1 : k ≤ 1000000) :
    Calls Try.prog 11 #[deskA v y, .int .i64 k] w fun e w' => e = .returned (.int .i64 K) ∧ Below w.heap.size w w' := by
  obtain ⟨n0, n1, n2, n3, n4, n5, n6, n7, n8, n9, n10, m0, m1, m2, m3, m4, m5, m6, m7, m8, m9, m10, hK, l0, l1, l2, l3, l4, l5, l6, l7, l8, l9, l10⟩ := hm
  have HK := Lib.hid hK
  clear hK
  have hB : Below w.heap.size w (w.alloc (.cells #[v.ob, .int .i64 y.rows, .int .i64 y.columns, v.ma, v.te, v.st, v.pa, v.zo, v.re, v.ve, v.sh, v.gr, v.wa, v.in_] 36)) := (Below.refl _ _).alloc (Nat.le_refl _) _
  have pa := DBox.new w v y 36
  replace hx := hx.below' hB
  unfold deskA
  obtain ⟨x_ob, x_ma, x_te, x_st, x_pa, x_zo, x_re, x_ve, x_sh, x_gr, x_wa, x_in_⟩ := hx
  rw [m0] at x_ob
  rw [m1] at x_ma
  rw [m2] at x_te
  rw [m3] at x_st
  rw [m4] at x_pa
  rw [m5] at x_zo
  rw [m6] at x_ve
  rw [m7] at x_sh
  rw [m8] at x_gr
  rw [m9] at x_wa
  rw [m10] at x_in_
  clear m0 m1 m2 m3 m4 m5 m6 m7 m8 m9 m10
  go_enter Try.func11, Try.ntmps11
  go_wp2_with fail
  refine (heldObservedS_any _ _ _ _ _ x_ob (by omega) (by omega)).mono ?_
  rintro e W0 ⟨rfl, hbn⟩
  replace x_ob := x_ob.below' hbn
  replace x_ma := x_ma.below' hbn
  replace x_te := x_te.below' hbn
  replace x_st := x_st.below' hbn
  replace x_pa := x_pa.below' hbn
  replace x_zo := x_zo.below' hbn
  replace x_ve := x_ve.below' hbn
  replace x_sh := x_sh.below' hbn
  replace x_gr := x_gr.below' hbn
  replace x_wa := x_wa.below' hbn
  replace x_in_ := x_in_.below' hbn
  replace pa := pa.below' hbn
  replace hB := hB.trans (hbn.mono hB.size)
  clear hbn
  have ca1 := pa.c1
  have ca2 := pa.c2
  have ca3 := pa.c3
  go_wp2_with fail
  refine (heldField_any _ _ _ _ _ _ _ x_ma (by omega) (by omega)).mono ?_
  rintro e W1 ⟨rfl, hbn⟩
  replace x_ob := x_ob.below' hbn
  replace x_ma := x_ma.below' hbn
  replace x_te := x_te.below' hbn
  replace x_st := x_st.below' hbn
  replace x_pa := x_pa.below' hbn
  replace x_zo := x_zo.below' hbn
  replace x_ve := x_ve.below' hbn
  replace x_sh := x_sh.below' hbn
  replace x_gr := x_gr.below' hbn
  replace x_wa := x_wa.below' hbn
  replace x_in_ := x_in_.below' hbn
  replace pa := pa.below' hbn
  replace hB := hB.trans (hbn.mono hB.size)
  clear hbn ca1 ca2 ca3
  have ca4 := pa.c4
  go_wp2_with fail
  refine (heldTestS_any _ _ _ _ _ x_te (by omega) (by omega)).mono ?_
  rintro e W2 ⟨rfl, hbn⟩
  replace x_ob := x_ob.below' hbn
  replace x_ma := x_ma.below' hbn
  replace x_te := x_te.below' hbn
  replace x_st := x_st.below' hbn
  replace x_pa := x_pa.below' hbn
  replace x_zo := x_zo.below' hbn
  replace x_ve := x_ve.below' hbn
  replace x_sh := x_sh.below' hbn
  replace x_gr := x_gr.below' hbn
  replace x_wa := x_wa.below' hbn
  replace x_in_ := x_in_.below' hbn
  replace pa := pa.below' hbn
  replace hB := hB.trans (hbn.mono hB.size)
  clear hbn ca4
  have ca5 := pa.c5
  go_wp2_with fail
  refine (heldStandS_any _ _ _ _ _ x_st (by omega) (by omega)).mono ?_
  rintro e W3 ⟨rfl, hbn⟩
  replace x_ob := x_ob.below' hbn
  replace x_ma := x_ma.below' hbn
  replace x_te := x_te.below' hbn
  replace x_st := x_st.below' hbn
  replace x_pa := x_pa.below' hbn
  replace x_zo := x_zo.below' hbn
  replace x_ve := x_ve.below' hbn
  replace x_sh := x_sh.below' hbn
  replace x_gr := x_gr.below' hbn
  replace x_wa := x_wa.below' hbn
  replace x_in_ := x_in_.below' hbn
  replace pa := pa.below' hbn
  replace hB := hB.trans (hbn.mono hB.size)
  clear hbn ca5
  have ca6 := pa.c6
  go_wp2_with fail
  refine (heldPathPointS_any _ _ _ _ _ x_pa (by omega) (by omega)).mono ?_
  rintro e W4 ⟨rfl, hbn⟩
  replace x_ob := x_ob.below' hbn
  replace x_ma := x_ma.below' hbn
  replace x_te := x_te.below' hbn
  replace x_st := x_st.below' hbn
  replace x_pa := x_pa.below' hbn
  replace x_zo := x_zo.below' hbn
  replace x_ve := x_ve.below' hbn
  replace x_sh := x_sh.below' hbn
  replace x_gr := x_gr.below' hbn
  replace x_wa := x_wa.below' hbn
  replace x_in_ := x_in_.below' hbn
  replace pa := pa.below' hbn
  replace hB := hB.trans (hbn.mono hB.size)
  clear hbn ca6
  have ca7 := pa.c7
  go_wp2_with fail
  refine (heldInt64S_any _ _ _ _ _ x_zo (by omega) (by omega)).mono ?_
  rintro e W5 ⟨rfl, hbn⟩
  replace x_ob := x_ob.below' hbn
  replace x_ma := x_ma.below' hbn
  replace x_te := x_te.below' hbn
  replace x_st := x_st.below' hbn
  replace x_pa := x_pa.below' hbn
  replace x_zo := x_zo.below' hbn
  replace x_ve := x_ve.below' hbn
  replace x_sh := x_sh.below' hbn
  replace x_gr := x_gr.below' hbn
  replace x_wa := x_wa.below' hbn
  replace x_in_ := x_in_.below' hbn
  replace pa := pa.below' hbn
  replace hB := hB.trans (hbn.mono hB.size)
  clear hbn ca7
  have ca8 := pa.c8
  go_wp2_with fail
  rw [x_re.out]
  refine (heldRegionS_nil _ _).mono ?_
  rintro e W6 ⟨rfl, hbn⟩
  replace x_ob := x_ob.below' hbn
  replace x_ma := x_ma.below' hbn
  replace x_te := x_te.below' hbn
  replace x_st := x_st.below' hbn
  replace x_pa := x_pa.below' hbn
  replace x_zo := x_zo.below' hbn
  replace x_ve := x_ve.below' hbn
  replace x_sh := x_sh.below' hbn
  replace x_gr := x_gr.below' hbn
  replace x_wa := x_wa.below' hbn
  replace x_in_ := x_in_.below' hbn
  replace pa := pa.below' hbn
  replace hB := hB.trans (hbn.mono hB.size)
  clear hbn ca8
  have ca9 := pa.c9
  go_wp2_with fail
  refine (heldVerifiedS_any _ _ _ _ _ x_ve (by omega) (by omega)).mono ?_
  rintro e W7 ⟨rfl, hbn⟩
  replace x_ob := x_ob.below' hbn
  replace x_ma := x_ma.below' hbn
  replace x_te := x_te.below' hbn
  replace x_st := x_st.below' hbn
  replace x_pa := x_pa.below' hbn
  replace x_zo := x_zo.below' hbn
  replace x_ve := x_ve.below' hbn
  replace x_sh := x_sh.below' hbn
  replace x_gr := x_gr.below' hbn
  replace x_wa := x_wa.below' hbn
  replace x_in_ := x_in_.below' hbn
  replace pa := pa.below' hbn
  replace hB := hB.trans (hbn.mono hB.size)
  clear hbn ca9
  have ca10 := pa.c10
  go_wp2_with fail
  refine (heldShotS_any _ _ _ _ _ x_sh (by omega) (by omega)).mono ?_
  rintro e W8 ⟨rfl, hbn⟩
  replace x_ob := x_ob.below' hbn
  replace x_ma := x_ma.below' hbn
  replace x_te := x_te.below' hbn
  replace x_st := x_st.below' hbn
  replace x_pa := x_pa.below' hbn
  replace x_zo := x_zo.below' hbn
  replace x_ve := x_ve.below' hbn
  replace x_sh := x_sh.below' hbn
  replace x_gr := x_gr.below' hbn
  replace x_wa := x_wa.below' hbn
  replace x_in_ := x_in_.below' hbn
  replace pa := pa.below' hbn
  replace hB := hB.trans (hbn.mono hB.size)
  clear hbn ca10
  have ca11 := pa.c11
  go_wp2_with fail
  refine (heldGroupS_any _ _ _ _ _ x_gr (by omega) (by omega)).mono ?_
  rintro e W9 ⟨rfl, hbn⟩
  replace x_ob := x_ob.below' hbn
  replace x_ma := x_ma.below' hbn
  replace x_te := x_te.below' hbn
  replace x_st := x_st.below' hbn
  replace x_pa := x_pa.below' hbn
  replace x_zo := x_zo.below' hbn
  replace x_ve := x_ve.below' hbn
  replace x_sh := x_sh.below' hbn
  replace x_gr := x_gr.below' hbn
  replace x_wa := x_wa.below' hbn
  replace x_in_ := x_in_.below' hbn
  replace pa := pa.below' hbn
  replace hB := hB.trans (hbn.mono hB.size)
  clear hbn ca11
  have ca12 := pa.c12
  go_wp2_with fail
  refine (heldWatchS_any _ _ _ _ _ x_wa (by omega) (by omega)).mono ?_
  rintro e W10 ⟨rfl, hbn⟩
  replace x_ob := x_ob.below' hbn
  replace x_ma := x_ma.below' hbn
  replace x_te := x_te.below' hbn
  replace x_st := x_st.below' hbn
  replace x_pa := x_pa.below' hbn
  replace x_zo := x_zo.below' hbn
  replace x_ve := x_ve.below' hbn
  replace x_sh := x_sh.below' hbn
  replace x_gr := x_gr.below' hbn
  replace x_wa := x_wa.below' hbn
  replace x_in_ := x_in_.below' hbn
  replace pa := pa.below' hbn
  replace hB := hB.trans (hbn.mono hB.size)
  clear hbn ca12
  have ca13 := pa.c13
  go_wp2_with fail
  refine (heldIncidentS_any _ _ _ _ _ x_in_ (by omega) (by omega)).mono ?_
  rintro e W11 ⟨rfl, hbn⟩
  replace x_ob := x_ob.below' hbn
  replace x_ma := x_ma.below' hbn
  replace x_te := x_te.below' hbn
  replace x_st := x_st.below' hbn
  replace x_pa := x_pa.below' hbn
  replace x_zo := x_zo.below' hbn
  replace x_ve := x_ve.below' hbn
  replace x_sh := x_sh.below' hbn
  replace x_gr := x_gr.below' hbn
  replace x_wa := x_wa.below' hbn
  replace x_in_ := x_in_.below' hbn
  replace pa := pa.below' hbn
  replace hB := hB.trans (hbn.mono hB.size)
  clear hbn ca13
  go_wp2
  go_ret
  exact ⟨ret_int HK.out.symm, hB⟩

end Go.Proofs.Ytjlnjeogaokkoaa
