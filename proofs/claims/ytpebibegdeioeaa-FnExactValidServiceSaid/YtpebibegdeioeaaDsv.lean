
/- Days of the service: the given helpers over them. Written by wip/gen/dsv.py. -/
import Derived.Test.YtpebibegdeioeaaDsd
import Derived.Deep.MidRow
import Derived.Deep.CutRange
namespace Go.Proofs.Ytpebibegdeioeaa
open Go.RowKit
set_option linter.unusedVariables false

set_option maxRecDepth 100000 in
set_option maxHeartbeats 2000000 in
theorem eqGrid_any (r c z : Int) (v v' : Value) (xs : List Int) (fp fp' : List Nat) (w : World) (hx : Sl fInt.cod w v xs fp) (hy : Sl fInt.cod w v' xs fp') :
    Calls Try.prog 28 #[.agg #[.int .i64 r, .int .i64 c, .int .i64 z, v], .agg #[.int .i64 r, .int .i64 c, .int .i64 z, v']] w fun e w' => YesR w e w' := by
  obtain ⟨A, cap, rfl, hlen, hcap⟩ := hx.form
  obtain ⟨A', cap', rfl, hlen', hcap'⟩ := hy.form
  have hB : Below w.heap.size w ((w.alloc (.cells #[.int .i64 r, .int .i64 c, .int .i64 z, .slice A xs.length cap] 33)).alloc (.cells #[.int .i64 r, .int .i64 c, .int .i64 z, .slice A' xs.length cap'] 33)) := ((Below.refl _ _).alloc (Nat.le_refl _) _).alloc (by simp) _
  have hx2 := hx.below' hB
  have hy2 := hy.below' hB
  go_enter Try.func28, Try.ntmps28
  go_wp2_with fail
  refine (eqInt64S_any _ _ _ _ _ _ hx2 hy2).mono ?_
  rintro e w1 ⟨rfl, hb⟩
  go_wp2
  go_ret
  exact ⟨rfl, hB.trans (hb.mono hB.size)⟩
set_option maxRecDepth 100000 in
set_option maxHeartbeats 2000000 in
theorem szGrid_any (r c z : Int) (v : Value) (xs : List Int) (fp : List Nat) (left : Int) (w : World) (hx : Sl fInt.cod w v xs fp) (h0 : 0 ≤ left) (h1 : left ≤ 1048576) :
    Calls Try.prog 9 #[.agg #[.int .i64 r, .int .i64 c, .int .i64 z, v], .int .i64 left] w fun e w' => SzR left (totInt64S xs) w e w' := by
  obtain ⟨A, cap, rfl, hlen, hcap⟩ := hx.form
  have hB : Below w.heap.size w (w.alloc (.cells #[.int .i64 r, .int .i64 c, .int .i64 z, .slice A xs.length cap] 24)) := (Below.refl _ _).alloc (Nat.le_refl _) _
  have hx2 := hx.below' hB
  go_enter Try.func9, Try.ntmps9
  go_wp2_with fail
  refine (szInt64S_any _ _ _ _ _ hx2 h0 h1).mono ?_
  rintro e w1 ⟨q, rfl, hq, hb⟩
  have hB2 := hB.trans (hb.mono hB.size)
  by_cases hneg : q < 0
  · go_wp2
    go_ret
    exact .no hB2
  · have hq2 : 0 ≤ q ∧ q + (totInt64S xs : Nat) = left := by
      rcases hq with h | h
      · omega
      · exact h
    have HQ := Lib.hid hq2
    clear hq hq2
    go_wp2
    go_ret
    exact .yes HQ.out.1 HQ.out.2 hB2
set_option maxRecDepth 100000 in
set_option maxHeartbeats 4000000 in
theorem toGrid_any (r c z : Int) (v : Value) (xs : List Int) (fp : List Nat) (w : World) (hx : Sl fInt.cod w v xs fp) (hl : xs.length ≤ 1048576) :
    Calls Try.prog 16 #[.agg #[.int .i64 r, .int .i64 c, .int .i64 z, v]] w fun e w' => ∃ A q, e = .returned (.agg #[.int .i64 r, .int .i64 c, .int .i64 z, .slice A xs.length q]) ∧ New fInt.cod w (.slice A xs.length q) xs w' := by
  obtain ⟨A, cap, rfl, hlen, hcap⟩ := hx.form
  have hB : Below w.heap.size w (((w.alloc (.cells #[.int .i64 r, .int .i64 c, .int .i64 z, .slice A xs.length cap] 24)).alloc (.cells #[.int .i64 0, .int .i64 0, .int .i64 0, .slice none 0 0] 33)).alloc (.cells #[.int .i64 r, .int .i64 c, .int .i64 z, .slice none 0 0] 33)) := (((Below.refl _ _).alloc (Nat.le_refl _) _).alloc (by simp) _).alloc (by simp; omega) _
  have hx2 := hx.below' hB
  have d0 : (((w.alloc (.cells #[.int .i64 r, .int .i64 c, .int .i64 z, .slice A xs.length cap] 24)).alloc (.cells #[.int .i64 0, .int .i64 0, .int .i64 0, .slice none 0 0] 33)).alloc (.cells #[.int .i64 r, .int .i64 c, .int .i64 z, .slice none 0 0] 33)).cell? ⟨w.heap.size + 1, 0, none⟩ = some (.int .i64 0) := (three_mid _ _ _ _ _ _).1
  have d1 : (((w.alloc (.cells #[.int .i64 r, .int .i64 c, .int .i64 z, .slice A xs.length cap] 24)).alloc (.cells #[.int .i64 0, .int .i64 0, .int .i64 0, .slice none 0 0] 33)).alloc (.cells #[.int .i64 r, .int .i64 c, .int .i64 z, .slice none 0 0] 33)).cell? ⟨w.heap.size + 1, 1, none⟩ = some (.int .i64 0) := (three_mid _ _ _ _ _ _).1
  have d2 : (((w.alloc (.cells #[.int .i64 r, .int .i64 c, .int .i64 z, .slice A xs.length cap] 24)).alloc (.cells #[.int .i64 0, .int .i64 0, .int .i64 0, .slice none 0 0] 33)).alloc (.cells #[.int .i64 r, .int .i64 c, .int .i64 z, .slice none 0 0] 33)).cell? ⟨w.heap.size + 1, 2, none⟩ = some (.int .i64 0) := (three_mid _ _ _ _ _ _).1
  have d3 : (((w.alloc (.cells #[.int .i64 r, .int .i64 c, .int .i64 z, .slice A xs.length cap] 24)).alloc (.cells #[.int .i64 0, .int .i64 0, .int .i64 0, .slice none 0 0] 33)).alloc (.cells #[.int .i64 r, .int .i64 c, .int .i64 z, .slice none 0 0] 33)).cell? ⟨w.heap.size + 1, 3, none⟩ = some (.slice none 0 0) := (three_mid _ _ _ _ _ _).1
  have e0 : (((w.alloc (.cells #[.int .i64 r, .int .i64 c, .int .i64 z, .slice A xs.length cap] 24)).alloc (.cells #[.int .i64 0, .int .i64 0, .int .i64 0, .slice none 0 0] 33)).alloc (.cells #[.int .i64 r, .int .i64 c, .int .i64 z, .slice none 0 0] 33)).cell? ⟨w.heap.size + 1 + 1, 0, none⟩ = some (.int .i64 r) := (three_top _ _ _ _ _ _).1
  have e1 : (((w.alloc (.cells #[.int .i64 r, .int .i64 c, .int .i64 z, .slice A xs.length cap] 24)).alloc (.cells #[.int .i64 0, .int .i64 0, .int .i64 0, .slice none 0 0] 33)).alloc (.cells #[.int .i64 r, .int .i64 c, .int .i64 z, .slice none 0 0] 33)).cell? ⟨w.heap.size + 1 + 1, 1, none⟩ = some (.int .i64 c) := (three_top _ _ _ _ _ _).1
  have e2 : (((w.alloc (.cells #[.int .i64 r, .int .i64 c, .int .i64 z, .slice A xs.length cap] 24)).alloc (.cells #[.int .i64 0, .int .i64 0, .int .i64 0, .slice none 0 0] 33)).alloc (.cells #[.int .i64 r, .int .i64 c, .int .i64 z, .slice none 0 0] 33)).cell? ⟨w.heap.size + 1 + 1, 2, none⟩ = some (.int .i64 z) := (three_top _ _ _ _ _ _).1
  have e3 : (((w.alloc (.cells #[.int .i64 r, .int .i64 c, .int .i64 z, .slice A xs.length cap] 24)).alloc (.cells #[.int .i64 0, .int .i64 0, .int .i64 0, .slice none 0 0] 33)).alloc (.cells #[.int .i64 r, .int .i64 c, .int .i64 z, .slice none 0 0] 33)).cell? ⟨w.heap.size + 1 + 1, 3, none⟩ = some (.slice none 0 0) := (three_top _ _ _ _ _ _).1
  have zz1 : ∀ j, (((w.alloc (.cells #[.int .i64 r, .int .i64 c, .int .i64 z, .slice A xs.length cap] 24)).alloc (.cells #[.int .i64 0, .int .i64 0, .int .i64 0, .slice none 0 0] 33)).alloc (.cells #[.int .i64 r, .int .i64 c, .int .i64 z, .slice none 0 0] 33)).frozen? ⟨w.heap.size + 1, j, none⟩ = false := fun j => (three_mid _ _ _ _ _ _).2
  have zz2 : ∀ j, (((w.alloc (.cells #[.int .i64 r, .int .i64 c, .int .i64 z, .slice A xs.length cap] 24)).alloc (.cells #[.int .i64 0, .int .i64 0, .int .i64 0, .slice none 0 0] 33)).alloc (.cells #[.int .i64 r, .int .i64 c, .int .i64 z, .slice none 0 0] 33)).frozen? ⟨w.heap.size + 1 + 1, j, none⟩ = false := fun j => (three_top _ _ _ _ _ _).2
  have hsz : (((w.alloc (.cells #[.int .i64 r, .int .i64 c, .int .i64 z, .slice A xs.length cap] 24)).alloc (.cells #[.int .i64 0, .int .i64 0, .int .i64 0, .slice none 0 0] 33)).alloc (.cells #[.int .i64 r, .int .i64 c, .int .i64 z, .slice none 0 0] 33)).heap.size = w.heap.size + 1 + 1 + 1 := by simp
  go_enter Try.func16, Try.ntmps16
  go_wp2_with fail
  generalize (((w.alloc (.cells #[.int .i64 r, .int .i64 c, .int .i64 z, .slice A xs.length cap] 24)).alloc (.cells #[.int .i64 0, .int .i64 0, .int .i64 0, .slice none 0 0] 33)).alloc (.cells #[.int .i64 r, .int .i64 c, .int .i64 z, .slice none 0 0] 33)) = W at *
  refine (toInt64S_any _ _ _ _ hx2 hl).mono ?_
  rintro e w2 ⟨y, rfl, ⟨⟨fy, hsy, hlo, hnd⟩, hb⟩⟩
  obtain ⟨Ay, cy, rfl, _, _⟩ := hsy.form
  replace d0 := (hb.cell (p := ⟨w.heap.size + 1, 0, none⟩) (by show w.heap.size + 1 < _; omega)).trans d0
  replace d1 := (hb.cell (p := ⟨w.heap.size + 1, 1, none⟩) (by show w.heap.size + 1 < _; omega)).trans d1
  replace d2 := (hb.cell (p := ⟨w.heap.size + 1, 2, none⟩) (by show w.heap.size + 1 < _; omega)).trans d2
  replace d3 := (hb.cell (p := ⟨w.heap.size + 1, 3, none⟩) (by show w.heap.size + 1 < _; omega)).trans d3
  replace e0 := (hb.cell (p := ⟨w.heap.size + 1 + 1, 0, none⟩) (by show w.heap.size + 1 + 1 < _; omega)).trans e0
  replace e1 := (hb.cell (p := ⟨w.heap.size + 1 + 1, 1, none⟩) (by show w.heap.size + 1 + 1 < _; omega)).trans e1
  replace e2 := (hb.cell (p := ⟨w.heap.size + 1 + 1, 2, none⟩) (by show w.heap.size + 1 + 1 < _; omega)).trans e2
  replace e3 := (hb.cell (p := ⟨w.heap.size + 1 + 1, 3, none⟩) (by show w.heap.size + 1 + 1 < _; omega)).trans e3
  have z0 := (hb.frozen (p := ⟨w.heap.size + 1, 0, none⟩) (by show w.heap.size + 1 < _; omega)).trans (zz1 0)
  have z1 := (hb.frozen (p := ⟨w.heap.size + 1, 1, none⟩) (by show w.heap.size + 1 < _; omega)).trans (zz1 1)
  have z2 := (hb.frozen (p := ⟨w.heap.size + 1, 2, none⟩) (by show w.heap.size + 1 < _; omega)).trans (zz1 2)
  have z3 := (hb.frozen (p := ⟨w.heap.size + 1, 3, none⟩) (by show w.heap.size + 1 < _; omega)).trans (zz1 3)
  have y3 := (hb.frozen (p := ⟨w.heap.size + 1 + 1, 3, none⟩) (by show w.heap.size + 1 + 1 < _; omega)).trans (zz2 3)
  have hbb := hB.trans (hb.mono hB.size)
  have hlo2 : ∀ b ∈ fy, w.heap.size + 3 ≤ b := fun b hbm => by have := hlo b hbm; omega
  have hbs := hbb.size
  clear zz1 zz2 hb hlo hx2
  go_wp2
  refine bodyPost_ret (v := .agg #[.int .i64 r, .int .i64 c, .int .i64 z, .slice Ay xs.length cy]) (by simp [results, hit_cellG, d0, d1, d2, d3, e0, e1, e2, e3, Try.results16, go_sem]) rfl ⟨Ay, cy, rfl, ⟨⟨fy, hsy.only (fp' := [w.heap.size + 1, w.heap.size + 1 + 1]) ?_ ?_, fun b hbm => by have := hlo2 b hbm; omega, hnd⟩, ?_⟩⟩
  · repeat (refine Only.setIn ?_ (by simp) _ _)
    exact Only.refl _ _
  · intro b h1 h2
    have := hlo2 b h1
    simp at h2
    omega
  · exact (((((hbb.setCell (show w.heap.size ≤ w.heap.size + 1 + 1 by omega) _).setCell (show w.heap.size ≤ w.heap.size + 1 by omega) _).setCell (show w.heap.size ≤ w.heap.size + 1 by omega) _).setCell (show w.heap.size ≤ w.heap.size + 1 by omega) _).setCell (show w.heap.size ≤ w.heap.size + 1 by omega) _)
set_option maxRecDepth 100000 in
set_option maxHeartbeats 8000000 in
theorem eqService_any (x : DServ) (va vb : SVals) (Fa Fb : Nat → List Nat) (w : World) (ha : ServRd w va x Fa) (hb : ServRd w vb x Fb) :
    Calls Try.prog 8 #[servA va x, servA vb x] w fun e w' => YesR w e w' := by
  have hB0 : Below w.heap.size w (w.alloc (.cells #[.int .i64 x.rows, .int .i64 x.columns, .int .i64 x.size, va.he, va.ma, .int .i64 x.friction, va.se, va.pr, .int .i64 x.rise, .int .i64 x.run, .int .i64 x.doubt, .int .i64 x.limit, va.as_, va.ga, .int .i64 x.before, .int .i64 x.level, .int .i64 x.above, .int .i64 x.fresh, .int .i64 x.weak, .int .i64 x.tonnes, va.tx] 38)) := (Below.refl _ _).alloc (Nat.le_refl _) _
  have hB : Below w.heap.size w ((w.alloc (.cells #[.int .i64 x.rows, .int .i64 x.columns, .int .i64 x.size, va.he, va.ma, .int .i64 x.friction, va.se, va.pr, .int .i64 x.rise, .int .i64 x.run, .int .i64 x.doubt, .int .i64 x.limit, va.as_, va.ga, .int .i64 x.before, .int .i64 x.level, .int .i64 x.above, .int .i64 x.fresh, .int .i64 x.weak, .int .i64 x.tonnes, va.tx] 38)).alloc (.cells #[.int .i64 x.rows, .int .i64 x.columns, .int .i64 x.size, vb.he, vb.ma, .int .i64 x.friction, vb.se, vb.pr, .int .i64 x.rise, .int .i64 x.run, .int .i64 x.doubt, .int .i64 x.limit, vb.as_, vb.ga, .int .i64 x.before, .int .i64 x.level, .int .i64 x.above, .int .i64 x.fresh, .int .i64 x.weak, .int .i64 x.tonnes, vb.tx] 38)) := hB0.alloc (by simp) _
  have pa := (SBox.new w va x 38).below' ((Below.refl _ _).alloc (Nat.le_refl _) (.cells #[.int .i64 x.rows, .int .i64 x.columns, .int .i64 x.size, vb.he, vb.ma, .int .i64 x.friction, vb.se, vb.pr, .int .i64 x.rise, .int .i64 x.run, .int .i64 x.doubt, .int .i64 x.limit, vb.as_, vb.ga, .int .i64 x.before, .int .i64 x.level, .int .i64 x.above, .int .i64 x.fresh, .int .i64 x.weak, .int .i64 x.tonnes, vb.tx] 38))
  have pb := SBox.new (w.alloc (.cells #[.int .i64 x.rows, .int .i64 x.columns, .int .i64 x.size, va.he, va.ma, .int .i64 x.friction, va.se, va.pr, .int .i64 x.rise, .int .i64 x.run, .int .i64 x.doubt, .int .i64 x.limit, va.as_, va.ga, .int .i64 x.before, .int .i64 x.level, .int .i64 x.above, .int .i64 x.fresh, .int .i64 x.weak, .int .i64 x.tonnes, va.tx] 38)) vb x 38
  rw [World.size_alloc] at pb
  replace ha := ha.below' hB
  replace hb := hb.below' hB
  clear hB0
  unfold servA
  go_enter Try.func8, Try.ntmps8
  go_wp2_with fail
  refine (eqGrid_any _ _ _ _ _ _ _ _ _ ha.he hb.he).mono ?_
  rintro e W0 ⟨rfl, hbn⟩
  replace ha := ha.below' hbn
  replace hb := hb.below' hbn
  replace pa := pa.below' hbn
  replace pb := pb.below' hbn
  replace hB := hB.trans (hbn.mono hB.size)
  clear hbn
  have ca4 := pa.c4
  have cb4 := pb.c4
  go_wp2_with fail
  refine (eqInt64S_any _ _ _ _ _ _ ha.ma hb.ma).mono ?_
  rintro e W1 ⟨rfl, hbn⟩
  replace ha := ha.below' hbn
  replace hb := hb.below' hbn
  replace pa := pa.below' hbn
  replace pb := pb.below' hbn
  replace hB := hB.trans (hbn.mono hB.size)
  clear hbn ca4 cb4
  have ca5 := pa.c5
  have ca6 := pa.c6
  have cb5 := pb.c5
  have cb6 := pb.c6
  go_wp2_with fail
  refine (eqInt64S_any _ _ _ _ _ _ ha.se hb.se).mono ?_
  rintro e W2 ⟨rfl, hbn⟩
  replace ha := ha.below' hbn
  replace hb := hb.below' hbn
  replace pa := pa.below' hbn
  replace pb := pb.below' hbn
  replace hB := hB.trans (hbn.mono hB.size)
  clear hbn ca5 cb5 ca6 cb6
  have ca7 := pa.c7
  have cb7 := pb.c7
  go_wp2_with fail
  refine (eqLayerS_any _ _ _ _ _ _ ha.pr hb.pr).mono ?_
  rintro e W3 ⟨rfl, hbn⟩
  replace ha := ha.below' hbn
  replace hb := hb.below' hbn
  replace pa := pa.below' hbn
  replace pb := pb.below' hbn
  replace hB := hB.trans (hbn.mono hB.size)
  clear hbn ca7 cb7
  have ca8 := pa.c8
  have ca9 := pa.c9
  have ca10 := pa.c10
  have ca11 := pa.c11
  have ca12 := pa.c12
  have cb8 := pb.c8
  have cb9 := pb.c9
  have cb10 := pb.c10
  have cb11 := pb.c11
  have cb12 := pb.c12
  go_wp2_with fail
  refine (eqAssetS_any _ _ _ _ _ _ ha.as_ hb.as_).mono ?_
  rintro e W4 ⟨rfl, hbn⟩
  replace ha := ha.below' hbn
  replace hb := hb.below' hbn
  replace pa := pa.below' hbn
  replace pb := pb.below' hbn
  replace hB := hB.trans (hbn.mono hB.size)
  clear hbn ca8 cb8 ca9 cb9 ca10 cb10 ca11 cb11 ca12 cb12
  have ca13 := pa.c13
  have cb13 := pb.c13
  go_wp2_with fail
  refine (eqGateS_any _ _ _ _ _ _ ha.ga hb.ga).mono ?_
  rintro e W5 ⟨rfl, hbn⟩
  replace ha := ha.below' hbn
  replace hb := hb.below' hbn
  replace pa := pa.below' hbn
  replace pb := pb.below' hbn
  replace hB := hB.trans (hbn.mono hB.size)
  clear hbn ca13 cb13
  have ca14 := pa.c14
  have ca15 := pa.c15
  have ca16 := pa.c16
  have ca17 := pa.c17
  have ca18 := pa.c18
  have ca19 := pa.c19
  have ca20 := pa.c20
  have cb14 := pb.c14
  have cb15 := pb.c15
  have cb16 := pb.c16
  have cb17 := pb.c17
  have cb18 := pb.c18
  have cb19 := pb.c19
  have cb20 := pb.c20
  go_wp2_with fail
  refine (eqStringS_any _ _ _ _ _ _ ha.tx hb.tx).mono ?_
  rintro e W6 ⟨rfl, hbn⟩
  replace ha := ha.below' hbn
  replace hb := hb.below' hbn
  replace pa := pa.below' hbn
  replace pb := pb.below' hbn
  replace hB := hB.trans (hbn.mono hB.size)
  clear hbn ca14 cb14 ca15 cb15 ca16 cb16 ca17 cb17 ca18 cb18 ca19 cb19 ca20 cb20
  go_wp2
  go_ret
  exact ⟨rfl, hB⟩
theorem results_cell1 {fn : Func} {p : Tmp} {ty : TypeId} (h : fn.results = #[.cell p ty]) (tmps : Array Value) (P : Program) (w : World) :
    (results fn tmps).run P w = ((asAddr (tmps.getD p undef)).run P w).andThen fun a w1 => (loadVar ty a).run P w1 := by
  simp only [results, h]
  simp [Sem.run_bind, Result.andThen]
theorem only_setCells (g : Nat) : ∀ (vs : List Value) (o : Nat) (w0 w : World), Only [g] w0 w → Only [g] w0 (w.setCells g o vs)
  | [], _, _, _, h => h
  | v :: r, o, w0, w, h => only_setCells g r (o + 1) w0 (w.setCell ⟨g, o, none⟩ v) (h.set _ _)
def totServ (x : DServ) : Nat := totInt64S x.he + totInt64S x.ma + totInt64S x.se + totLayerS x.pr + totAssetS x.as_ + totGateS x.ga + totStringS x.tx
set_option maxRecDepth 100000 in
set_option maxHeartbeats 8000000 in
theorem szService_any (x : DServ) (v : SVals) (F : Nat → List Nat) (left : Int) (w : World) (hx : ServRd w v x F) (h0 : 0 ≤ left) (h1 : left ≤ 1048576) :
    Calls Try.prog 4 #[servA v x, .int .i64 left] w fun e w' => SzR left (totServ x) w e w' := by
  have hB : Below w.heap.size w (w.alloc (.cells #[.int .i64 x.rows, .int .i64 x.columns, .int .i64 x.size, v.he, v.ma, .int .i64 x.friction, v.se, v.pr, .int .i64 x.rise, .int .i64 x.run, .int .i64 x.doubt, .int .i64 x.limit, v.as_, v.ga, .int .i64 x.before, .int .i64 x.level, .int .i64 x.above, .int .i64 x.fresh, .int .i64 x.weak, .int .i64 x.tonnes, v.tx] 30)) := (Below.refl _ _).alloc (Nat.le_refl _) _
  have pa := SBox.new w v x 30
  replace hx := hx.below' hB
  unfold servA
  go_enter Try.func4, Try.ntmps4
  go_wp2_with fail
  refine (szGrid_any _ _ _ _ _ _ _ _ hx.he (by omega) (by omega)).mono ?_
  rintro e W0 ⟨r0, rfl, hq, hbn⟩
  replace hx := hx.below' hbn
  replace pa := pa.below' hbn
  replace hB := hB.trans (hbn.mono hB.size)
  clear hbn
  by_cases hneg0 : r0 < 0
  · go_wp2
    go_ret
    exact .no hB
  have hr0 : Hid (r0 + (totInt64S x.he : Nat) = left) := by
    rcases hq with h | h
    · exact absurd h (by omega)
    · exact h.2
  have hs0 : 0 ≤ r0 ∧ r0 ≤ 1048576 := by have := hr0.out; omega
  clear hq
  have ca4 := pa.c4
  go_wp2_with fail
  refine (szInt64S_any _ _ _ _ _ hx.ma (by omega) (by omega)).mono ?_
  rintro e W1 ⟨r1, rfl, hq, hbn⟩
  replace hx := hx.below' hbn
  replace pa := pa.below' hbn
  replace hB := hB.trans (hbn.mono hB.size)
  clear hbn ca4
  by_cases hneg1 : r1 < 0
  · go_wp2
    go_ret
    exact .no hB
  have hr1 : Hid (r1 + (totInt64S x.ma : Nat) = r0) := by
    rcases hq with h | h
    · exact absurd h (by omega)
    · exact h.2
  have hs1 : 0 ≤ r1 ∧ r1 ≤ 1048576 := by have := hr1.out; omega
  clear hq
  have ca6 := pa.c6
  go_wp2_with fail
  refine (szInt64S_any _ _ _ _ _ hx.se (by omega) (by omega)).mono ?_
  rintro e W2 ⟨r2, rfl, hq, hbn⟩
  replace hx := hx.below' hbn
  replace pa := pa.below' hbn
  replace hB := hB.trans (hbn.mono hB.size)
  clear hbn ca6
  by_cases hneg2 : r2 < 0
  · go_wp2
    go_ret
    exact .no hB
  have hr2 : Hid (r2 + (totInt64S x.se : Nat) = r1) := by
    rcases hq with h | h
    · exact absurd h (by omega)
    · exact h.2
  have hs2 : 0 ≤ r2 ∧ r2 ≤ 1048576 := by have := hr2.out; omega
  clear hq
  have ca7 := pa.c7
  go_wp2_with fail
  refine (szLayerS_any _ _ _ _ _ hx.pr (by omega) (by omega)).mono ?_
  rintro e W3 ⟨r3, rfl, hq, hbn⟩
  replace hx := hx.below' hbn
  replace pa := pa.below' hbn
  replace hB := hB.trans (hbn.mono hB.size)
  clear hbn ca7
  by_cases hneg3 : r3 < 0
  · go_wp2
    go_ret
    exact .no hB
  have hr3 : Hid (r3 + (totLayerS x.pr : Nat) = r2) := by
    rcases hq with h | h
    · exact absurd h (by omega)
    · exact h.2
  have hs3 : 0 ≤ r3 ∧ r3 ≤ 1048576 := by have := hr3.out; omega
  clear hq
  have ca12 := pa.c12
  go_wp2_with fail
  refine (szAssetS_any _ _ _ _ _ hx.as_ (by omega) (by omega)).mono ?_
  rintro e W4 ⟨r4, rfl, hq, hbn⟩
  replace hx := hx.below' hbn
  replace pa := pa.below' hbn
  replace hB := hB.trans (hbn.mono hB.size)
  clear hbn ca12
  by_cases hneg4 : r4 < 0
  · go_wp2
    go_ret
    exact .no hB
  have hr4 : Hid (r4 + (totAssetS x.as_ : Nat) = r3) := by
    rcases hq with h | h
    · exact absurd h (by omega)
    · exact h.2
  have hs4 : 0 ≤ r4 ∧ r4 ≤ 1048576 := by have := hr4.out; omega
  clear hq
  have ca13 := pa.c13
  go_wp2_with fail
  refine (szGateS_any _ _ _ _ _ hx.ga (by omega) (by omega)).mono ?_
  rintro e W5 ⟨r5, rfl, hq, hbn⟩
  replace hx := hx.below' hbn
  replace pa := pa.below' hbn
  replace hB := hB.trans (hbn.mono hB.size)
  clear hbn ca13
  by_cases hneg5 : r5 < 0
  · go_wp2
    go_ret
    exact .no hB
  have hr5 : Hid (r5 + (totGateS x.ga : Nat) = r4) := by
    rcases hq with h | h
    · exact absurd h (by omega)
    · exact h.2
  have hs5 : 0 ≤ r5 ∧ r5 ≤ 1048576 := by have := hr5.out; omega
  clear hq
  have ca20 := pa.c20
  go_wp2_with fail
  refine (szStringS_any _ _ _ _ _ hx.tx (by omega) (by omega)).mono ?_
  rintro e W6 ⟨r6, rfl, hq, hbn⟩
  replace hx := hx.below' hbn
  replace pa := pa.below' hbn
  replace hB := hB.trans (hbn.mono hB.size)
  clear hbn ca20
  by_cases hneg6 : r6 < 0
  · go_wp2
    go_ret
    exact .no hB
  have hr6 : Hid (r6 + (totStringS x.tx : Nat) = r5) := by
    rcases hq with h | h
    · exact absurd h (by omega)
    · exact h.2
  have hs6 : 0 ≤ r6 ∧ r6 ≤ 1048576 := by have := hr6.out; omega
  clear hq
  go_wp2
  go_ret
  exact .yes (by omega) (by have q0 := hr0.out; have q1 := hr1.out; have q2 := hr2.out; have q3 := hr3.out; have q4 := hr4.out; have q5 := hr5.out; have q6 := hr6.out; unfold totServ; omega) hB
structure BoxS (w : World) (g : Nat) : Prop where
  d0 : w.cell? ⟨g, 0, none⟩ = some (.int .i64 0)
  d1 : w.cell? ⟨g, 1, none⟩ = some (.int .i64 0)
  d2 : w.cell? ⟨g, 2, none⟩ = some (.int .i64 0)
  d3 : w.cell? ⟨g, 3, none⟩ = some (.slice none 0 0)
  d4 : w.cell? ⟨g, 4, none⟩ = some (.slice none 0 0)
  d5 : w.cell? ⟨g, 5, none⟩ = some (.int .i64 0)
  d6 : w.cell? ⟨g, 6, none⟩ = some (.slice none 0 0)
  d7 : w.cell? ⟨g, 7, none⟩ = some (.slice none 0 0)
  d8 : w.cell? ⟨g, 8, none⟩ = some (.int .i64 0)
  d9 : w.cell? ⟨g, 9, none⟩ = some (.int .i64 0)
  d10 : w.cell? ⟨g, 10, none⟩ = some (.int .i64 0)
  d11 : w.cell? ⟨g, 11, none⟩ = some (.int .i64 0)
  d12 : w.cell? ⟨g, 12, none⟩ = some (.slice none 0 0)
  d13 : w.cell? ⟨g, 13, none⟩ = some (.slice none 0 0)
  d14 : w.cell? ⟨g, 14, none⟩ = some (.int .i64 0)
  d15 : w.cell? ⟨g, 15, none⟩ = some (.int .i64 0)
  d16 : w.cell? ⟨g, 16, none⟩ = some (.int .i64 0)
  d17 : w.cell? ⟨g, 17, none⟩ = some (.int .i64 0)
  d18 : w.cell? ⟨g, 18, none⟩ = some (.int .i64 0)
  d19 : w.cell? ⟨g, 19, none⟩ = some (.int .i64 0)
  d20 : w.cell? ⟨g, 20, none⟩ = some (.slice none 0 0)
  z0 : w.frozen? ⟨g, 0, none⟩ = false
  z1 : w.frozen? ⟨g, 1, none⟩ = false
  z2 : w.frozen? ⟨g, 2, none⟩ = false
  z3 : w.frozen? ⟨g, 3, none⟩ = false
  z4 : w.frozen? ⟨g, 4, none⟩ = false
  z5 : w.frozen? ⟨g, 5, none⟩ = false
  z6 : w.frozen? ⟨g, 6, none⟩ = false
  z7 : w.frozen? ⟨g, 7, none⟩ = false
  z8 : w.frozen? ⟨g, 8, none⟩ = false
  z9 : w.frozen? ⟨g, 9, none⟩ = false
  z10 : w.frozen? ⟨g, 10, none⟩ = false
  z11 : w.frozen? ⟨g, 11, none⟩ = false
  z12 : w.frozen? ⟨g, 12, none⟩ = false
  z13 : w.frozen? ⟨g, 13, none⟩ = false
  z14 : w.frozen? ⟨g, 14, none⟩ = false
  z15 : w.frozen? ⟨g, 15, none⟩ = false
  z16 : w.frozen? ⟨g, 16, none⟩ = false
  z17 : w.frozen? ⟨g, 17, none⟩ = false
  z18 : w.frozen? ⟨g, 18, none⟩ = false
  z19 : w.frozen? ⟨g, 19, none⟩ = false
  z20 : w.frozen? ⟨g, 20, none⟩ = false
theorem BoxS.new (w : World) (T : TypeId) : BoxS (w.alloc (.cells #[.int .i64 0, .int .i64 0, .int .i64 0, .slice none 0 0, .slice none 0 0, .int .i64 0, .slice none 0 0, .slice none 0 0, .int .i64 0, .int .i64 0, .int .i64 0, .int .i64 0, .slice none 0 0, .slice none 0 0, .int .i64 0, .int .i64 0, .int .i64 0, .int .i64 0, .int .i64 0, .int .i64 0, .slice none 0 0] T)) w.heap.size := by
  constructor <;> simp
theorem BoxS.below {w w' : World} {g B : Nat} (h : BoxS w g) (hb : Below B w w') (hg : g < B) : BoxS w' g :=
  ⟨(hb.cell (p := ⟨g, _, none⟩) hg).trans h.d0, (hb.cell (p := ⟨g, _, none⟩) hg).trans h.d1, (hb.cell (p := ⟨g, _, none⟩) hg).trans h.d2, (hb.cell (p := ⟨g, _, none⟩) hg).trans h.d3, (hb.cell (p := ⟨g, _, none⟩) hg).trans h.d4, (hb.cell (p := ⟨g, _, none⟩) hg).trans h.d5, (hb.cell (p := ⟨g, _, none⟩) hg).trans h.d6, (hb.cell (p := ⟨g, _, none⟩) hg).trans h.d7, (hb.cell (p := ⟨g, _, none⟩) hg).trans h.d8, (hb.cell (p := ⟨g, _, none⟩) hg).trans h.d9, (hb.cell (p := ⟨g, _, none⟩) hg).trans h.d10, (hb.cell (p := ⟨g, _, none⟩) hg).trans h.d11, (hb.cell (p := ⟨g, _, none⟩) hg).trans h.d12, (hb.cell (p := ⟨g, _, none⟩) hg).trans h.d13, (hb.cell (p := ⟨g, _, none⟩) hg).trans h.d14, (hb.cell (p := ⟨g, _, none⟩) hg).trans h.d15, (hb.cell (p := ⟨g, _, none⟩) hg).trans h.d16, (hb.cell (p := ⟨g, _, none⟩) hg).trans h.d17, (hb.cell (p := ⟨g, _, none⟩) hg).trans h.d18, (hb.cell (p := ⟨g, _, none⟩) hg).trans h.d19, (hb.cell (p := ⟨g, _, none⟩) hg).trans h.d20,
   (hb.frozen (p := ⟨g, _, none⟩) hg).trans h.z0, (hb.frozen (p := ⟨g, _, none⟩) hg).trans h.z1, (hb.frozen (p := ⟨g, _, none⟩) hg).trans h.z2, (hb.frozen (p := ⟨g, _, none⟩) hg).trans h.z3, (hb.frozen (p := ⟨g, _, none⟩) hg).trans h.z4, (hb.frozen (p := ⟨g, _, none⟩) hg).trans h.z5, (hb.frozen (p := ⟨g, _, none⟩) hg).trans h.z6, (hb.frozen (p := ⟨g, _, none⟩) hg).trans h.z7, (hb.frozen (p := ⟨g, _, none⟩) hg).trans h.z8, (hb.frozen (p := ⟨g, _, none⟩) hg).trans h.z9, (hb.frozen (p := ⟨g, _, none⟩) hg).trans h.z10, (hb.frozen (p := ⟨g, _, none⟩) hg).trans h.z11, (hb.frozen (p := ⟨g, _, none⟩) hg).trans h.z12, (hb.frozen (p := ⟨g, _, none⟩) hg).trans h.z13, (hb.frozen (p := ⟨g, _, none⟩) hg).trans h.z14, (hb.frozen (p := ⟨g, _, none⟩) hg).trans h.z15, (hb.frozen (p := ⟨g, _, none⟩) hg).trans h.z16, (hb.frozen (p := ⟨g, _, none⟩) hg).trans h.z17, (hb.frozen (p := ⟨g, _, none⟩) hg).trans h.z18, (hb.frozen (p := ⟨g, _, none⟩) hg).trans h.z19, (hb.frozen (p := ⟨g, _, none⟩) hg).trans h.z20⟩
theorem BoxS.far {V : World} {b g j : Nat} {v : Value} (h : BoxS V b) (hne : b ≠ g) : BoxS (V.setCell ⟨g, j, none⟩ v) b := by
  have k : ∀ i, (V.setCell ⟨g, j, none⟩ v).cell? ⟨b, i, none⟩ = V.cell? ⟨b, i, none⟩ := fun i => World.cell?_setCell_far V ⟨g, j, none⟩ ⟨b, i, none⟩ v (fun e => hne e.symm)
  have f : ∀ i, (V.setCell ⟨g, j, none⟩ v).frozen? ⟨b, i, none⟩ = V.frozen? ⟨b, i, none⟩ := fun i => frozen?_setCell _ _ _ _
  exact ⟨(k _).trans h.d0, (k _).trans h.d1, (k _).trans h.d2, (k _).trans h.d3, (k _).trans h.d4, (k _).trans h.d5, (k _).trans h.d6, (k _).trans h.d7, (k _).trans h.d8, (k _).trans h.d9, (k _).trans h.d10, (k _).trans h.d11, (k _).trans h.d12, (k _).trans h.d13, (k _).trans h.d14, (k _).trans h.d15, (k _).trans h.d16, (k _).trans h.d17, (k _).trans h.d18, (k _).trans h.d19, (k _).trans h.d20, (f _).trans h.z0, (f _).trans h.z1, (f _).trans h.z2, (f _).trans h.z3, (f _).trans h.z4, (f _).trans h.z5, (f _).trans h.z6, (f _).trans h.z7, (f _).trans h.z8, (f _).trans h.z9, (f _).trans h.z10, (f _).trans h.z11, (f _).trans h.z12, (f _).trans h.z13, (f _).trans h.z14, (f _).trans h.z15, (f _).trans h.z16, (f _).trans h.z17, (f _).trans h.z18, (f _).trans h.z19, (f _).trans h.z20⟩
/-- A box of 21 cells that are known by their places. -/
structure OBoxS (w : World) (g : Nat) (cs : Nat → Value) : Prop where
  c : ∀ j, j < 21 → w.cell? ⟨g, j, none⟩ = some (cs j)
  z : ∀ j, w.frozen? ⟨g, j, none⟩ = false
def zeroS : Nat → Value
  | 3 => .slice none 0 0
  | 4 => .slice none 0 0
  | 6 => .slice none 0 0
  | 7 => .slice none 0 0
  | 12 => .slice none 0 0
  | 13 => .slice none 0 0
  | 20 => .slice none 0 0
  | _ => .int .i64 0
theorem OBoxS.lt {w : World} {g : Nat} {cs : Nat → Value} (h : OBoxS w g cs) : g < w.heap.size := block_lt_of_cell (h.c 0 (by omega))
theorem OBoxS.below' {w w' : World} {g : Nat} {cs : Nat → Value} (h : OBoxS w g cs) (hb : Below w.heap.size w w') : OBoxS w' g cs :=
  ⟨fun j hj => (hb.cell (p := ⟨g, j, none⟩) h.lt).trans (h.c j hj), fun j => (hb.frozen (p := ⟨g, j, none⟩) h.lt).trans (h.z j)⟩
theorem OBoxS.set {w : World} {g : Nat} {cs : Nat → Value} (h : OBoxS w g cs) {k : Nat} (hk : k < 21) (v : Value) : OBoxS (w.setCell ⟨g, k, none⟩ v) g (fun i => if i = k then v else cs i) := by
  refine ⟨fun j hj => ?_, fun j => (frozen?_setCell _ _ _ _).trans (h.z j)⟩
  by_cases e : j = k
  · subst e; rw [if_pos rfl]; exact World.cell?_setCell_same w _ _ (h.c j hj)
  · rw [if_neg e, World.cell?_setCell_other _ _ _ _ (fun e2 => by injection e2 with _ e2 _; exact e e2.symm)]
    exact h.c j hj
theorem OBoxS.new (w : World) (T : TypeId) : OBoxS (w.alloc (.cells #[.int .i64 0, .int .i64 0, .int .i64 0, .slice none 0 0, .slice none 0 0, .int .i64 0, .slice none 0 0, .slice none 0 0, .int .i64 0, .int .i64 0, .int .i64 0, .int .i64 0, .slice none 0 0, .slice none 0 0, .int .i64 0, .int .i64 0, .int .i64 0, .int .i64 0, .int .i64 0, .int .i64 0, .slice none 0 0] T)) w.heap.size zeroS := by
  constructor
  · intro j hj
    have : j = 0 ∨ j = 1 ∨ j = 2 ∨ j = 3 ∨ j = 4 ∨ j = 5 ∨ j = 6 ∨ j = 7 ∨ j = 8 ∨ j = 9 ∨ j = 10 ∨ j = 11 ∨ j = 12 ∨ j = 13 ∨ j = 14 ∨ j = 15 ∨ j = 16 ∨ j = 17 ∨ j = 18 ∨ j = 19 ∨ j = 20 := by omega
    rcases this with h | h | h | h | h | h | h | h | h | h | h | h | h | h | h | h | h | h | h | h | h <;> subst h <;> simp [zeroS]
  · intro j; simp
theorem BoxS.onlyB {w w' : World} {g : Nat} {fp : List Nat} (h : BoxS w g) (ho : Only fp w w') (hg : g ∉ fp) : BoxS w' g :=
  have hl := block_lt_of_cell h.d0
  ⟨(World.cell?_of_block (a := ⟨g, 0, none⟩) (ho.block g hl hg)).trans h.d0, (World.cell?_of_block (a := ⟨g, 1, none⟩) (ho.block g hl hg)).trans h.d1, (World.cell?_of_block (a := ⟨g, 2, none⟩) (ho.block g hl hg)).trans h.d2, (World.cell?_of_block (a := ⟨g, 3, none⟩) (ho.block g hl hg)).trans h.d3, (World.cell?_of_block (a := ⟨g, 4, none⟩) (ho.block g hl hg)).trans h.d4, (World.cell?_of_block (a := ⟨g, 5, none⟩) (ho.block g hl hg)).trans h.d5, (World.cell?_of_block (a := ⟨g, 6, none⟩) (ho.block g hl hg)).trans h.d6, (World.cell?_of_block (a := ⟨g, 7, none⟩) (ho.block g hl hg)).trans h.d7, (World.cell?_of_block (a := ⟨g, 8, none⟩) (ho.block g hl hg)).trans h.d8, (World.cell?_of_block (a := ⟨g, 9, none⟩) (ho.block g hl hg)).trans h.d9, (World.cell?_of_block (a := ⟨g, 10, none⟩) (ho.block g hl hg)).trans h.d10, (World.cell?_of_block (a := ⟨g, 11, none⟩) (ho.block g hl hg)).trans h.d11, (World.cell?_of_block (a := ⟨g, 12, none⟩) (ho.block g hl hg)).trans h.d12, (World.cell?_of_block (a := ⟨g, 13, none⟩) (ho.block g hl hg)).trans h.d13, (World.cell?_of_block (a := ⟨g, 14, none⟩) (ho.block g hl hg)).trans h.d14, (World.cell?_of_block (a := ⟨g, 15, none⟩) (ho.block g hl hg)).trans h.d15, (World.cell?_of_block (a := ⟨g, 16, none⟩) (ho.block g hl hg)).trans h.d16, (World.cell?_of_block (a := ⟨g, 17, none⟩) (ho.block g hl hg)).trans h.d17, (World.cell?_of_block (a := ⟨g, 18, none⟩) (ho.block g hl hg)).trans h.d18, (World.cell?_of_block (a := ⟨g, 19, none⟩) (ho.block g hl hg)).trans h.d19, (World.cell?_of_block (a := ⟨g, 20, none⟩) (ho.block g hl hg)).trans h.d20, (World.frozen?_of_block (a := ⟨g, 0, none⟩) (ho.block g hl hg)).trans h.z0, (World.frozen?_of_block (a := ⟨g, 1, none⟩) (ho.block g hl hg)).trans h.z1, (World.frozen?_of_block (a := ⟨g, 2, none⟩) (ho.block g hl hg)).trans h.z2, (World.frozen?_of_block (a := ⟨g, 3, none⟩) (ho.block g hl hg)).trans h.z3, (World.frozen?_of_block (a := ⟨g, 4, none⟩) (ho.block g hl hg)).trans h.z4, (World.frozen?_of_block (a := ⟨g, 5, none⟩) (ho.block g hl hg)).trans h.z5, (World.frozen?_of_block (a := ⟨g, 6, none⟩) (ho.block g hl hg)).trans h.z6, (World.frozen?_of_block (a := ⟨g, 7, none⟩) (ho.block g hl hg)).trans h.z7, (World.frozen?_of_block (a := ⟨g, 8, none⟩) (ho.block g hl hg)).trans h.z8, (World.frozen?_of_block (a := ⟨g, 9, none⟩) (ho.block g hl hg)).trans h.z9, (World.frozen?_of_block (a := ⟨g, 10, none⟩) (ho.block g hl hg)).trans h.z10, (World.frozen?_of_block (a := ⟨g, 11, none⟩) (ho.block g hl hg)).trans h.z11, (World.frozen?_of_block (a := ⟨g, 12, none⟩) (ho.block g hl hg)).trans h.z12, (World.frozen?_of_block (a := ⟨g, 13, none⟩) (ho.block g hl hg)).trans h.z13, (World.frozen?_of_block (a := ⟨g, 14, none⟩) (ho.block g hl hg)).trans h.z14, (World.frozen?_of_block (a := ⟨g, 15, none⟩) (ho.block g hl hg)).trans h.z15, (World.frozen?_of_block (a := ⟨g, 16, none⟩) (ho.block g hl hg)).trans h.z16, (World.frozen?_of_block (a := ⟨g, 17, none⟩) (ho.block g hl hg)).trans h.z17, (World.frozen?_of_block (a := ⟨g, 18, none⟩) (ho.block g hl hg)).trans h.z18, (World.frozen?_of_block (a := ⟨g, 19, none⟩) (ho.block g hl hg)).trans h.z19, (World.frozen?_of_block (a := ⟨g, 20, none⟩) (ho.block g hl hg)).trans h.z20⟩
structure NewS (w : World) (v : SVals) (x : DServ) (F : Nat → List Nat) (w' : World) : Prop where
  rd : ServRd w' v x F
  lo : ∀ i, i < 7 → ∀ b ∈ F i, w.heap.size ≤ b
  ap : ∀ i j, i < 7 → j < 7 → i ≠ j → ∀ b ∈ F i, b ∉ F j
  nd : (F 4).Nodup
  below : Below w.heap.size w w'
set_option maxRecDepth 100000 in
set_option maxHeartbeats 16000000 in
theorem toService_any (x : DServ) (v : SVals) (F : Nat → List Nat) (w : World) (hx : ServRd w v x F) (ht : totServ x ≤ 1048576) :
    Calls Try.prog 6 #[servA v x] w fun e w' => ∃ v' F', e = .returned (servA v' x) ∧ NewS w v' x F' w' := by
  obtain ⟨l0, l1, l2, l3, l4, l5, l6⟩ : x.he.length ≤ 1048576 ∧ x.ma.length ≤ 1048576 ∧ x.se.length ≤ 1048576 ∧ x.pr.length ≤ 1048576 ∧ totAssetS x.as_ ≤ 1048576 ∧ x.ga.length ≤ 1048576 ∧ x.tx.length ≤ 1048576 := by
    unfold totServ totInt64S totLayerS totGateS totStringS at ht
    refine ⟨?_, ?_, ?_, ?_, ?_, ?_, ?_⟩ <;> omega
  have hW1 : Below w.heap.size w (w.alloc (.cells #[.int .i64 x.rows, .int .i64 x.columns, .int .i64 x.size, v.he, v.ma, .int .i64 x.friction, v.se, v.pr, .int .i64 x.rise, .int .i64 x.run, .int .i64 x.doubt, .int .i64 x.limit, v.as_, v.ga, .int .i64 x.before, .int .i64 x.level, .int .i64 x.above, .int .i64 x.fresh, .int .i64 x.weak, .int .i64 x.tonnes, v.tx] 30)) := (Below.refl _ _).alloc (Nat.le_refl _) _
  have pa := SBox.new w v x 30
  have hs1 : (w.alloc (.cells #[.int .i64 x.rows, .int .i64 x.columns, .int .i64 x.size, v.he, v.ma, .int .i64 x.friction, v.se, v.pr, .int .i64 x.rise, .int .i64 x.run, .int .i64 x.doubt, .int .i64 x.limit, v.as_, v.ga, .int .i64 x.before, .int .i64 x.level, .int .i64 x.above, .int .i64 x.fresh, .int .i64 x.weak, .int .i64 x.tonnes, v.tx] 30)).heap.size = w.heap.size + 1 := World.size_alloc _ _
  replace hx := hx.below' hW1
  have hFl : ∀ i, i < 7 → ∀ b ∈ F i, b ≤ w.heap.size := fun i hi b hb => by have := hx.ltF i hi b hb; omega
  unfold servA
  go_enter Try.func6, Try.ntmps6
  go_wp2_with fail
  generalize w.alloc (.cells #[.int .i64 x.rows, .int .i64 x.columns, .int .i64 x.size, v.he, v.ma, .int .i64 x.friction, v.se, v.pr, .int .i64 x.rise, .int .i64 x.run, .int .i64 x.doubt, .int .i64 x.limit, v.as_, v.ga, .int .i64 x.before, .int .i64 x.level, .int .i64 x.above, .int .i64 x.fresh, .int .i64 x.weak, .int .i64 x.tonnes, v.tx] 30) = w1 at *
  have pr := BoxS.new w1 38
  have hbA := (Below.refl w1.heap.size w1).alloc (Nat.le_refl _) (.cells #[.int .i64 0, .int .i64 0, .int .i64 0, .slice none 0 0, .slice none 0 0, .int .i64 0, .slice none 0 0, .slice none 0 0, .int .i64 0, .int .i64 0, .int .i64 0, .int .i64 0, .slice none 0 0, .slice none 0 0, .int .i64 0, .int .i64 0, .int .i64 0, .int .i64 0, .int .i64 0, .int .i64 0, .slice none 0 0] 38)
  have hs2 : (w1.alloc (.cells #[.int .i64 0, .int .i64 0, .int .i64 0, .slice none 0 0, .slice none 0 0, .int .i64 0, .slice none 0 0, .slice none 0 0, .int .i64 0, .int .i64 0, .int .i64 0, .int .i64 0, .slice none 0 0, .slice none 0 0, .int .i64 0, .int .i64 0, .int .i64 0, .int .i64 0, .int .i64 0, .int .i64 0, .slice none 0 0] 38)).heap.size = w1.heap.size + 1 := World.size_alloc _ _
  have hW2 := hW1.trans (hbA.mono hW1.size)
  replace pa := pa.below' hbA
  replace hx := hx.below' hbA
  generalize w1.alloc (.cells #[.int .i64 0, .int .i64 0, .int .i64 0, .slice none 0 0, .slice none 0 0, .int .i64 0, .slice none 0 0, .slice none 0 0, .int .i64 0, .int .i64 0, .int .i64 0, .int .i64 0, .slice none 0 0, .slice none 0 0, .int .i64 0, .int .i64 0, .int .i64 0, .int .i64 0, .int .i64 0, .int .i64 0, .slice none 0 0] 38) = w2 at *
  have po := OBoxS.new w2 38
  have hbB := (Below.refl w2.heap.size w2).alloc (Nat.le_refl _) (.cells #[.int .i64 0, .int .i64 0, .int .i64 0, .slice none 0 0, .slice none 0 0, .int .i64 0, .slice none 0 0, .slice none 0 0, .int .i64 0, .int .i64 0, .int .i64 0, .int .i64 0, .slice none 0 0, .slice none 0 0, .int .i64 0, .int .i64 0, .int .i64 0, .int .i64 0, .int .i64 0, .int .i64 0, .slice none 0 0] 38)
  have hs3 : (w2.alloc (.cells #[.int .i64 0, .int .i64 0, .int .i64 0, .slice none 0 0, .slice none 0 0, .int .i64 0, .slice none 0 0, .slice none 0 0, .int .i64 0, .int .i64 0, .int .i64 0, .int .i64 0, .slice none 0 0, .slice none 0 0, .int .i64 0, .int .i64 0, .int .i64 0, .int .i64 0, .int .i64 0, .int .i64 0, .slice none 0 0] 38)).heap.size = w2.heap.size + 1 := World.size_alloc _ _
  have hB := hW2.trans (hbB.mono hW2.size)
  replace pa := pa.below' hbB
  replace hx := hx.below' hbB
  replace pr := pr.below hbB (by omega)
  rw [hs1] at *
  generalize w2.alloc (.cells #[.int .i64 0, .int .i64 0, .int .i64 0, .slice none 0 0, .slice none 0 0, .int .i64 0, .slice none 0 0, .slice none 0 0, .int .i64 0, .int .i64 0, .int .i64 0, .int .i64 0, .slice none 0 0, .slice none 0 0, .int .i64 0, .int .i64 0, .int .i64 0, .int .i64 0, .int .i64 0, .int .i64 0, .slice none 0 0] 38) = W at *
  have hg : w2.heap.size = w.heap.size + 1 + 1 := by omega
  rw [hg] at po hs3
  clear hbA hbB hW1 hW2 hs2 hs1 hg
  refine (toGrid_any _ _ _ _ _ _ _ hx.he l0).mono ?_
  rintro e C0 ⟨B0, q0, rfl, ⟨⟨f0, s0, lo0, nd0⟩, hbn⟩⟩
  have hi0 := s0.lt
  have zc0 := hbn.size
  have hxC := hx.below' hbn
  have paC := pa.below' hbn
  have poC := po.below' hbn
  have prC := pr.below hbn (by omega)
  have hBC := hB.trans (hbn.mono hB.size)
  have t0 := s0
  clear hx pa po pr hB hbn s0
  have oc0 := poC.c 0 (by decide)
  have oz0 := poC.z 0
  have oc1 := poC.c 1 (by decide)
  have oz1 := poC.z 1
  have oc2 := poC.c 2 (by decide)
  have oz2 := poC.z 2
  have oc3 := poC.c 3 (by decide)
  have oz3 := poC.z 3
  have ho : Only [w.heap.size + 1 + 1] C0 ((((C0.setCell ⟨w.heap.size + 1 + 1, 0, none⟩ (.int .i64 x.rows)).setCell ⟨w.heap.size + 1 + 1, 1, none⟩ (.int .i64 x.columns)).setCell ⟨w.heap.size + 1 + 1, 2, none⟩ (.int .i64 x.size)).setCell ⟨w.heap.size + 1 + 1, 3, none⟩ (.slice B0 x.he.length q0)) := by
    repeat (refine Only.set ?_ _ _)
    exact Only.refl _ _
  have hx := hxC.onlyF ho (fun i hi b hb hm => by rw [List.mem_singleton] at hm; have := hFl i hi b hb; omega)
  have pa := paC.only ho (fun hm => by rw [List.mem_singleton] at hm; omega)
  have pr := prC.onlyB ho (fun hm => by rw [List.mem_singleton] at hm; omega)
  have po : OBoxS ((((C0.setCell ⟨w.heap.size + 1 + 1, 0, none⟩ (.int .i64 x.rows)).setCell ⟨w.heap.size + 1 + 1, 1, none⟩ (.int .i64 x.columns)).setCell ⟨w.heap.size + 1 + 1, 2, none⟩ (.int .i64 x.size)).setCell ⟨w.heap.size + 1 + 1, 3, none⟩ (.slice B0 x.he.length q0)) (w.heap.size + 1 + 1) _ := ((((((((poC).set (k := 0) (by decide) (.int .i64 x.rows))).set (k := 1) (by decide) (.int .i64 x.columns))).set (k := 2) (by decide) (.int .i64 x.size))).set (k := 3) (by decide) (.slice B0 x.he.length q0))
  have hB := hBC.trans (ho.below (B := w.heap.size) hBC.size (fun b hm => by rw [List.mem_singleton] at hm; omega))
  have zd0 : ((((C0.setCell ⟨w.heap.size + 1 + 1, 0, none⟩ (.int .i64 x.rows)).setCell ⟨w.heap.size + 1 + 1, 1, none⟩ (.int .i64 x.columns)).setCell ⟨w.heap.size + 1 + 1, 2, none⟩ (.int .i64 x.size)).setCell ⟨w.heap.size + 1 + 1, 3, none⟩ (.slice B0 x.he.length q0)).heap.size = C0.heap.size := by simp
  have s0 := t0.only ho (fun b hb hm => by rw [List.mem_singleton] at hm; have := lo0 b hb; omega)
  clear hxC paC prC poC hBC ho t0
  have ca4 := pa.c4
  go_wp2_with fail
  generalize hD0 : ((((C0.setCell ⟨w.heap.size + 1 + 1, 0, none⟩ (.int .i64 x.rows)).setCell ⟨w.heap.size + 1 + 1, 1, none⟩ (.int .i64 x.columns)).setCell ⟨w.heap.size + 1 + 1, 2, none⟩ (.int .i64 x.size)).setCell ⟨w.heap.size + 1 + 1, 3, none⟩ (.slice B0 x.he.length q0)) = D0 at *
  clear hD0 oc0 oz0 oc1 oz1 oc2 oz2 oc3 oz3
  refine (toInt64S_any _ _ _ _ hx.ma l1).mono ?_
  rintro e C1 ⟨y, rfl, ⟨⟨f1, s1, lo1, nd1⟩, hbn⟩⟩
  obtain ⟨B1, q1, rfl, _, _⟩ := s1.form
  have hi1 := s1.lt
  have zc1 := hbn.size
  have hxC := hx.below' hbn
  have paC := pa.below' hbn
  have poC := po.below' hbn
  have prC := pr.below hbn (by omega)
  have hBC := hB.trans (hbn.mono hB.size)
  have t0 := s0.below' hbn
  have t1 := s1
  clear hx pa po pr hB hbn s0 s1 ca4
  have oc4 := poC.c 4 (by decide)
  have oz4 := poC.z 4
  have oc5 := poC.c 5 (by decide)
  have oz5 := poC.z 5
  have ca5 : (C1.setCell ⟨w.heap.size + 1 + 1, 4, none⟩ (.slice B1 x.ma.length q1)).cell? ⟨w.heap.size, 5, none⟩ = some (.int .i64 x.friction) := (paC.only (fp := [w.heap.size + 1 + 1]) (by (repeat (refine Only.set ?_ _ _)); exact Only.refl _ _) (fun hm => by rw [List.mem_singleton] at hm; omega)).c5
  have ho : Only [w.heap.size + 1 + 1] C1 ((C1.setCell ⟨w.heap.size + 1 + 1, 4, none⟩ (.slice B1 x.ma.length q1)).setCell ⟨w.heap.size + 1 + 1, 5, none⟩ (.int .i64 x.friction)) := by
    repeat (refine Only.set ?_ _ _)
    exact Only.refl _ _
  have hx := hxC.onlyF ho (fun i hi b hb hm => by rw [List.mem_singleton] at hm; have := hFl i hi b hb; omega)
  have pa := paC.only ho (fun hm => by rw [List.mem_singleton] at hm; omega)
  have pr := prC.onlyB ho (fun hm => by rw [List.mem_singleton] at hm; omega)
  have po : OBoxS ((C1.setCell ⟨w.heap.size + 1 + 1, 4, none⟩ (.slice B1 x.ma.length q1)).setCell ⟨w.heap.size + 1 + 1, 5, none⟩ (.int .i64 x.friction)) (w.heap.size + 1 + 1) _ := ((((poC).set (k := 4) (by decide) (.slice B1 x.ma.length q1))).set (k := 5) (by decide) (.int .i64 x.friction))
  have hB := hBC.trans (ho.below (B := w.heap.size) hBC.size (fun b hm => by rw [List.mem_singleton] at hm; omega))
  have zd1 : ((C1.setCell ⟨w.heap.size + 1 + 1, 4, none⟩ (.slice B1 x.ma.length q1)).setCell ⟨w.heap.size + 1 + 1, 5, none⟩ (.int .i64 x.friction)).heap.size = C1.heap.size := by simp
  have s0 := t0.only ho (fun b hb hm => by rw [List.mem_singleton] at hm; have := lo0 b hb; omega)
  have s1 := t1.only ho (fun b hb hm => by rw [List.mem_singleton] at hm; have := lo1 b hb; omega)
  clear hxC paC prC poC hBC ho t0 t1
  have ca6 := pa.c6
  go_wp2_with fail
  generalize hD1 : ((C1.setCell ⟨w.heap.size + 1 + 1, 4, none⟩ (.slice B1 x.ma.length q1)).setCell ⟨w.heap.size + 1 + 1, 5, none⟩ (.int .i64 x.friction)) = D1 at *
  clear hD1 oc4 oz4 oc5 oz5 ca5
  refine (toInt64S_any _ _ _ _ hx.se l2).mono ?_
  rintro e C2 ⟨y, rfl, ⟨⟨f2, s2, lo2, nd2⟩, hbn⟩⟩
  obtain ⟨B2, q2, rfl, _, _⟩ := s2.form
  have hi2 := s2.lt
  have zc2 := hbn.size
  have hxC := hx.below' hbn
  have paC := pa.below' hbn
  have poC := po.below' hbn
  have prC := pr.below hbn (by omega)
  have hBC := hB.trans (hbn.mono hB.size)
  have t0 := s0.below' hbn
  have t1 := s1.below' hbn
  have t2 := s2
  clear hx pa po pr hB hbn s0 s1 s2 ca6
  have oc6 := poC.c 6 (by decide)
  have oz6 := poC.z 6
  have ho : Only [w.heap.size + 1 + 1] C2 (C2.setCell ⟨w.heap.size + 1 + 1, 6, none⟩ (.slice B2 x.se.length q2)) := by
    repeat (refine Only.set ?_ _ _)
    exact Only.refl _ _
  have hx := hxC.onlyF ho (fun i hi b hb hm => by rw [List.mem_singleton] at hm; have := hFl i hi b hb; omega)
  have pa := paC.only ho (fun hm => by rw [List.mem_singleton] at hm; omega)
  have pr := prC.onlyB ho (fun hm => by rw [List.mem_singleton] at hm; omega)
  have po : OBoxS (C2.setCell ⟨w.heap.size + 1 + 1, 6, none⟩ (.slice B2 x.se.length q2)) (w.heap.size + 1 + 1) _ := ((poC).set (k := 6) (by decide) (.slice B2 x.se.length q2))
  have hB := hBC.trans (ho.below (B := w.heap.size) hBC.size (fun b hm => by rw [List.mem_singleton] at hm; omega))
  have zd2 : (C2.setCell ⟨w.heap.size + 1 + 1, 6, none⟩ (.slice B2 x.se.length q2)).heap.size = C2.heap.size := by simp
  have s0 := t0.only ho (fun b hb hm => by rw [List.mem_singleton] at hm; have := lo0 b hb; omega)
  have s1 := t1.only ho (fun b hb hm => by rw [List.mem_singleton] at hm; have := lo1 b hb; omega)
  have s2 := t2.only ho (fun b hb hm => by rw [List.mem_singleton] at hm; have := lo2 b hb; omega)
  clear hxC paC prC poC hBC ho t0 t1 t2
  have ca7 := pa.c7
  go_wp2_with fail
  generalize hD2 : (C2.setCell ⟨w.heap.size + 1 + 1, 6, none⟩ (.slice B2 x.se.length q2)) = D2 at *
  clear hD2 oc6 oz6
  refine (toLayerS_any _ _ _ _ hx.pr l3).mono ?_
  rintro e C3 ⟨y, rfl, ⟨⟨f3, s3, lo3, nd3⟩, hbn⟩⟩
  obtain ⟨B3, q3, rfl, _, _⟩ := s3.form
  have hi3 := s3.lt
  have zc3 := hbn.size
  have hxC := hx.below' hbn
  have paC := pa.below' hbn
  have poC := po.below' hbn
  have prC := pr.below hbn (by omega)
  have hBC := hB.trans (hbn.mono hB.size)
  have t0 := s0.below' hbn
  have t1 := s1.below' hbn
  have t2 := s2.below' hbn
  have t3 := s3
  clear hx pa po pr hB hbn s0 s1 s2 s3 ca7
  have oc7 := poC.c 7 (by decide)
  have oz7 := poC.z 7
  have oc8 := poC.c 8 (by decide)
  have oz8 := poC.z 8
  have oc9 := poC.c 9 (by decide)
  have oz9 := poC.z 9
  have oc10 := poC.c 10 (by decide)
  have oz10 := poC.z 10
  have oc11 := poC.c 11 (by decide)
  have oz11 := poC.z 11
  have ca8 : (C3.setCell ⟨w.heap.size + 1 + 1, 7, none⟩ (.slice B3 x.pr.length q3)).cell? ⟨w.heap.size, 8, none⟩ = some (.int .i64 x.rise) := (paC.only (fp := [w.heap.size + 1 + 1]) (by (repeat (refine Only.set ?_ _ _)); exact Only.refl _ _) (fun hm => by rw [List.mem_singleton] at hm; omega)).c8
  have ca9 : ((C3.setCell ⟨w.heap.size + 1 + 1, 7, none⟩ (.slice B3 x.pr.length q3)).setCell ⟨w.heap.size + 1 + 1, 8, none⟩ (.int .i64 x.rise)).cell? ⟨w.heap.size, 9, none⟩ = some (.int .i64 x.run) := (paC.only (fp := [w.heap.size + 1 + 1]) (by (repeat (refine Only.set ?_ _ _)); exact Only.refl _ _) (fun hm => by rw [List.mem_singleton] at hm; omega)).c9
  have ca10 : (((C3.setCell ⟨w.heap.size + 1 + 1, 7, none⟩ (.slice B3 x.pr.length q3)).setCell ⟨w.heap.size + 1 + 1, 8, none⟩ (.int .i64 x.rise)).setCell ⟨w.heap.size + 1 + 1, 9, none⟩ (.int .i64 x.run)).cell? ⟨w.heap.size, 10, none⟩ = some (.int .i64 x.doubt) := (paC.only (fp := [w.heap.size + 1 + 1]) (by (repeat (refine Only.set ?_ _ _)); exact Only.refl _ _) (fun hm => by rw [List.mem_singleton] at hm; omega)).c10
  have ca11 : ((((C3.setCell ⟨w.heap.size + 1 + 1, 7, none⟩ (.slice B3 x.pr.length q3)).setCell ⟨w.heap.size + 1 + 1, 8, none⟩ (.int .i64 x.rise)).setCell ⟨w.heap.size + 1 + 1, 9, none⟩ (.int .i64 x.run)).setCell ⟨w.heap.size + 1 + 1, 10, none⟩ (.int .i64 x.doubt)).cell? ⟨w.heap.size, 11, none⟩ = some (.int .i64 x.limit) := (paC.only (fp := [w.heap.size + 1 + 1]) (by (repeat (refine Only.set ?_ _ _)); exact Only.refl _ _) (fun hm => by rw [List.mem_singleton] at hm; omega)).c11
  have ho : Only [w.heap.size + 1 + 1] C3 (((((C3.setCell ⟨w.heap.size + 1 + 1, 7, none⟩ (.slice B3 x.pr.length q3)).setCell ⟨w.heap.size + 1 + 1, 8, none⟩ (.int .i64 x.rise)).setCell ⟨w.heap.size + 1 + 1, 9, none⟩ (.int .i64 x.run)).setCell ⟨w.heap.size + 1 + 1, 10, none⟩ (.int .i64 x.doubt)).setCell ⟨w.heap.size + 1 + 1, 11, none⟩ (.int .i64 x.limit)) := by
    repeat (refine Only.set ?_ _ _)
    exact Only.refl _ _
  have hx := hxC.onlyF ho (fun i hi b hb hm => by rw [List.mem_singleton] at hm; have := hFl i hi b hb; omega)
  have pa := paC.only ho (fun hm => by rw [List.mem_singleton] at hm; omega)
  have pr := prC.onlyB ho (fun hm => by rw [List.mem_singleton] at hm; omega)
  have po : OBoxS (((((C3.setCell ⟨w.heap.size + 1 + 1, 7, none⟩ (.slice B3 x.pr.length q3)).setCell ⟨w.heap.size + 1 + 1, 8, none⟩ (.int .i64 x.rise)).setCell ⟨w.heap.size + 1 + 1, 9, none⟩ (.int .i64 x.run)).setCell ⟨w.heap.size + 1 + 1, 10, none⟩ (.int .i64 x.doubt)).setCell ⟨w.heap.size + 1 + 1, 11, none⟩ (.int .i64 x.limit)) (w.heap.size + 1 + 1) _ := ((((((((((poC).set (k := 7) (by decide) (.slice B3 x.pr.length q3))).set (k := 8) (by decide) (.int .i64 x.rise))).set (k := 9) (by decide) (.int .i64 x.run))).set (k := 10) (by decide) (.int .i64 x.doubt))).set (k := 11) (by decide) (.int .i64 x.limit))
  have hB := hBC.trans (ho.below (B := w.heap.size) hBC.size (fun b hm => by rw [List.mem_singleton] at hm; omega))
  have zd3 : (((((C3.setCell ⟨w.heap.size + 1 + 1, 7, none⟩ (.slice B3 x.pr.length q3)).setCell ⟨w.heap.size + 1 + 1, 8, none⟩ (.int .i64 x.rise)).setCell ⟨w.heap.size + 1 + 1, 9, none⟩ (.int .i64 x.run)).setCell ⟨w.heap.size + 1 + 1, 10, none⟩ (.int .i64 x.doubt)).setCell ⟨w.heap.size + 1 + 1, 11, none⟩ (.int .i64 x.limit)).heap.size = C3.heap.size := by simp
  have s0 := t0.only ho (fun b hb hm => by rw [List.mem_singleton] at hm; have := lo0 b hb; omega)
  have s1 := t1.only ho (fun b hb hm => by rw [List.mem_singleton] at hm; have := lo1 b hb; omega)
  have s2 := t2.only ho (fun b hb hm => by rw [List.mem_singleton] at hm; have := lo2 b hb; omega)
  have s3 := t3.only ho (fun b hb hm => by rw [List.mem_singleton] at hm; have := lo3 b hb; omega)
  clear hxC paC prC poC hBC ho t0 t1 t2 t3
  have ca12 := pa.c12
  go_wp2_with fail
  generalize hD3 : (((((C3.setCell ⟨w.heap.size + 1 + 1, 7, none⟩ (.slice B3 x.pr.length q3)).setCell ⟨w.heap.size + 1 + 1, 8, none⟩ (.int .i64 x.rise)).setCell ⟨w.heap.size + 1 + 1, 9, none⟩ (.int .i64 x.run)).setCell ⟨w.heap.size + 1 + 1, 10, none⟩ (.int .i64 x.doubt)).setCell ⟨w.heap.size + 1 + 1, 11, none⟩ (.int .i64 x.limit)) = D3 at *
  clear hD3 oc7 oz7 oc8 oz8 oc9 oz9 oc10 oz10 oc11 oz11 ca8 ca9 ca10 ca11
  refine (toAssetS_any _ _ _ _ hx.as_ l4).mono ?_
  rintro e C4 ⟨y, rfl, ⟨⟨f4, s4, lo4, nd4⟩, hbn⟩⟩
  obtain ⟨B4, q4, rfl, _, _⟩ := s4.form
  have hi4 := s4.lt
  have zc4 := hbn.size
  have hxC := hx.below' hbn
  have paC := pa.below' hbn
  have poC := po.below' hbn
  have prC := pr.below hbn (by omega)
  have hBC := hB.trans (hbn.mono hB.size)
  have t0 := s0.below' hbn
  have t1 := s1.below' hbn
  have t2 := s2.below' hbn
  have t3 := s3.below' hbn
  have t4 := s4
  clear hx pa po pr hB hbn s0 s1 s2 s3 s4 ca12
  have oc12 := poC.c 12 (by decide)
  have oz12 := poC.z 12
  have ho : Only [w.heap.size + 1 + 1] C4 (C4.setCell ⟨w.heap.size + 1 + 1, 12, none⟩ (.slice B4 x.as_.length q4)) := by
    repeat (refine Only.set ?_ _ _)
    exact Only.refl _ _
  have hx := hxC.onlyF ho (fun i hi b hb hm => by rw [List.mem_singleton] at hm; have := hFl i hi b hb; omega)
  have pa := paC.only ho (fun hm => by rw [List.mem_singleton] at hm; omega)
  have pr := prC.onlyB ho (fun hm => by rw [List.mem_singleton] at hm; omega)
  have po : OBoxS (C4.setCell ⟨w.heap.size + 1 + 1, 12, none⟩ (.slice B4 x.as_.length q4)) (w.heap.size + 1 + 1) _ := ((poC).set (k := 12) (by decide) (.slice B4 x.as_.length q4))
  have hB := hBC.trans (ho.below (B := w.heap.size) hBC.size (fun b hm => by rw [List.mem_singleton] at hm; omega))
  have zd4 : (C4.setCell ⟨w.heap.size + 1 + 1, 12, none⟩ (.slice B4 x.as_.length q4)).heap.size = C4.heap.size := by simp
  have s0 := t0.only ho (fun b hb hm => by rw [List.mem_singleton] at hm; have := lo0 b hb; omega)
  have s1 := t1.only ho (fun b hb hm => by rw [List.mem_singleton] at hm; have := lo1 b hb; omega)
  have s2 := t2.only ho (fun b hb hm => by rw [List.mem_singleton] at hm; have := lo2 b hb; omega)
  have s3 := t3.only ho (fun b hb hm => by rw [List.mem_singleton] at hm; have := lo3 b hb; omega)
  have s4 := t4.only ho (fun b hb hm => by rw [List.mem_singleton] at hm; have := lo4 b hb; omega)
  clear hxC paC prC poC hBC ho t0 t1 t2 t3 t4
  have ca13 := pa.c13
  go_wp2_with fail
  generalize hD4 : (C4.setCell ⟨w.heap.size + 1 + 1, 12, none⟩ (.slice B4 x.as_.length q4)) = D4 at *
  clear hD4 oc12 oz12
  refine (toGateS_any _ _ _ _ hx.ga l5).mono ?_
  rintro e C5 ⟨y, rfl, ⟨⟨f5, s5, lo5, nd5⟩, hbn⟩⟩
  obtain ⟨B5, q5, rfl, _, _⟩ := s5.form
  have hi5 := s5.lt
  have zc5 := hbn.size
  have hxC := hx.below' hbn
  have paC := pa.below' hbn
  have poC := po.below' hbn
  have prC := pr.below hbn (by omega)
  have hBC := hB.trans (hbn.mono hB.size)
  have t0 := s0.below' hbn
  have t1 := s1.below' hbn
  have t2 := s2.below' hbn
  have t3 := s3.below' hbn
  have t4 := s4.below' hbn
  have t5 := s5
  clear hx pa po pr hB hbn s0 s1 s2 s3 s4 s5 ca13
  have oc13 := poC.c 13 (by decide)
  have oz13 := poC.z 13
  have oc14 := poC.c 14 (by decide)
  have oz14 := poC.z 14
  have oc15 := poC.c 15 (by decide)
  have oz15 := poC.z 15
  have oc16 := poC.c 16 (by decide)
  have oz16 := poC.z 16
  have oc17 := poC.c 17 (by decide)
  have oz17 := poC.z 17
  have oc18 := poC.c 18 (by decide)
  have oz18 := poC.z 18
  have oc19 := poC.c 19 (by decide)
  have oz19 := poC.z 19
  have ca14 : (C5.setCell ⟨w.heap.size + 1 + 1, 13, none⟩ (.slice B5 x.ga.length q5)).cell? ⟨w.heap.size, 14, none⟩ = some (.int .i64 x.before) := (paC.only (fp := [w.heap.size + 1 + 1]) (by (repeat (refine Only.set ?_ _ _)); exact Only.refl _ _) (fun hm => by rw [List.mem_singleton] at hm; omega)).c14
  have ca15 : ((C5.setCell ⟨w.heap.size + 1 + 1, 13, none⟩ (.slice B5 x.ga.length q5)).setCell ⟨w.heap.size + 1 + 1, 14, none⟩ (.int .i64 x.before)).cell? ⟨w.heap.size, 15, none⟩ = some (.int .i64 x.level) := (paC.only (fp := [w.heap.size + 1 + 1]) (by (repeat (refine Only.set ?_ _ _)); exact Only.refl _ _) (fun hm => by rw [List.mem_singleton] at hm; omega)).c15
  have ca16 : (((C5.setCell ⟨w.heap.size + 1 + 1, 13, none⟩ (.slice B5 x.ga.length q5)).setCell ⟨w.heap.size + 1 + 1, 14, none⟩ (.int .i64 x.before)).setCell ⟨w.heap.size + 1 + 1, 15, none⟩ (.int .i64 x.level)).cell? ⟨w.heap.size, 16, none⟩ = some (.int .i64 x.above) := (paC.only (fp := [w.heap.size + 1 + 1]) (by (repeat (refine Only.set ?_ _ _)); exact Only.refl _ _) (fun hm => by rw [List.mem_singleton] at hm; omega)).c16
  have ca17 : ((((C5.setCell ⟨w.heap.size + 1 + 1, 13, none⟩ (.slice B5 x.ga.length q5)).setCell ⟨w.heap.size + 1 + 1, 14, none⟩ (.int .i64 x.before)).setCell ⟨w.heap.size + 1 + 1, 15, none⟩ (.int .i64 x.level)).setCell ⟨w.heap.size + 1 + 1, 16, none⟩ (.int .i64 x.above)).cell? ⟨w.heap.size, 17, none⟩ = some (.int .i64 x.fresh) := (paC.only (fp := [w.heap.size + 1 + 1]) (by (repeat (refine Only.set ?_ _ _)); exact Only.refl _ _) (fun hm => by rw [List.mem_singleton] at hm; omega)).c17
  have ca18 : (((((C5.setCell ⟨w.heap.size + 1 + 1, 13, none⟩ (.slice B5 x.ga.length q5)).setCell ⟨w.heap.size + 1 + 1, 14, none⟩ (.int .i64 x.before)).setCell ⟨w.heap.size + 1 + 1, 15, none⟩ (.int .i64 x.level)).setCell ⟨w.heap.size + 1 + 1, 16, none⟩ (.int .i64 x.above)).setCell ⟨w.heap.size + 1 + 1, 17, none⟩ (.int .i64 x.fresh)).cell? ⟨w.heap.size, 18, none⟩ = some (.int .i64 x.weak) := (paC.only (fp := [w.heap.size + 1 + 1]) (by (repeat (refine Only.set ?_ _ _)); exact Only.refl _ _) (fun hm => by rw [List.mem_singleton] at hm; omega)).c18
  have ca19 : ((((((C5.setCell ⟨w.heap.size + 1 + 1, 13, none⟩ (.slice B5 x.ga.length q5)).setCell ⟨w.heap.size + 1 + 1, 14, none⟩ (.int .i64 x.before)).setCell ⟨w.heap.size + 1 + 1, 15, none⟩ (.int .i64 x.level)).setCell ⟨w.heap.size + 1 + 1, 16, none⟩ (.int .i64 x.above)).setCell ⟨w.heap.size + 1 + 1, 17, none⟩ (.int .i64 x.fresh)).setCell ⟨w.heap.size + 1 + 1, 18, none⟩ (.int .i64 x.weak)).cell? ⟨w.heap.size, 19, none⟩ = some (.int .i64 x.tonnes) := (paC.only (fp := [w.heap.size + 1 + 1]) (by (repeat (refine Only.set ?_ _ _)); exact Only.refl _ _) (fun hm => by rw [List.mem_singleton] at hm; omega)).c19
  have ho : Only [w.heap.size + 1 + 1] C5 (((((((C5.setCell ⟨w.heap.size + 1 + 1, 13, none⟩ (.slice B5 x.ga.length q5)).setCell ⟨w.heap.size + 1 + 1, 14, none⟩ (.int .i64 x.before)).setCell ⟨w.heap.size + 1 + 1, 15, none⟩ (.int .i64 x.level)).setCell ⟨w.heap.size + 1 + 1, 16, none⟩ (.int .i64 x.above)).setCell ⟨w.heap.size + 1 + 1, 17, none⟩ (.int .i64 x.fresh)).setCell ⟨w.heap.size + 1 + 1, 18, none⟩ (.int .i64 x.weak)).setCell ⟨w.heap.size + 1 + 1, 19, none⟩ (.int .i64 x.tonnes)) := by
    repeat (refine Only.set ?_ _ _)
    exact Only.refl _ _
  have hx := hxC.onlyF ho (fun i hi b hb hm => by rw [List.mem_singleton] at hm; have := hFl i hi b hb; omega)
  have pa := paC.only ho (fun hm => by rw [List.mem_singleton] at hm; omega)
  have pr := prC.onlyB ho (fun hm => by rw [List.mem_singleton] at hm; omega)
  have po : OBoxS (((((((C5.setCell ⟨w.heap.size + 1 + 1, 13, none⟩ (.slice B5 x.ga.length q5)).setCell ⟨w.heap.size + 1 + 1, 14, none⟩ (.int .i64 x.before)).setCell ⟨w.heap.size + 1 + 1, 15, none⟩ (.int .i64 x.level)).setCell ⟨w.heap.size + 1 + 1, 16, none⟩ (.int .i64 x.above)).setCell ⟨w.heap.size + 1 + 1, 17, none⟩ (.int .i64 x.fresh)).setCell ⟨w.heap.size + 1 + 1, 18, none⟩ (.int .i64 x.weak)).setCell ⟨w.heap.size + 1 + 1, 19, none⟩ (.int .i64 x.tonnes)) (w.heap.size + 1 + 1) _ := ((((((((((((((poC).set (k := 13) (by decide) (.slice B5 x.ga.length q5))).set (k := 14) (by decide) (.int .i64 x.before))).set (k := 15) (by decide) (.int .i64 x.level))).set (k := 16) (by decide) (.int .i64 x.above))).set (k := 17) (by decide) (.int .i64 x.fresh))).set (k := 18) (by decide) (.int .i64 x.weak))).set (k := 19) (by decide) (.int .i64 x.tonnes))
  have hB := hBC.trans (ho.below (B := w.heap.size) hBC.size (fun b hm => by rw [List.mem_singleton] at hm; omega))
  have zd5 : (((((((C5.setCell ⟨w.heap.size + 1 + 1, 13, none⟩ (.slice B5 x.ga.length q5)).setCell ⟨w.heap.size + 1 + 1, 14, none⟩ (.int .i64 x.before)).setCell ⟨w.heap.size + 1 + 1, 15, none⟩ (.int .i64 x.level)).setCell ⟨w.heap.size + 1 + 1, 16, none⟩ (.int .i64 x.above)).setCell ⟨w.heap.size + 1 + 1, 17, none⟩ (.int .i64 x.fresh)).setCell ⟨w.heap.size + 1 + 1, 18, none⟩ (.int .i64 x.weak)).setCell ⟨w.heap.size + 1 + 1, 19, none⟩ (.int .i64 x.tonnes)).heap.size = C5.heap.size := by simp
  have s0 := t0.only ho (fun b hb hm => by rw [List.mem_singleton] at hm; have := lo0 b hb; omega)
  have s1 := t1.only ho (fun b hb hm => by rw [List.mem_singleton] at hm; have := lo1 b hb; omega)
  have s2 := t2.only ho (fun b hb hm => by rw [List.mem_singleton] at hm; have := lo2 b hb; omega)
  have s3 := t3.only ho (fun b hb hm => by rw [List.mem_singleton] at hm; have := lo3 b hb; omega)
  have s4 := t4.only ho (fun b hb hm => by rw [List.mem_singleton] at hm; have := lo4 b hb; omega)
  have s5 := t5.only ho (fun b hb hm => by rw [List.mem_singleton] at hm; have := lo5 b hb; omega)
  clear hxC paC prC poC hBC ho t0 t1 t2 t3 t4 t5
  have ca20 := pa.c20
  go_wp2_with fail
  generalize hD5 : (((((((C5.setCell ⟨w.heap.size + 1 + 1, 13, none⟩ (.slice B5 x.ga.length q5)).setCell ⟨w.heap.size + 1 + 1, 14, none⟩ (.int .i64 x.before)).setCell ⟨w.heap.size + 1 + 1, 15, none⟩ (.int .i64 x.level)).setCell ⟨w.heap.size + 1 + 1, 16, none⟩ (.int .i64 x.above)).setCell ⟨w.heap.size + 1 + 1, 17, none⟩ (.int .i64 x.fresh)).setCell ⟨w.heap.size + 1 + 1, 18, none⟩ (.int .i64 x.weak)).setCell ⟨w.heap.size + 1 + 1, 19, none⟩ (.int .i64 x.tonnes)) = D5 at *
  clear hD5 oc13 oz13 oc14 oz14 oc15 oz15 oc16 oz16 oc17 oz17 oc18 oz18 oc19 oz19 ca14 ca15 ca16 ca17 ca18 ca19
  refine (toStringS_any _ _ _ _ hx.tx l6).mono ?_
  rintro e C6 ⟨y, rfl, ⟨⟨f6, s6, lo6, nd6⟩, hbn⟩⟩
  obtain ⟨B6, q6, rfl, _, _⟩ := s6.form
  have hi6 := s6.lt
  have zc6 := hbn.size
  have hxC := hx.below' hbn
  have paC := pa.below' hbn
  have poC := po.below' hbn
  have prC := pr.below hbn (by omega)
  have hBC := hB.trans (hbn.mono hB.size)
  have t0 := s0.below' hbn
  have t1 := s1.below' hbn
  have t2 := s2.below' hbn
  have t3 := s3.below' hbn
  have t4 := s4.below' hbn
  have t5 := s5.below' hbn
  have t6 := s6
  clear hx pa po pr hB hbn s0 s1 s2 s3 s4 s5 s6 ca20
  have oc20 := poC.c 20 (by decide)
  have oz20 := poC.z 20
  have hpo : OBoxS (C6.setCell ⟨w.heap.size + 1 + 1, 20, none⟩ (.slice B6 x.tx.length q6)) (w.heap.size + 1 + 1) _ := poC.set (k := 20) (by decide) (.slice B6 x.tx.length q6)
  have hr20 : (C6.setCell ⟨w.heap.size + 1 + 1, 20, none⟩ (.slice B6 x.tx.length q6)).rangeAt (w.heap.size + 1 + 1) 0 [.int .i64 x.rows, .int .i64 x.columns, .int .i64 x.size, .slice B0 x.he.length q0, .slice B1 x.ma.length q1, .int .i64 x.friction, .slice B2 x.se.length q2, .slice B3 x.pr.length q3, .int .i64 x.rise, .int .i64 x.run, .int .i64 x.doubt, .int .i64 x.limit, .slice B4 x.as_.length q4, .slice B5 x.ga.length q5, .int .i64 x.before, .int .i64 x.level, .int .i64 x.above, .int .i64 x.fresh, .int .i64 x.weak, .int .i64 x.tonnes, .slice B6 x.tx.length q6] := by
    intro j v hv
    rw [Nat.zero_add]
    match j, hv with
    | 0, hv => (injection hv with hv; subst hv; have := hpo.c 0 (by decide); simpa using this)
    | 1, hv => (injection hv with hv; subst hv; have := hpo.c 1 (by decide); simpa using this)
    | 2, hv => (injection hv with hv; subst hv; have := hpo.c 2 (by decide); simpa using this)
    | 3, hv => (injection hv with hv; subst hv; have := hpo.c 3 (by decide); simpa using this)
    | 4, hv => (injection hv with hv; subst hv; have := hpo.c 4 (by decide); simpa using this)
    | 5, hv => (injection hv with hv; subst hv; have := hpo.c 5 (by decide); simpa using this)
    | 6, hv => (injection hv with hv; subst hv; have := hpo.c 6 (by decide); simpa using this)
    | 7, hv => (injection hv with hv; subst hv; have := hpo.c 7 (by decide); simpa using this)
    | 8, hv => (injection hv with hv; subst hv; have := hpo.c 8 (by decide); simpa using this)
    | 9, hv => (injection hv with hv; subst hv; have := hpo.c 9 (by decide); simpa using this)
    | 10, hv => (injection hv with hv; subst hv; have := hpo.c 10 (by decide); simpa using this)
    | 11, hv => (injection hv with hv; subst hv; have := hpo.c 11 (by decide); simpa using this)
    | 12, hv => (injection hv with hv; subst hv; have := hpo.c 12 (by decide); simpa using this)
    | 13, hv => (injection hv with hv; subst hv; have := hpo.c 13 (by decide); simpa using this)
    | 14, hv => (injection hv with hv; subst hv; have := hpo.c 14 (by decide); simpa using this)
    | 15, hv => (injection hv with hv; subst hv; have := hpo.c 15 (by decide); simpa using this)
    | 16, hv => (injection hv with hv; subst hv; have := hpo.c 16 (by decide); simpa using this)
    | 17, hv => (injection hv with hv; subst hv; have := hpo.c 17 (by decide); simpa using this)
    | 18, hv => (injection hv with hv; subst hv; have := hpo.c 18 (by decide); simpa using this)
    | 19, hv => (injection hv with hv; subst hv; have := hpo.c 19 (by decide); simpa using this)
    | 20, hv => (injection hv with hv; subst hv; have := hpo.c 20 (by decide); simpa using this)
    | j + 21, hv => simp at hv
  have ho20 : Only [w.heap.size + 1 + 1] C6 (C6.setCell ⟨w.heap.size + 1 + 1, 20, none⟩ (.slice B6 x.tx.length q6)) := (Only.refl _ _).set _ _
  have pr20 := prC.onlyB ho20 (fun hm => by rw [List.mem_singleton] at hm; omega)
  have hth : (C6.setCell ⟨w.heap.size + 1 + 1, 20, none⟩ (.slice B6 x.tx.length q6)).there (w.heap.size + 1) 0 21 := by
    intro j hj
    rw [Nat.zero_add]
    match j, hj with
    | 0, _ => exact ⟨by rw [pr20.d0]; rfl, pr20.z0⟩
    | 1, _ => exact ⟨by rw [pr20.d1]; rfl, pr20.z1⟩
    | 2, _ => exact ⟨by rw [pr20.d2]; rfl, pr20.z2⟩
    | 3, _ => exact ⟨by rw [pr20.d3]; rfl, pr20.z3⟩
    | 4, _ => exact ⟨by rw [pr20.d4]; rfl, pr20.z4⟩
    | 5, _ => exact ⟨by rw [pr20.d5]; rfl, pr20.z5⟩
    | 6, _ => exact ⟨by rw [pr20.d6]; rfl, pr20.z6⟩
    | 7, _ => exact ⟨by rw [pr20.d7]; rfl, pr20.z7⟩
    | 8, _ => exact ⟨by rw [pr20.d8]; rfl, pr20.z8⟩
    | 9, _ => exact ⟨by rw [pr20.d9]; rfl, pr20.z9⟩
    | 10, _ => exact ⟨by rw [pr20.d10]; rfl, pr20.z10⟩
    | 11, _ => exact ⟨by rw [pr20.d11]; rfl, pr20.z11⟩
    | 12, _ => exact ⟨by rw [pr20.d12]; rfl, pr20.z12⟩
    | 13, _ => exact ⟨by rw [pr20.d13]; rfl, pr20.z13⟩
    | 14, _ => exact ⟨by rw [pr20.d14]; rfl, pr20.z14⟩
    | 15, _ => exact ⟨by rw [pr20.d15]; rfl, pr20.z15⟩
    | 16, _ => exact ⟨by rw [pr20.d16]; rfl, pr20.z16⟩
    | 17, _ => exact ⟨by rw [pr20.d17]; rfl, pr20.z17⟩
    | 18, _ => exact ⟨by rw [pr20.d18]; rfl, pr20.z18⟩
    | 19, _ => exact ⟨by rw [pr20.d19]; rfl, pr20.z19⟩
    | 20, _ => exact ⟨by rw [pr20.d20]; rfl, pr20.z20⟩
    | j + 21, hj => omega
  have hB20 := hBC.trans (ho20.below (B := w.heap.size) hBC.size (fun b hm => by rw [List.mem_singleton] at hm; omega))
  have hsz20 : (C6.setCell ⟨w.heap.size + 1 + 1, 20, none⟩ (.slice B6 x.tx.length q6)).heap.size = C6.heap.size := by simp
  have u0 := t0.only ho20 (fun b hb hm => by rw [List.mem_singleton] at hm; have := lo0 b hb; omega)
  have u1 := t1.only ho20 (fun b hb hm => by rw [List.mem_singleton] at hm; have := lo1 b hb; omega)
  have u2 := t2.only ho20 (fun b hb hm => by rw [List.mem_singleton] at hm; have := lo2 b hb; omega)
  have u3 := t3.only ho20 (fun b hb hm => by rw [List.mem_singleton] at hm; have := lo3 b hb; omega)
  have u4 := t4.only ho20 (fun b hb hm => by rw [List.mem_singleton] at hm; have := lo4 b hb; omega)
  have u5 := t5.only ho20 (fun b hb hm => by rw [List.mem_singleton] at hm; have := lo5 b hb; omega)
  have u6 := t6.only ho20 (fun b hb hm => by rw [List.mem_singleton] at hm; have := lo6 b hb; omega)
  clear poC paC hxC hpo pr20 hBC ho20 prC t0 t1 t2 t3 t4 t5 t6
  go_upto_region 20 with fail
  generalize hD6 : (C6.setCell ⟨w.heap.size + 1 + 1, 20, none⟩ (.slice B6 x.tx.length q6)) = D6 at *
  clear hD6 oc20 oz20
  go_wp2_with (first
    | (refine wpList_load_mid rfl 38 _ rfl (w.heap.size + 1 + 1) 0 rfl [.int .i64 x.rows, .int .i64 x.columns, .int .i64 x.size, .slice B0 x.he.length q0, .slice B1 x.ma.length q1, .int .i64 x.friction, .slice B2 x.se.length q2, .slice B3 x.pr.length q3, .int .i64 x.rise, .int .i64 x.run, .int .i64 x.doubt, .int .i64 x.limit, .slice B4 x.as_.length q4, .slice B5 x.ga.length q5, .int .i64 x.before, .int .i64 x.level, .int .i64 x.above, .int .i64 x.fresh, .int .i64 x.weak, .int .i64 x.tonnes, .slice B6 x.tx.length q6] _ hr20 Try.underlying38 rfl (by kernel_rfl) ?_)
    | (refine wpList_store_mid rfl 38 _ _ rfl (w.heap.size + 1) 0 #[.int .i64 x.rows, .int .i64 x.columns, .int .i64 x.size, .slice B0 x.he.length q0, .slice B1 x.ma.length q1, .int .i64 x.friction, .slice B2 x.se.length q2, .slice B3 x.pr.length q3, .int .i64 x.rise, .int .i64 x.run, .int .i64 x.doubt, .int .i64 x.limit, .slice B4 x.as_.length q4, .slice B5 x.ga.length q5, .int .i64 x.before, .int .i64 x.level, .int .i64 x.above, .int .i64 x.fresh, .int .i64 x.weak, .int .i64 x.tonnes, .slice B6 x.tx.length q6] rfl rfl hth (by kernel_rfl) (by kernel_rfl) ?_))
  have hZ : ∀ i, i < 7 → ∀ b ∈ [f0, f1, f2, f3, f4, f5, f6].getD i [], [w.heap.size + 1 + 1 + 1, C0.heap.size, C1.heap.size, C2.heap.size, C3.heap.size, C4.heap.size, C5.heap.size, C6.heap.size].getD i 0 ≤ b ∧ b < [w.heap.size + 1 + 1 + 1, C0.heap.size, C1.heap.size, C2.heap.size, C3.heap.size, C4.heap.size, C5.heap.size, C6.heap.size].getD (i + 1) 0 := by
    intro i hi b hb
    match i, hi, hb with
    | 0, _, hb => exact ⟨by have h := lo0 b hb; show w.heap.size + 1 + 1 + 1 ≤ b; omega, hi0 b hb⟩
    | 1, _, hb => exact ⟨by have h := lo1 b hb; show C0.heap.size ≤ b; omega, hi1 b hb⟩
    | 2, _, hb => exact ⟨by have h := lo2 b hb; show C1.heap.size ≤ b; omega, hi2 b hb⟩
    | 3, _, hb => exact ⟨by have h := lo3 b hb; show C2.heap.size ≤ b; omega, hi3 b hb⟩
    | 4, _, hb => exact ⟨by have h := lo4 b hb; show C3.heap.size ≤ b; omega, hi4 b hb⟩
    | 5, _, hb => exact ⟨by have h := lo5 b hb; show C4.heap.size ≤ b; omega, hi5 b hb⟩
    | 6, _, hb => exact ⟨by have h := lo6 b hb; show C5.heap.size ≤ b; omega, hi6 b hb⟩
  have hM : ∀ i, i < 7 → [w.heap.size + 1 + 1 + 1, C0.heap.size, C1.heap.size, C2.heap.size, C3.heap.size, C4.heap.size, C5.heap.size, C6.heap.size].getD i 0 ≤ [w.heap.size + 1 + 1 + 1, C0.heap.size, C1.heap.size, C2.heap.size, C3.heap.size, C4.heap.size, C5.heap.size, C6.heap.size].getD (i + 1) 0 := by
    intro i hi
    match i, hi with
    | 0, _ => show w.heap.size + 1 + 1 + 1 ≤ C0.heap.size; omega
    | 1, _ => show C0.heap.size ≤ C1.heap.size; omega
    | 2, _ => show C1.heap.size ≤ C2.heap.size; omega
    | 3, _ => show C2.heap.size ≤ C3.heap.size; omega
    | 4, _ => show C3.heap.size ≤ C4.heap.size; omega
    | 5, _ => show C4.heap.size ≤ C5.heap.size; omega
    | 6, _ => show C5.heap.size ≤ C6.heap.size; omega
  generalize hZZ : [w.heap.size + 1 + 1 + 1, C0.heap.size, C1.heap.size, C2.heap.size, C3.heap.size, C4.heap.size, C5.heap.size, C6.heap.size] = Z at hZ hM
  have hZ0 : Z.getD 0 0 = w.heap.size + 1 + 1 + 1 := by rw [← hZZ]; rfl
  have hMM : ∀ d i, i + d ≤ 7 → Z.getD i 0 ≤ Z.getD (i + d) 0 := by
    intro d
    induction d with
    | zero => intro i _; exact Nat.le_refl _
    | succ d ih => intro i hi; exact Nat.le_trans (ih i (by omega)) (hM (i + d) (by omega))
  have hlow : ∀ i, i < 7 → ∀ b ∈ [f0, f1, f2, f3, f4, f5, f6].getD i [], w.heap.size + 1 + 1 + 1 ≤ b := fun i hi b hb => by
    have h1 := (hZ i hi b hb).1
    have h2 := hMM i 0 (by omega)
    rw [Nat.zero_add] at h2
    omega
  have hap : ∀ i j, i < 7 → j < 7 → i ≠ j → ∀ b ∈ [f0, f1, f2, f3, f4, f5, f6].getD i [], b ∉ [f0, f1, f2, f3, f4, f5, f6].getD j [] := by
    intro i j hi hj hne b hb hb'
    have h1 := hZ i hi b hb
    have h2 := hZ j hj b hb'
    rcases Nat.lt_or_ge i j with h | h
    · have := hMM (j - (i + 1)) (i + 1) (by omega)
      rw [show i + 1 + (j - (i + 1)) = j by omega] at this
      omega
    · have := hMM (i - (j + 1)) (j + 1) (by omega)
      rw [show j + 1 + (i - (j + 1)) = i by omega] at this
      omega
  clear hZ hM hMM
  have hr21 := World.rangeAt_setCells_same D6 (w.heap.size + 1) 0 [.int .i64 x.rows, .int .i64 x.columns, .int .i64 x.size, .slice B0 x.he.length q0, .slice B1 x.ma.length q1, .int .i64 x.friction, .slice B2 x.se.length q2, .slice B3 x.pr.length q3, .int .i64 x.rise, .int .i64 x.run, .int .i64 x.doubt, .int .i64 x.limit, .slice B4 x.as_.length q4, .slice B5 x.ga.length q5, .int .i64 x.before, .int .i64 x.level, .int .i64 x.above, .int .i64 x.fresh, .int .i64 x.weak, .int .i64 x.tonnes, .slice B6 x.tx.length q6] hth
  have ho21 : Only [w.heap.size + 1] D6 (D6.setCells (w.heap.size + 1) 0 [.int .i64 x.rows, .int .i64 x.columns, .int .i64 x.size, .slice B0 x.he.length q0, .slice B1 x.ma.length q1, .int .i64 x.friction, .slice B2 x.se.length q2, .slice B3 x.pr.length q3, .int .i64 x.rise, .int .i64 x.run, .int .i64 x.doubt, .int .i64 x.limit, .slice B4 x.as_.length q4, .slice B5 x.ga.length q5, .int .i64 x.before, .int .i64 x.level, .int .i64 x.above, .int .i64 x.fresh, .int .i64 x.weak, .int .i64 x.tonnes, .slice B6 x.tx.length q6]) := only_setCells (w.heap.size + 1) _ _ _ _ (Only.refl _ _)
  have hn21 : ∀ i, i < 7 → ∀ b ∈ [f0, f1, f2, f3, f4, f5, f6].getD i [], b ∉ [w.heap.size + 1] := fun i hi b hb hm => by have := hlow i hi b hb; rw [List.mem_singleton] at hm; omega
  generalize D6.setCells (w.heap.size + 1) 0 [.int .i64 x.rows, .int .i64 x.columns, .int .i64 x.size, .slice B0 x.he.length q0, .slice B1 x.ma.length q1, .int .i64 x.friction, .slice B2 x.se.length q2, .slice B3 x.pr.length q3, .int .i64 x.rise, .int .i64 x.run, .int .i64 x.doubt, .int .i64 x.limit, .slice B4 x.as_.length q4, .slice B5 x.ga.length q5, .int .i64 x.before, .int .i64 x.level, .int .i64 x.above, .int .i64 x.fresh, .int .i64 x.weak, .int .i64 x.tonnes, .slice B6 x.tx.length q6] = D7 at *
  refine bodyPost_ret (v := .agg #[.int .i64 x.rows, .int .i64 x.columns, .int .i64 x.size, .slice B0 x.he.length q0, .slice B1 x.ma.length q1, .int .i64 x.friction, .slice B2 x.se.length q2, .slice B3 x.pr.length q3, .int .i64 x.rise, .int .i64 x.run, .int .i64 x.doubt, .int .i64 x.limit, .slice B4 x.as_.length q4, .slice B5 x.ga.length q5, .int .i64 x.before, .int .i64 x.level, .int .i64 x.above, .int .i64 x.fresh, .int .i64 x.weak, .int .i64 x.tonnes, .slice B6 x.tx.length q6]) ?_ rfl ⟨⟨.slice B0 x.he.length q0, .slice B1 x.ma.length q1, .slice B2 x.se.length q2, .slice B3 x.pr.length q3, .slice B4 x.as_.length q4, .slice B5 x.ga.length q5, .slice B6 x.tx.length q6⟩, fun i => [f0, f1, f2, f3, f4, f5, f6].getD i [], rfl, ⟨⟨u0.only ho21 (hn21 0 (by decide)), u1.only ho21 (hn21 1 (by decide)), u2.only ho21 (hn21 2 (by decide)), u3.only ho21 (hn21 3 (by decide)), u4.only ho21 (hn21 4 (by decide)), u5.only ho21 (hn21 5 (by decide)), u6.only ho21 (hn21 6 (by decide))⟩, fun i hi b hb => by have := hlow i hi b hb; omega, hap, nd4, hB20.trans (ho21.below (B := w.heap.size) hB20.size (fun b hm => by rw [List.mem_singleton] at hm; omega))⟩⟩
  rw [results_cell1 Try.results6]
  refine (congrArg (fun r => Result.andThen r _) (show (asAddr (.pointer (some ⟨w.heap.size + 1, 0, none⟩))).run Try.prog D7 = .ok ⟨w.heap.size + 1, 0, none⟩ D7 from rfl)).trans ?_
  exact run_loadVar_mid D7 (w.heap.size + 1) 0 38 [.int .i64 x.rows, .int .i64 x.columns, .int .i64 x.size, .slice B0 x.he.length q0, .slice B1 x.ma.length q1, .int .i64 x.friction, .slice B2 x.se.length q2, .slice B3 x.pr.length q3, .int .i64 x.rise, .int .i64 x.run, .int .i64 x.doubt, .int .i64 x.limit, .slice B4 x.as_.length q4, .slice B5 x.ga.length q5, .int .i64 x.before, .int .i64 x.level, .int .i64 x.above, .int .i64 x.fresh, .int .i64 x.weak, .int .i64 x.tonnes, .slice B6 x.tx.length q6] _ hr21 Try.underlying38 rfl (by kernel_rfl)

end Go.Proofs.Ytpebibegdeioeaa
