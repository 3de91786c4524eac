
/- Arguments of type Asset and Service, opened. Written by wip/gen/os_.py. -/
import Derived.Test.YtpebibegdeioeaaDsv
import Derived.Test.YtpebibegdeioeaaOpen
import Derived.Test.YtpebibegdeioeaaOLayer
import Derived.Test.YtpebibegdeioeaaOGate
namespace Go.Proofs.Ytpebibegdeioeaa
open Go.RowKit Go.WideShapes Go.ChangeShapes Go.ChangeAt Go.Deep
set_option linter.unusedVariables false

theorem opensAsset : Opens 74 cAsset := by
  intro H enc w m cs x h hfz
  obtain ⟨hl, hf⟩ := opens_fields Try.underlying74 (by kernel_rfl) (by kernel_rfl) h hfz
  obtain ⟨v0, m0, y0, c0, t0, z0⟩ := hf 0 _ rfl
  obtain ⟨a0, _, e0, ok0, _⟩ := opens_str Try.underlying9 t0 z0
  obtain rfl : v0 = _ := by injection e0
  obtain ⟨v1, m1, y1, c1, t1, z1⟩ := hf 1 _ rfl
  obtain ⟨a1, fp1, e1⟩ := opens_slice Try.underlying22 (by kernel_rfl) (opens_int Try.underlying2) t1 z1
  obtain ⟨v2, m2, y2, c2, t2, z2⟩ := hf 2 _ rfl
  obtain ⟨a2, _, e2, ok2, _⟩ := opens_int Try.underlying2 t2 z2
  obtain rfl : v2 = _ := by injection e2
  have hl' : cs.length = 3 := hl
  match cs, hl' with
  | [u0, u1, u2], _ =>
    obtain rfl : u0 = _ := by simpa using c0
    obtain rfl : u1 = _ := by simpa using c1
    obtain rfl : u2 = _ := by simpa using c2
    exact ⟨⟨a0, a2, a1⟩, fp1, _, rfl, ok0, ok2, e1⟩
theorem opens_partsS {t : TypeId} {fs : Array Field} (ht : Try.prog.underlying t = some (.struct fs))
    {H : Type} {enc : TypeId × Value → H} {w : World} {n : Nat} {cs : List Value} {x : DataW H × List MemPlace} (h : DataW.trod enc Try.prog w 0 (fun _ => true) true n t cs = some x) (hfz : w.noneFrozen x.2) :
    cs.length = Try.prog.cellsOf t ∧ ∀ (j : Nat) (f : Field), fs[j]? = some f → ∃ (m : Nat) (y : DataW H × List MemPlace), DataW.trod enc Try.prog w 0 (fun _ => true) true m f.type ((cs.drop f.offset).take (Try.prog.cellsOf f.type)) = some y ∧ w.noneFrozen y.2 := by
  obtain ⟨xs, n', rfl, hx, hl, hxl, hf⟩ := DataW.trod_struct ht h
  refine ⟨hl, fun j f hj => ?_⟩
  have hjl : j < fs.size := (Array.getElem?_eq_some_iff.1 hj).1
  have h1 := hf j f hj
  rw [List.getElem?_eq_getElem (by omega)] at h1
  refine ⟨n', xs[j], h1, fun b off hm => hfz b off ?_⟩
  rw [hx]
  exact List.mem_flatMap.2 ⟨xs[j], List.getElem_mem _, hm⟩
def fpsS (L : List (List Nat)) (i : Nat) : List Nat := L.getD i []
set_option maxRecDepth 100000 in
set_option maxHeartbeats 4000000 in
theorem opensServ {H : Type} {enc : TypeId × Value → H} {w : World} {n : Nat} {cs : List Value} {x : DataW H × List MemPlace} (h : DataW.trod enc Try.prog w 0 (fun _ => true) true n 30 cs = some x) (hfz : w.noneFrozen x.2) :
    ∃ (v : SVals) (d : DServ) (F : Nat → List Nat), cs = [.int .i64 d.rows, .int .i64 d.columns, .int .i64 d.size, v.he, v.ma, .int .i64 d.friction, v.se, v.pr, .int .i64 d.rise, .int .i64 d.run, .int .i64 d.doubt, .int .i64 d.limit, v.as_, v.ga, .int .i64 d.before, .int .i64 d.level, .int .i64 d.above, .int .i64 d.fresh, .int .i64 d.weak, .int .i64 d.tonnes, v.tx] ∧ ServRd w v d F := by
  obtain ⟨hl, hf⟩ := opens_partsS Try.underlying30 h hfz
  have hl' : cs.length = 21 := by rw [hl]; kernel_rfl
  match cs, hl' with
  | [u0, u1, u2, u3, u4, u5, u6, u7, u8, u9, u10, u11, u12, u13, u14, u15, u16, u17, u18, u19, u20], _ =>
    obtain ⟨m0, y0, t0, z0⟩ := hf 0 _ rfl
    have k0 : Try.prog.cellsOf 24 = 4 := by kernel_rfl
    replace t0 : DataW.trod enc Try.prog w 0 (fun _ => true) true m0 24 [u0, u1, u2, u3] = some y0 := by
      change DataW.trod enc Try.prog w 0 (fun _ => true) true m0 24 (List.take (Try.prog.cellsOf 24) (List.drop 0 [u0, u1, u2, u3, u4, u5, u6, u7, u8, u9, u10, u11, u12, u13, u14, u15, u16, u17, u18, u19, u20])) = some y0 at t0
      rw [k0] at t0; exact t0
    obtain ⟨_, hg⟩ := opens_fields Try.underlying24 (by kernel_rfl) (by kernel_rfl) t0 z0
    obtain ⟨p0, q0, r0, c0, s0, w0⟩ := hg 0 _ rfl
    obtain ⟨b_rows, _, e0, ok0, _⟩ := opens_int Try.underlying2 s0 w0
    obtain rfl : p0 = _ := by injection e0
    obtain rfl : u0 = _ := by simpa using c0
    obtain ⟨p1, q1, r1, c1, s1, w1⟩ := hg 1 _ rfl
    obtain ⟨b_columns, _, e1, ok1, _⟩ := opens_int Try.underlying2 s1 w1
    obtain rfl : p1 = _ := by injection e1
    obtain rfl : u1 = _ := by simpa using c1
    obtain ⟨p2, q2, r2, c2, s2, w2⟩ := hg 2 _ rfl
    obtain ⟨b_size, _, e2, ok2, _⟩ := opens_int Try.underlying2 s2 w2
    obtain rfl : p2 = _ := by injection e2
    obtain rfl : u2 = _ := by simpa using c2
    obtain ⟨p3, q3, r3, c3, s3, w3⟩ := hg 3 _ rfl
    obtain rfl : u3 = _ := by simpa using c3
    obtain ⟨a_he, g_he, p3', e3, sl_he⟩ := opens_slice Try.underlying22 (by kernel_rfl) (opens_int Try.underlying2) s3 w3
    obtain rfl : u3 = p3' := by injection e3
    obtain ⟨m1, y1, t1, z1⟩ := hf 1 _ rfl
    have k1 : Try.prog.cellsOf 22 = 1 := by kernel_rfl
    replace t1 : DataW.trod enc Try.prog w 0 (fun _ => true) true m1 22 [u4] = some y1 := by
      change DataW.trod enc Try.prog w 0 (fun _ => true) true m1 22 (List.take (Try.prog.cellsOf 22) (List.drop 4 [.int .i64 b_rows, .int .i64 b_columns, .int .i64 b_size, u3, u4, u5, u6, u7, u8, u9, u10, u11, u12, u13, u14, u15, u16, u17, u18, u19, u20])) = some y1 at t1
      rw [k1] at t1; exact t1
    obtain ⟨a_ma, g_ma, v1, e1_, sl_ma⟩ := opens_slice Try.underlying22 (by kernel_rfl) (opens_int Try.underlying2) t1 z1
    obtain rfl : u4 = v1 := by injection e1_
    obtain ⟨m2, y2, t2, z2⟩ := hf 2 _ rfl
    have k2 : Try.prog.cellsOf 2 = 1 := by kernel_rfl
    replace t2 : DataW.trod enc Try.prog w 0 (fun _ => true) true m2 2 [u5] = some y2 := by
      change DataW.trod enc Try.prog w 0 (fun _ => true) true m2 2 (List.take (Try.prog.cellsOf 2) (List.drop 5 [.int .i64 b_rows, .int .i64 b_columns, .int .i64 b_size, u3, u4, u5, u6, u7, u8, u9, u10, u11, u12, u13, u14, u15, u16, u17, u18, u19, u20])) = some y2 at t2
      rw [k2] at t2; exact t2
    obtain ⟨b_friction, _, e2_, ok2_, _⟩ := opens_int Try.underlying2 t2 z2
    obtain rfl : u5 = _ := by injection e2_
    obtain ⟨m3, y3, t3, z3⟩ := hf 3 _ rfl
    have k3 : Try.prog.cellsOf 22 = 1 := by kernel_rfl
    replace t3 : DataW.trod enc Try.prog w 0 (fun _ => true) true m3 22 [u6] = some y3 := by
      change DataW.trod enc Try.prog w 0 (fun _ => true) true m3 22 (List.take (Try.prog.cellsOf 22) (List.drop 6 [.int .i64 b_rows, .int .i64 b_columns, .int .i64 b_size, u3, u4, .int .i64 b_friction, u6, u7, u8, u9, u10, u11, u12, u13, u14, u15, u16, u17, u18, u19, u20])) = some y3 at t3
      rw [k3] at t3; exact t3
    obtain ⟨a_se, g_se, v3, e3_, sl_se⟩ := opens_slice Try.underlying22 (by kernel_rfl) (opens_int Try.underlying2) t3 z3
    obtain rfl : u6 = v3 := by injection e3_
    obtain ⟨m4, y4, t4, z4⟩ := hf 4 _ rfl
    have k4 : Try.prog.cellsOf 25 = 1 := by kernel_rfl
    replace t4 : DataW.trod enc Try.prog w 0 (fun _ => true) true m4 25 [u7] = some y4 := by
      change DataW.trod enc Try.prog w 0 (fun _ => true) true m4 25 (List.take (Try.prog.cellsOf 25) (List.drop 7 [.int .i64 b_rows, .int .i64 b_columns, .int .i64 b_size, u3, u4, .int .i64 b_friction, u6, u7, u8, u9, u10, u11, u12, u13, u14, u15, u16, u17, u18, u19, u20])) = some y4 at t4
      rw [k4] at t4; exact t4
    obtain ⟨a_pr, g_pr, v4, e4_, sl_pr⟩ := opens_slice Try.underlying25 (by kernel_rfl) opensLayer t4 z4
    obtain rfl : u7 = v4 := by injection e4_
    obtain ⟨m5, y5, t5, z5⟩ := hf 5 _ rfl
    have k5 : Try.prog.cellsOf 2 = 1 := by kernel_rfl
    replace t5 : DataW.trod enc Try.prog w 0 (fun _ => true) true m5 2 [u8] = some y5 := by
      change DataW.trod enc Try.prog w 0 (fun _ => true) true m5 2 (List.take (Try.prog.cellsOf 2) (List.drop 8 [.int .i64 b_rows, .int .i64 b_columns, .int .i64 b_size, u3, u4, .int .i64 b_friction, u6, u7, u8, u9, u10, u11, u12, u13, u14, u15, u16, u17, u18, u19, u20])) = some y5 at t5
      rw [k5] at t5; exact t5
    obtain ⟨b_rise, _, e5_, ok5_, _⟩ := opens_int Try.underlying2 t5 z5
    obtain rfl : u8 = _ := by injection e5_
    obtain ⟨m6, y6, t6, z6⟩ := hf 6 _ rfl
    have k6 : Try.prog.cellsOf 2 = 1 := by kernel_rfl
    replace t6 : DataW.trod enc Try.prog w 0 (fun _ => true) true m6 2 [u9] = some y6 := by
      change DataW.trod enc Try.prog w 0 (fun _ => true) true m6 2 (List.take (Try.prog.cellsOf 2) (List.drop 9 [.int .i64 b_rows, .int .i64 b_columns, .int .i64 b_size, u3, u4, .int .i64 b_friction, u6, u7, .int .i64 b_rise, u9, u10, u11, u12, u13, u14, u15, u16, u17, u18, u19, u20])) = some y6 at t6
      rw [k6] at t6; exact t6
    obtain ⟨b_run, _, e6_, ok6_, _⟩ := opens_int Try.underlying2 t6 z6
    obtain rfl : u9 = _ := by injection e6_
    obtain ⟨m7, y7, t7, z7⟩ := hf 7 _ rfl
    have k7 : Try.prog.cellsOf 2 = 1 := by kernel_rfl
    replace t7 : DataW.trod enc Try.prog w 0 (fun _ => true) true m7 2 [u10] = some y7 := by
      change DataW.trod enc Try.prog w 0 (fun _ => true) true m7 2 (List.take (Try.prog.cellsOf 2) (List.drop 10 [.int .i64 b_rows, .int .i64 b_columns, .int .i64 b_size, u3, u4, .int .i64 b_friction, u6, u7, .int .i64 b_rise, .int .i64 b_run, u10, u11, u12, u13, u14, u15, u16, u17, u18, u19, u20])) = some y7 at t7
      rw [k7] at t7; exact t7
    obtain ⟨b_doubt, _, e7_, ok7_, _⟩ := opens_int Try.underlying2 t7 z7
    obtain rfl : u10 = _ := by injection e7_
    obtain ⟨m8, y8, t8, z8⟩ := hf 8 _ rfl
    have k8 : Try.prog.cellsOf 2 = 1 := by kernel_rfl
    replace t8 : DataW.trod enc Try.prog w 0 (fun _ => true) true m8 2 [u11] = some y8 := by
      change DataW.trod enc Try.prog w 0 (fun _ => true) true m8 2 (List.take (Try.prog.cellsOf 2) (List.drop 11 [.int .i64 b_rows, .int .i64 b_columns, .int .i64 b_size, u3, u4, .int .i64 b_friction, u6, u7, .int .i64 b_rise, .int .i64 b_run, .int .i64 b_doubt, u11, u12, u13, u14, u15, u16, u17, u18, u19, u20])) = some y8 at t8
      rw [k8] at t8; exact t8
    obtain ⟨b_limit, _, e8_, ok8_, _⟩ := opens_int Try.underlying2 t8 z8
    obtain rfl : u11 = _ := by injection e8_
    obtain ⟨m9, y9, t9, z9⟩ := hf 9 _ rfl
    have k9 : Try.prog.cellsOf 26 = 1 := by kernel_rfl
    replace t9 : DataW.trod enc Try.prog w 0 (fun _ => true) true m9 26 [u12] = some y9 := by
      change DataW.trod enc Try.prog w 0 (fun _ => true) true m9 26 (List.take (Try.prog.cellsOf 26) (List.drop 12 [.int .i64 b_rows, .int .i64 b_columns, .int .i64 b_size, u3, u4, .int .i64 b_friction, u6, u7, .int .i64 b_rise, .int .i64 b_run, .int .i64 b_doubt, .int .i64 b_limit, u12, u13, u14, u15, u16, u17, u18, u19, u20])) = some y9 at t9
      rw [k9] at t9; exact t9
    obtain ⟨a_as_, g_as_, v9, e9_, sl_as_⟩ := opens_slice Try.underlying26 (by kernel_rfl) opensAsset t9 z9
    obtain rfl : u12 = v9 := by injection e9_
    obtain ⟨m10, y10, t10, z10⟩ := hf 10 _ rfl
    have k10 : Try.prog.cellsOf 27 = 1 := by kernel_rfl
    replace t10 : DataW.trod enc Try.prog w 0 (fun _ => true) true m10 27 [u13] = some y10 := by
      change DataW.trod enc Try.prog w 0 (fun _ => true) true m10 27 (List.take (Try.prog.cellsOf 27) (List.drop 13 [.int .i64 b_rows, .int .i64 b_columns, .int .i64 b_size, u3, u4, .int .i64 b_friction, u6, u7, .int .i64 b_rise, .int .i64 b_run, .int .i64 b_doubt, .int .i64 b_limit, u12, u13, u14, u15, u16, u17, u18, u19, u20])) = some y10 at t10
      rw [k10] at t10; exact t10
    obtain ⟨a_ga, g_ga, v10, e10_, sl_ga⟩ := opens_slice Try.underlying27 (by kernel_rfl) opensGate t10 z10
    obtain rfl : u13 = v10 := by injection e10_
    obtain ⟨m11, y11, t11, z11⟩ := hf 11 _ rfl
    have k11 : Try.prog.cellsOf 2 = 1 := by kernel_rfl
    replace t11 : DataW.trod enc Try.prog w 0 (fun _ => true) true m11 2 [u14] = some y11 := by
      change DataW.trod enc Try.prog w 0 (fun _ => true) true m11 2 (List.take (Try.prog.cellsOf 2) (List.drop 14 [.int .i64 b_rows, .int .i64 b_columns, .int .i64 b_size, u3, u4, .int .i64 b_friction, u6, u7, .int .i64 b_rise, .int .i64 b_run, .int .i64 b_doubt, .int .i64 b_limit, u12, u13, u14, u15, u16, u17, u18, u19, u20])) = some y11 at t11
      rw [k11] at t11; exact t11
    obtain ⟨b_before, _, e11_, ok11_, _⟩ := opens_int Try.underlying2 t11 z11
    obtain rfl : u14 = _ := by injection e11_
    obtain ⟨m12, y12, t12, z12⟩ := hf 12 _ rfl
    have k12 : Try.prog.cellsOf 2 = 1 := by kernel_rfl
    replace t12 : DataW.trod enc Try.prog w 0 (fun _ => true) true m12 2 [u15] = some y12 := by
      change DataW.trod enc Try.prog w 0 (fun _ => true) true m12 2 (List.take (Try.prog.cellsOf 2) (List.drop 15 [.int .i64 b_rows, .int .i64 b_columns, .int .i64 b_size, u3, u4, .int .i64 b_friction, u6, u7, .int .i64 b_rise, .int .i64 b_run, .int .i64 b_doubt, .int .i64 b_limit, u12, u13, .int .i64 b_before, u15, u16, u17, u18, u19, u20])) = some y12 at t12
      rw [k12] at t12; exact t12
    obtain ⟨b_level, _, e12_, ok12_, _⟩ := opens_int Try.underlying2 t12 z12
    obtain rfl : u15 = _ := by injection e12_
    obtain ⟨m13, y13, t13, z13⟩ := hf 13 _ rfl
    have k13 : Try.prog.cellsOf 2 = 1 := by kernel_rfl
    replace t13 : DataW.trod enc Try.prog w 0 (fun _ => true) true m13 2 [u16] = some y13 := by
      change DataW.trod enc Try.prog w 0 (fun _ => true) true m13 2 (List.take (Try.prog.cellsOf 2) (List.drop 16 [.int .i64 b_rows, .int .i64 b_columns, .int .i64 b_size, u3, u4, .int .i64 b_friction, u6, u7, .int .i64 b_rise, .int .i64 b_run, .int .i64 b_doubt, .int .i64 b_limit, u12, u13, .int .i64 b_before, .int .i64 b_level, u16, u17, u18, u19, u20])) = some y13 at t13
      rw [k13] at t13; exact t13
    obtain ⟨b_above, _, e13_, ok13_, _⟩ := opens_int Try.underlying2 t13 z13
    obtain rfl : u16 = _ := by injection e13_
    obtain ⟨m14, y14, t14, z14⟩ := hf 14 _ rfl
    have k14 : Try.prog.cellsOf 2 = 1 := by kernel_rfl
    replace t14 : DataW.trod enc Try.prog w 0 (fun _ => true) true m14 2 [u17] = some y14 := by
      change DataW.trod enc Try.prog w 0 (fun _ => true) true m14 2 (List.take (Try.prog.cellsOf 2) (List.drop 17 [.int .i64 b_rows, .int .i64 b_columns, .int .i64 b_size, u3, u4, .int .i64 b_friction, u6, u7, .int .i64 b_rise, .int .i64 b_run, .int .i64 b_doubt, .int .i64 b_limit, u12, u13, .int .i64 b_before, .int .i64 b_level, .int .i64 b_above, u17, u18, u19, u20])) = some y14 at t14
      rw [k14] at t14; exact t14
    obtain ⟨b_fresh, _, e14_, ok14_, _⟩ := opens_int Try.underlying2 t14 z14
    obtain rfl : u17 = _ := by injection e14_
    obtain ⟨m15, y15, t15, z15⟩ := hf 15 _ rfl
    have k15 : Try.prog.cellsOf 2 = 1 := by kernel_rfl
    replace t15 : DataW.trod enc Try.prog w 0 (fun _ => true) true m15 2 [u18] = some y15 := by
      change DataW.trod enc Try.prog w 0 (fun _ => true) true m15 2 (List.take (Try.prog.cellsOf 2) (List.drop 18 [.int .i64 b_rows, .int .i64 b_columns, .int .i64 b_size, u3, u4, .int .i64 b_friction, u6, u7, .int .i64 b_rise, .int .i64 b_run, .int .i64 b_doubt, .int .i64 b_limit, u12, u13, .int .i64 b_before, .int .i64 b_level, .int .i64 b_above, .int .i64 b_fresh, u18, u19, u20])) = some y15 at t15
      rw [k15] at t15; exact t15
    obtain ⟨b_weak, _, e15_, ok15_, _⟩ := opens_int Try.underlying2 t15 z15
    obtain rfl : u18 = _ := by injection e15_
    obtain ⟨m16, y16, t16, z16⟩ := hf 16 _ rfl
    have k16 : Try.prog.cellsOf 2 = 1 := by kernel_rfl
    replace t16 : DataW.trod enc Try.prog w 0 (fun _ => true) true m16 2 [u19] = some y16 := by
      change DataW.trod enc Try.prog w 0 (fun _ => true) true m16 2 (List.take (Try.prog.cellsOf 2) (List.drop 19 [.int .i64 b_rows, .int .i64 b_columns, .int .i64 b_size, u3, u4, .int .i64 b_friction, u6, u7, .int .i64 b_rise, .int .i64 b_run, .int .i64 b_doubt, .int .i64 b_limit, u12, u13, .int .i64 b_before, .int .i64 b_level, .int .i64 b_above, .int .i64 b_fresh, .int .i64 b_weak, u19, u20])) = some y16 at t16
      rw [k16] at t16; exact t16
    obtain ⟨b_tonnes, _, e16_, ok16_, _⟩ := opens_int Try.underlying2 t16 z16
    obtain rfl : u19 = _ := by injection e16_
    obtain ⟨m17, y17, t17, z17⟩ := hf 17 _ rfl
    have k17 : Try.prog.cellsOf 28 = 1 := by kernel_rfl
    replace t17 : DataW.trod enc Try.prog w 0 (fun _ => true) true m17 28 [u20] = some y17 := by
      change DataW.trod enc Try.prog w 0 (fun _ => true) true m17 28 (List.take (Try.prog.cellsOf 28) (List.drop 20 [.int .i64 b_rows, .int .i64 b_columns, .int .i64 b_size, u3, u4, .int .i64 b_friction, u6, u7, .int .i64 b_rise, .int .i64 b_run, .int .i64 b_doubt, .int .i64 b_limit, u12, u13, .int .i64 b_before, .int .i64 b_level, .int .i64 b_above, .int .i64 b_fresh, .int .i64 b_weak, .int .i64 b_tonnes, u20])) = some y17 at t17
      rw [k17] at t17; exact t17
    obtain ⟨a_tx, g_tx, v17, e17_, sl_tx⟩ := opens_slice Try.underlying28 (by kernel_rfl) (opens_str Try.underlying9) t17 z17
    obtain rfl : u20 = v17 := by injection e17_
    exact ⟨⟨u3, u4, u6, u7, u12, u13, u20⟩, ⟨b_rows, b_columns, b_size, b_friction, b_rise, b_run, b_doubt, b_limit, b_before, b_level, b_above, b_fresh, b_weak, b_tonnes, a_he, a_ma, a_se, a_pr, a_as_, a_ga, a_tx⟩, fpsS [g_he, g_ma, g_se, g_pr, g_as_, g_ga, g_tx], rfl, ⟨sl_he, sl_ma, sl_se, sl_pr, sl_as_, sl_ga, sl_tx⟩⟩
end Go.Proofs.Ytpebibegdeioeaa
