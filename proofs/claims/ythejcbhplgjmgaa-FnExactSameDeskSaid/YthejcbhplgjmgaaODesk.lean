/- An argument of type Desk, opened. Written by wip/gen/od.py. -/
import Derived.Test.YthejcbhplgjmgaaDf
import Derived.Test.YthejcbhplgjmgaaOpen
import Derived.Test.YthejcbhplgjmgaaOObserved
import Derived.Test.YthejcbhplgjmgaaOTest
import Derived.Test.YthejcbhplgjmgaaOStand
import Derived.Test.YthejcbhplgjmgaaOPathPoint
import Derived.Test.YthejcbhplgjmgaaOVerified
import Derived.Test.YthejcbhplgjmgaaOShot
import Derived.Test.YthejcbhplgjmgaaOGroup
import Derived.Test.YthejcbhplgjmgaaOWatch
import Derived.Test.YthejcbhplgjmgaaOIncident
namespace Go.Proofs.Ythejcbhplgjmgaa
open Go.RowKit Go.WideShapes Go.ChangeShapes Go.ChangeAt Go.Deep
set_option linter.unusedVariables false

theorem opensRegion : Opens 195 cRegion := by
  intro H enc w m cs x h hfz
  obtain ⟨hl, hf⟩ := opens_fields Try.underlying195 (by kernel_rfl) (by kernel_rfl) h hfz
  obtain ⟨v0, m0, y0, c0, t0, z0⟩ := hf 0 _ rfl
  obtain ⟨a0, _, e0, ok0, _⟩ := opens_str Try.underlying9 t0 z0
  obtain rfl : v0 = _ := by injection e0
  obtain ⟨v1, m1, y1, c1, t1, z1⟩ := hf 1 _ rfl
  obtain ⟨a1, _, e1, ok1, _⟩ := opens_int Try.underlying2 t1 z1
  obtain rfl : v1 = _ := by injection e1
  obtain ⟨v2, m2, y2, c2, t2, z2⟩ := hf 2 _ rfl
  obtain ⟨a2, fp2, e2⟩ := opens_slice Try.underlying54 (by kernel_rfl) (opens_str Try.underlying9) t2 z2
  have hl' : cs.length = 3 := hl
  match cs, hl' with
  | [u0, u1, u2], _ =>
    obtain rfl : u0 = _ := by simpa using c0
    obtain rfl : u1 = _ := by simpa using c1
    obtain rfl : u2 = _ := by simpa using c2
    exact ⟨⟨a0, a1, a2⟩, fp2, _, rfl, ok0, ok1, e2⟩
theorem opens_parts {t : TypeId} {fs : Array Field} (ht : Try.prog.underlying t = some (.struct fs))
    {H : Type} {enc : TypeId × Value → H} {w : World} {n : Nat} {cs : List Value} {x : DataW H × List MemPlace} (h : DataW.trod enc Try.prog w 0 (fun _ => true) true n t cs = some x) (hfz : w.noneFrozen x.2) :
    cs.length = Try.prog.cellsOf t ∧ ∀ (j : Nat) (f : Field), fs[j]? = some f → ∃ (m : Nat) (y : DataW H × List MemPlace), DataW.trod enc Try.prog w 0 (fun _ => true) true m f.type ((cs.drop f.offset).take (Try.prog.cellsOf f.type)) = some y ∧ w.noneFrozen y.2 := by
  obtain ⟨xs, n', rfl, hx, hl, hxl, hf⟩ := DataW.trod_struct ht h
  refine ⟨hl, fun j f hj => ?_⟩
  have hjl : j < fs.size := (Array.getElem?_eq_some_iff.1 hj).1
  have h1 := hf j f hj
  rw [List.getElem?_eq_getElem (by omega)] at h1
  refine ⟨n', xs[j], h1, fun b off hm => hfz b off ?_⟩
  rw [hx]
  exact List.mem_flatMap.2 ⟨xs[j], List.getElem_mem _, hm⟩
def fps (L : List (List Nat)) (i : Nat) : List Nat := L.getD i []
set_option maxRecDepth 100000 in
set_option maxHeartbeats 2000000 in
theorem opensDesk {H : Type} {enc : TypeId × Value → H} {w : World} {n : Nat} {cs : List Value} {x : DataW H × List MemPlace} (h : DataW.trod enc Try.prog w 0 (fun _ => true) true n 36 cs = some x) (hfz : w.noneFrozen x.2) :
    ∃ (v : DVals) (d : DDesk) (F : Nat → List Nat), cs = [v.ob, .int .i64 d.rows, .int .i64 d.columns, v.ma, v.te, v.st, v.pa, v.zo, v.re, v.ve, v.sh, v.gr, v.wa, v.in_] ∧ DeskRd w v d F := by
  obtain ⟨hl, hf⟩ := opens_parts Try.underlying36 h hfz
  have hl' : cs.length = 14 := by rw [hl]; kernel_rfl
  match cs, hl' with
  | [u0, u1, u2, u3, u4, u5, u6, u7, u8, u9, u10, u11, u12, u13], _ =>
    obtain ⟨m0, y0, t0, z0⟩ := hf 0 _ rfl
    have k0 : Try.prog.cellsOf 22 = 1 := by kernel_rfl
    replace t0 : DataW.trod enc Try.prog w 0 (fun _ => true) true m0 22 [u0] = some y0 := by
      change DataW.trod enc Try.prog w 0 (fun _ => true) true m0 22 (List.take (Try.prog.cellsOf 22) (List.drop 0 [u0, u1, u2, u3, u4, u5, u6, u7, u8, u9, u10, u11, u12, u13])) = some y0 at t0
      rw [k0] at t0; exact t0
    obtain ⟨a0, f0, v0, e0_, sl0⟩ := opens_slice Try.underlying22 (by kernel_rfl) opensObserved t0 z0
    obtain rfl : u0 = v0 := by injection e0_
    obtain ⟨m1, y1, t1, z1⟩ := hf 1 _ rfl
    have k1 : Try.prog.cellsOf 25 = 3 := by kernel_rfl
    replace t1 : DataW.trod enc Try.prog w 0 (fun _ => true) true m1 25 [u1, u2, u3] = some y1 := by
      change DataW.trod enc Try.prog w 0 (fun _ => true) true m1 25 (List.take (Try.prog.cellsOf 25) (List.drop 1 [u0, u1, u2, u3, u4, u5, u6, u7, u8, u9, u10, u11, u12, u13])) = some y1 at t1
      rw [k1] at t1; exact t1
    obtain ⟨_, hg⟩ := opens_fields Try.underlying25 (by kernel_rfl) (by kernel_rfl) t1 z1
    obtain ⟨p0, q0, r0, c0, s0, w0⟩ := hg 0 _ rfl
    obtain ⟨b0, _, e0, ok0, _⟩ := opens_int Try.underlying2 s0 w0
    obtain rfl : p0 = _ := by injection e0
    obtain rfl : u1 = _ := by simpa using c0
    obtain ⟨p1, q1, r1, c1, s1, w1⟩ := hg 1 _ rfl
    obtain ⟨b1, _, e1, ok1, _⟩ := opens_int Try.underlying2 s1 w1
    obtain rfl : p1 = _ := by injection e1
    obtain rfl : u2 = _ := by simpa using c1
    obtain ⟨p2, q2, r2, c2, s2, w2⟩ := hg 2 _ rfl
    obtain rfl : u3 = _ := by simpa using c2
    obtain ⟨b2, g2, p2', e2, sl1⟩ := opens_slice Try.underlying23 (by kernel_rfl) (opens_int Try.underlying2) s2 w2
    obtain rfl : u3 = p2' := by injection e2
    obtain ⟨m2, y2, t2, z2⟩ := hf 2 _ rfl
    have k2 : Try.prog.cellsOf 26 = 1 := by kernel_rfl
    replace t2 : DataW.trod enc Try.prog w 0 (fun _ => true) true m2 26 [u4] = some y2 := by
      change DataW.trod enc Try.prog w 0 (fun _ => true) true m2 26 (List.take (Try.prog.cellsOf 26) (List.drop 4 [u0, .int .i64 b0, .int .i64 b1, u3, u4, u5, u6, u7, u8, u9, u10, u11, u12, u13])) = some y2 at t2
      rw [k2] at t2; exact t2
    obtain ⟨a2, f2, v2, e2_, sl2⟩ := opens_slice Try.underlying26 (by kernel_rfl) opensTest t2 z2
    obtain rfl : u4 = v2 := by injection e2_
    obtain ⟨m3, y3, t3, z3⟩ := hf 3 _ rfl
    have k3 : Try.prog.cellsOf 27 = 1 := by kernel_rfl
    replace t3 : DataW.trod enc Try.prog w 0 (fun _ => true) true m3 27 [u5] = some y3 := by
      change DataW.trod enc Try.prog w 0 (fun _ => true) true m3 27 (List.take (Try.prog.cellsOf 27) (List.drop 5 [u0, .int .i64 b0, .int .i64 b1, u3, u4, u5, u6, u7, u8, u9, u10, u11, u12, u13])) = some y3 at t3
      rw [k3] at t3; exact t3
    obtain ⟨a3, f3, v3, e3_, sl3⟩ := opens_slice Try.underlying27 (by kernel_rfl) opensStand t3 z3
    obtain rfl : u5 = v3 := by injection e3_
    obtain ⟨m4, y4, t4, z4⟩ := hf 4 _ rfl
    have k4 : Try.prog.cellsOf 28 = 1 := by kernel_rfl
    replace t4 : DataW.trod enc Try.prog w 0 (fun _ => true) true m4 28 [u6] = some y4 := by
      change DataW.trod enc Try.prog w 0 (fun _ => true) true m4 28 (List.take (Try.prog.cellsOf 28) (List.drop 6 [u0, .int .i64 b0, .int .i64 b1, u3, u4, u5, u6, u7, u8, u9, u10, u11, u12, u13])) = some y4 at t4
      rw [k4] at t4; exact t4
    obtain ⟨a4, f4, v4, e4_, sl4⟩ := opens_slice Try.underlying28 (by kernel_rfl) opensPathPoint t4 z4
    obtain rfl : u6 = v4 := by injection e4_
    obtain ⟨m5, y5, t5, z5⟩ := hf 5 _ rfl
    have k5 : Try.prog.cellsOf 23 = 1 := by kernel_rfl
    replace t5 : DataW.trod enc Try.prog w 0 (fun _ => true) true m5 23 [u7] = some y5 := by
      change DataW.trod enc Try.prog w 0 (fun _ => true) true m5 23 (List.take (Try.prog.cellsOf 23) (List.drop 7 [u0, .int .i64 b0, .int .i64 b1, u3, u4, u5, u6, u7, u8, u9, u10, u11, u12, u13])) = some y5 at t5
      rw [k5] at t5; exact t5
    obtain ⟨a5, f5, v5, e5_, sl5⟩ := opens_slice Try.underlying23 (by kernel_rfl) (opens_int Try.underlying2) t5 z5
    obtain rfl : u7 = v5 := by injection e5_
    obtain ⟨m6, y6, t6, z6⟩ := hf 6 _ rfl
    have k6 : Try.prog.cellsOf 29 = 1 := by kernel_rfl
    replace t6 : DataW.trod enc Try.prog w 0 (fun _ => true) true m6 29 [u8] = some y6 := by
      change DataW.trod enc Try.prog w 0 (fun _ => true) true m6 29 (List.take (Try.prog.cellsOf 29) (List.drop 8 [u0, .int .i64 b0, .int .i64 b1, u3, u4, u5, u6, u7, u8, u9, u10, u11, u12, u13])) = some y6 at t6
      rw [k6] at t6; exact t6
    obtain ⟨a6, f6, v6, e6_, sl6⟩ := opens_slice Try.underlying29 (by kernel_rfl) opensRegion t6 z6
    obtain rfl : u8 = v6 := by injection e6_
    obtain ⟨m7, y7, t7, z7⟩ := hf 7 _ rfl
    have k7 : Try.prog.cellsOf 30 = 1 := by kernel_rfl
    replace t7 : DataW.trod enc Try.prog w 0 (fun _ => true) true m7 30 [u9] = some y7 := by
      change DataW.trod enc Try.prog w 0 (fun _ => true) true m7 30 (List.take (Try.prog.cellsOf 30) (List.drop 9 [u0, .int .i64 b0, .int .i64 b1, u3, u4, u5, u6, u7, u8, u9, u10, u11, u12, u13])) = some y7 at t7
      rw [k7] at t7; exact t7
    obtain ⟨a7, f7, v7, e7_, sl7⟩ := opens_slice Try.underlying30 (by kernel_rfl) opensVerified t7 z7
    obtain rfl : u9 = v7 := by injection e7_
    obtain ⟨m8, y8, t8, z8⟩ := hf 8 _ rfl
    have k8 : Try.prog.cellsOf 31 = 1 := by kernel_rfl
    replace t8 : DataW.trod enc Try.prog w 0 (fun _ => true) true m8 31 [u10] = some y8 := by
      change DataW.trod enc Try.prog w 0 (fun _ => true) true m8 31 (List.take (Try.prog.cellsOf 31) (List.drop 10 [u0, .int .i64 b0, .int .i64 b1, u3, u4, u5, u6, u7, u8, u9, u10, u11, u12, u13])) = some y8 at t8
      rw [k8] at t8; exact t8
    obtain ⟨a8, f8, v8, e8_, sl8⟩ := opens_slice Try.underlying31 (by kernel_rfl) opensShot t8 z8
    obtain rfl : u10 = v8 := by injection e8_
    obtain ⟨m9, y9, t9, z9⟩ := hf 9 _ rfl
    have k9 : Try.prog.cellsOf 32 = 1 := by kernel_rfl
    replace t9 : DataW.trod enc Try.prog w 0 (fun _ => true) true m9 32 [u11] = some y9 := by
      change DataW.trod enc Try.prog w 0 (fun _ => true) true m9 32 (List.take (Try.prog.cellsOf 32) (List.drop 11 [u0, .int .i64 b0, .int .i64 b1, u3, u4, u5, u6, u7, u8, u9, u10, u11, u12, u13])) = some y9 at t9
      rw [k9] at t9; exact t9
    obtain ⟨a9, f9, v9, e9_, sl9⟩ := opens_slice Try.underlying32 (by kernel_rfl) opensGroup t9 z9
    obtain rfl : u11 = v9 := by injection e9_
    obtain ⟨m10, y10, t10, z10⟩ := hf 10 _ rfl
    have k10 : Try.prog.cellsOf 33 = 1 := by kernel_rfl
    replace t10 : DataW.trod enc Try.prog w 0 (fun _ => true) true m10 33 [u12] = some y10 := by
      change DataW.trod enc Try.prog w 0 (fun _ => true) true m10 33 (List.take (Try.prog.cellsOf 33) (List.drop 12 [u0, .int .i64 b0, .int .i64 b1, u3, u4, u5, u6, u7, u8, u9, u10, u11, u12, u13])) = some y10 at t10
      rw [k10] at t10; exact t10
    obtain ⟨a10, f10, v10, e10_, sl10⟩ := opens_slice Try.underlying33 (by kernel_rfl) opensWatch t10 z10
    obtain rfl : u12 = v10 := by injection e10_
    obtain ⟨m11, y11, t11, z11⟩ := hf 11 _ rfl
    have k11 : Try.prog.cellsOf 34 = 1 := by kernel_rfl
    replace t11 : DataW.trod enc Try.prog w 0 (fun _ => true) true m11 34 [u13] = some y11 := by
      change DataW.trod enc Try.prog w 0 (fun _ => true) true m11 34 (List.take (Try.prog.cellsOf 34) (List.drop 13 [u0, .int .i64 b0, .int .i64 b1, u3, u4, u5, u6, u7, u8, u9, u10, u11, u12, u13])) = some y11 at t11
      rw [k11] at t11; exact t11
    obtain ⟨a11, f11, v11, e11_, sl11⟩ := opens_slice Try.underlying34 (by kernel_rfl) opensIncident t11 z11
    obtain rfl : u13 = v11 := by injection e11_
    exact ⟨⟨u0, u3, u4, u5, u6, u7, u8, u9, u10, u11, u12, u13⟩, ⟨b0, b1, a0, b2, a2, a3, a4, a5, a6, a7, a8, a9, a10, a11⟩, fps [f0, g2, f2, f3, f4, f5, f6, f7, f8, f9, f10, f11], rfl, ⟨sl0, sl1, sl2, sl3, sl4, sl5, sl6, sl7, sl8, sl9, sl10, sl11⟩⟩
end Go.Proofs.Ythejcbhplgjmgaa
