/- The walk of FnExactSameDesk. Written by wip/gen/wsd.py. -/
import Derived.Test.YthejcbhplgjmgaaSn
namespace Go.Proofs.Ythejcbhplgjmgaa
open Go.RowKit
set_option linter.unusedVariables false

set_option maxRecDepth 100000 in
set_option maxHeartbeats 8000000 in
theorem walkSameDesk0 (x y : DDesk) (va vb : DVals) (Fa Fb : Nat → List Nat) (w : World) (ha : DeskRd w va x Fa) (hb : DeskRd w vb y Fb) :
    Calls Try.prog 3 #[deskA va x, deskA vb y] w fun e w' => YesR w e w' := by
  have hB0 : Below w.heap.size w (w.alloc (.cells #[va.ob, .int .i64 x.rows, .int .i64 x.columns, va.ma, va.te, va.st, va.pa, va.zo, va.re, va.ve, va.sh, va.gr, va.wa, va.in_] 36)) := (Below.refl _ _).alloc (Nat.le_refl _) _
  have hB : Below w.heap.size w ((w.alloc (.cells #[va.ob, .int .i64 x.rows, .int .i64 x.columns, va.ma, va.te, va.st, va.pa, va.zo, va.re, va.ve, va.sh, va.gr, va.wa, va.in_] 36)).alloc (.cells #[vb.ob, .int .i64 y.rows, .int .i64 y.columns, vb.ma, vb.te, vb.st, vb.pa, vb.zo, vb.re, vb.ve, vb.sh, vb.gr, vb.wa, vb.in_] 36)) := hB0.alloc (by simp) _
  have pa := (DBox.new w va x 36).below' ((Below.refl _ _).alloc (Nat.le_refl _) (.cells #[vb.ob, .int .i64 y.rows, .int .i64 y.columns, vb.ma, vb.te, vb.st, vb.pa, vb.zo, vb.re, vb.ve, vb.sh, vb.gr, vb.wa, vb.in_] 36))
  have pb := DBox.new (w.alloc (.cells #[va.ob, .int .i64 x.rows, .int .i64 x.columns, va.ma, va.te, va.st, va.pa, va.zo, va.re, va.ve, va.sh, va.gr, va.wa, va.in_] 36)) vb y 36
  rw [World.size_alloc] at pb
  replace ha := ha.below' hB
  replace hb := hb.below' hB
  clear hB0
  unfold deskA
  go_enter Try.func3, Try.ntmps3
  have ca0 := pa.c0
  have ca1 := pa.c1
  have ca2 := pa.c2
  have ca3 := pa.c3
  have ca4 := pa.c4
  have ca5 := pa.c5
  have ca6 := pa.c6
  have ca7 := pa.c7
  have ca8 := pa.c8
  have ca9 := pa.c9
  have ca10 := pa.c10
  have ca11 := pa.c11
  have ca12 := pa.c12
  have ca13 := pa.c13
  go_wp2_with fail
  generalize (w.alloc (.cells #[va.ob, .int .i64 x.rows, .int .i64 x.columns, va.ma, va.te, va.st, va.pa, va.zo, va.re, va.ve, va.sh, va.gr, va.wa, va.in_] 36)).alloc (.cells #[vb.ob, .int .i64 y.rows, .int .i64 y.columns, vb.ma, vb.te, vb.st, vb.pa, vb.zo, vb.re, vb.ve, vb.sh, vb.gr, vb.wa, vb.in_] 36) = w0 at *
  refine (szDesk_any x va _ 1048576 _ ha (by omega) (by omega)).mono ?_
  rintro e w1 ⟨r0, rfl, hr0_, hbn⟩
  replace ha := ha.below' hbn
  replace hb := hb.below' hbn
  replace pa := pa.below' hbn
  replace pb := pb.below' hbn
  replace hB := hB.trans (hbn.mono hB.size)
  clear hbn
  clear ca0 ca1 ca2 ca3 ca4 ca5 ca6 ca7 ca8 ca9 ca10 ca11 ca12 ca13
  by_cases hneg : r0 < 0
  · go_wp2
    go_ret
    exact ⟨rfl, hB⟩
  have hr0 : 0 ≤ r0 ∧ r0 + (totDesk x : Nat) = 1048576 := by
    rcases hr0_ with h | h
    · omega
    · exact h
  clear hr0_ hneg
  have ht0 : totDesk x ≤ 1048576 := by omega
  have hr0b : r0 ≤ 1048576 := by omega
  have hr0a : 0 ≤ r0 := hr0.1
  have cb0 := pb.c0
  have cb1 := pb.c1
  have cb2 := pb.c2
  have cb3 := pb.c3
  have cb4 := pb.c4
  have cb5 := pb.c5
  have cb6 := pb.c6
  have cb7 := pb.c7
  have cb8 := pb.c8
  have cb9 := pb.c9
  have cb10 := pb.c10
  have cb11 := pb.c11
  have cb12 := pb.c12
  have cb13 := pb.c13
  go_wp2_with fail
  refine (szDesk_any y vb _ r0 _ hb (by omega) (by omega)).mono ?_
  rintro e w2 ⟨r1, rfl, hr1_, hbn⟩
  replace ha := ha.below' hbn
  replace hb := hb.below' hbn
  replace pa := pa.below' hbn
  replace pb := pb.below' hbn
  replace hB := hB.trans (hbn.mono hB.size)
  clear hbn
  clear cb0 cb1 cb2 cb3 cb4 cb5 cb6 cb7 cb8 cb9 cb10 cb11 cb12 cb13
  by_cases hneg : r1 < 0
  · go_wp2
    go_ret
    exact ⟨rfl, hB⟩
  have hr1 : 0 ≤ r1 ∧ r1 + (totDesk y : Nat) = r0 := by
    rcases hr1_ with h | h
    · omega
    · exact h
  clear hr1_ hneg
  have ht1 : totDesk y ≤ 1048576 := by omega
  have hr1b : r1 ≤ 1048576 := by omega
  have hr1a : 0 ≤ r1 := hr1.1
  have ca0 := pa.c0
  have ca1 := pa.c1
  have ca2 := pa.c2
  have ca3 := pa.c3
  have ca4 := pa.c4
  have ca5 := pa.c5
  have ca6 := pa.c6
  have ca7 := pa.c7
  have ca8 := pa.c8
  have ca9 := pa.c9
  have ca10 := pa.c10
  have ca11 := pa.c11
  have ca12 := pa.c12
  have ca13 := pa.c13
  have cb0 := pb.c0
  have cb1 := pb.c1
  have cb2 := pb.c2
  have cb3 := pb.c3
  have cb4 := pb.c4
  have cb5 := pb.c5
  have cb6 := pb.c6
  have cb7 := pb.c7
  have cb8 := pb.c8
  have cb9 := pb.c9
  have cb10 := pb.c10
  have cb11 := pb.c11
  have cb12 := pb.c12
  have cb13 := pb.c13
  go_wp2
  have gca0 := cell_regrown ca0
  have gca1 := cell_regrown ca1
  have gca2 := cell_regrown ca2
  have gca3 := cell_regrown ca3
  have gca4 := cell_regrown ca4
  have gca5 := cell_regrown ca5
  have gca6 := cell_regrown ca6
  have gca7 := cell_regrown ca7
  have gca8 := cell_regrown ca8
  have gca9 := cell_regrown ca9
  have gca10 := cell_regrown ca10
  have gca11 := cell_regrown ca11
  have gca12 := cell_regrown ca12
  have gca13 := cell_regrown ca13
  have gcb0 := cell_regrown cb0
  have gcb1 := cell_regrown cb1
  have gcb2 := cell_regrown cb2
  have gcb3 := cell_regrown cb3
  have gcb4 := cell_regrown cb4
  have gcb5 := cell_regrown cb5
  have gcb6 := cell_regrown cb6
  have gcb7 := cell_regrown cb7
  have gcb8 := cell_regrown cb8
  have gcb9 := cell_regrown cb9
  have gcb10 := cell_regrown cb10
  have gcb11 := cell_regrown cb11
  have gcb12 := cell_regrown cb12
  have gcb13 := cell_regrown cb13
  refine wp_region_mixed [0, 2, 1, 3, 4, 5] (C := fun w' => ∃ p : Regrown, w' = Go.Sort.grow (redrawn w2 p.d) p.os) [true, true, false, false, false, true] (by kernel_rfl) (by kernel_rfl) (by kernel_rfl) (fun _ _ d _ _ h => by cases d <;> exact h) (regrown_of_below (Below.drew (Below.refl _ _))) ?_
  simp only [List.map_cons, List.map_nil, List.getD_cons_zero, List.getD_cons_succ]
  have hS0 : Below (w2.heap.size) w2 w2.drew := Below.drew (Below.refl _ _)
  refine wpMix_pure (by kernel_rfl) (fun K hK => ?_)
  go_big_quiet_op
  refine hK _ ?_; clear hK K
  refine wpMix_pure (by kernel_rfl) (fun K hK => ?_)
  go_big_quiet_op
  refine hK _ ?_; clear hK K
  refine wpMix_act (by kernel_rfl) (fun K hK => ?_)
  go_big_op
  refine (toDesk_any x va _ w2.drew (ha.below' hS0) ht0).mono ?_
  rintro e wr1 ⟨v1, F1, rfl, ⟨hr1, lo1, ap1, nd1, hbr1⟩⟩
  have hbr1S : Below (w2.heap.size) w2 wr1 := hS0.trans (hbr1.mono hS0.size)
  refine hK _ _ (regrown_of_below hbr1S) ?_
  clear hK K
  refine wpMix_act (by kernel_rfl) (fun K hK => ?_)
  go_big_op
  refine (toDesk_any y vb _ wr1 (hb.below' hbr1S) ht1).mono ?_
  rintro e wr2 ⟨v2, F2, rfl, ⟨hr2, lo2, ap2, nd2, hbr2⟩⟩
  have hbr2S : Below (w2.heap.size) w2 wr2 := hbr1S.trans (hbr2.mono hbr1S.size)
  refine hK _ _ (regrown_of_below hbr2S) ?_
  clear hK K
  refine wpMix_act (by kernel_rfl) (fun K hK => ?_)
  go_big_op
  refine (specSameDesk_any x y v1 v2 _ _ wr2 (hr1.below' hbr2) hr2).mono ?_
  rintro e wr3 ⟨rfl, hbr3⟩
  have hbr3S : Below (w2.heap.size) w2 wr3 := hbr2S.trans (hbr3.mono hbr2S.size)
  refine hK _ _ (regrown_of_below hbr3S) ?_
  clear hK K
  refine wpMix_pure (by kernel_rfl) (fun K hK => ?_)
  go_big_quiet_op
  refine hK _ ?_; clear hK K
  refine wpMix_nil ?_
  replace ha := ha.below' hbr3S
  replace hb := hb.below' hbr3S
  replace pa := pa.below' hbr3S
  replace pb := pb.below' hbr3S
  replace hB := hB.trans (hbr3S.mono hB.size)
  clear gca0 gcb0 ca0 cb0 gca1 gcb1 ca1 cb1 gca2 gcb2 ca2 cb2 gca3 gcb3 ca3 cb3 gca4 gcb4 ca4 cb4 gca5 gcb5 ca5 cb5 gca6 gcb6 ca6 cb6 gca7 gcb7 ca7 cb7 gca8 gcb8 ca8 cb8 gca9 gcb9 ca9 cb9 gca10 gcb10 ca10 cb10 gca11 gcb11 ca11 cb11 gca12 gcb12 ca12 cb12 gca13 gcb13 ca13 cb13 hbr1 hbr2 hbr3 hbr1S hbr2S hbr3S hS0 hr1 hr2 lo1 ap1 nd1 lo2 ap2 nd2
  generalize wr3 = w3 at *
  have ca0 := pa.c0
  have ca1 := pa.c1
  have ca2 := pa.c2
  have ca3 := pa.c3
  have ca4 := pa.c4
  have ca5 := pa.c5
  have ca6 := pa.c6
  have ca7 := pa.c7
  have ca8 := pa.c8
  have ca9 := pa.c9
  have ca10 := pa.c10
  have ca11 := pa.c11
  have ca12 := pa.c12
  have ca13 := pa.c13
  go_wp2_with fail
  refine (toDesk_any x va _ _ ha ht0).mono ?_
  rintro e w4 ⟨v4, F4, he, ⟨hr4, _, _, _, hbn⟩⟩
  unfold deskA at he
  subst he
  replace ha := ha.below' hbn
  replace hb := hb.below' hbn
  replace pa := pa.below' hbn
  replace pb := pb.below' hbn
  replace hB := hB.trans (hbn.mono hB.size)
  clear hbn
  clear ca0 ca1 ca2 ca3 ca4 ca5 ca6 ca7 ca8 ca9 ca10 ca11 ca12 ca13
  have hsh := hr4.shape
  obtain ⟨q0, q1, q2, q3, q4, q5, q6, q7, q8, q9, q10, q11⟩ := v4
  obtain ⟨⟨a4_0, n4_0, k4_0, h0⟩, ⟨a4_1, n4_1, k4_1, h1⟩, ⟨a4_2, n4_2, k4_2, h2⟩, ⟨a4_3, n4_3, k4_3, h3⟩, ⟨a4_4, n4_4, k4_4, h4⟩, ⟨a4_5, n4_5, k4_5, h5⟩, ⟨a4_6, n4_6, k4_6, h6⟩, ⟨a4_7, n4_7, k4_7, h7⟩, ⟨a4_8, n4_8, k4_8, h8⟩, ⟨a4_9, n4_9, k4_9, h9⟩, ⟨a4_10, n4_10, k4_10, h10⟩, ⟨a4_11, n4_11, k4_11, h11⟩⟩ := hsh
  simp only at h0 h1 h2 h3 h4 h5 h6 h7 h8 h9 h10 h11
  subst h0 h1 h2 h3 h4 h5 h6 h7 h8 h9 h10 h11
  have p4 := DBox.new w4 ⟨.slice a4_0 n4_0 k4_0, .slice a4_1 n4_1 k4_1, .slice a4_2 n4_2 k4_2, .slice a4_3 n4_3 k4_3, .slice a4_4 n4_4 k4_4, .slice a4_5 n4_5 k4_5, .slice a4_6 n4_6 k4_6, .slice a4_7 n4_7 k4_7, .slice a4_8 n4_8 k4_8, .slice a4_9 n4_9 k4_9, .slice a4_10 n4_10 k4_10, .slice a4_11 n4_11 k4_11⟩ x 51
  have hbn := (Below.refl w4.heap.size w4).alloc (Nat.le_refl _) (.cells #[.slice a4_0 n4_0 k4_0, .int .i64 x.rows, .int .i64 x.columns, .slice a4_1 n4_1 k4_1, .slice a4_2 n4_2 k4_2, .slice a4_3 n4_3 k4_3, .slice a4_4 n4_4 k4_4, .slice a4_5 n4_5 k4_5, .slice a4_6 n4_6 k4_6, .slice a4_7 n4_7 k4_7, .slice a4_8 n4_8 k4_8, .slice a4_9 n4_9 k4_9, .slice a4_10 n4_10 k4_10, .slice a4_11 n4_11 k4_11] 51)
  replace ha := ha.below' hbn
  replace hb := hb.below' hbn
  replace pa := pa.below' hbn
  replace pb := pb.below' hbn
  replace hr4 := hr4.below' hbn
  replace hB := hB.trans (hbn.mono hB.size)
  clear hbn
  have cb0 := pb.c0
  have cb1 := pb.c1
  have cb2 := pb.c2
  have cb3 := pb.c3
  have cb4 := pb.c4
  have cb5 := pb.c5
  have cb6 := pb.c6
  have cb7 := pb.c7
  have cb8 := pb.c8
  have cb9 := pb.c9
  have cb10 := pb.c10
  have cb11 := pb.c11
  have cb12 := pb.c12
  have cb13 := pb.c13
  go_wp2_with fail
  generalize w4.alloc (.cells #[.slice a4_0 n4_0 k4_0, .int .i64 x.rows, .int .i64 x.columns, .slice a4_1 n4_1 k4_1, .slice a4_2 n4_2 k4_2, .slice a4_3 n4_3 k4_3, .slice a4_4 n4_4 k4_4, .slice a4_5 n4_5 k4_5, .slice a4_6 n4_6 k4_6, .slice a4_7 n4_7 k4_7, .slice a4_8 n4_8 k4_8, .slice a4_9 n4_9 k4_9, .slice a4_10 n4_10 k4_10, .slice a4_11 n4_11 k4_11] 51) = w5 at *
  generalize w4.heap.size = g4 at p4 ⊢
  refine (toDesk_any y vb _ _ hb ht1).mono ?_
  rintro e w6 ⟨v6, F6, he, ⟨hr6, _, _, _, hbn⟩⟩
  unfold deskA at he
  subst he
  replace ha := ha.below' hbn
  replace hb := hb.below' hbn
  replace pa := pa.below' hbn
  replace pb := pb.below' hbn
  replace hr4 := hr4.below' hbn
  replace p4 := p4.below' hbn
  replace hB := hB.trans (hbn.mono hB.size)
  clear hbn
  clear cb0 cb1 cb2 cb3 cb4 cb5 cb6 cb7 cb8 cb9 cb10 cb11 cb12 cb13
  have hsh := hr6.shape
  obtain ⟨q0, q1, q2, q3, q4, q5, q6, q7, q8, q9, q10, q11⟩ := v6
  obtain ⟨⟨a6_0, n6_0, k6_0, h0⟩, ⟨a6_1, n6_1, k6_1, h1⟩, ⟨a6_2, n6_2, k6_2, h2⟩, ⟨a6_3, n6_3, k6_3, h3⟩, ⟨a6_4, n6_4, k6_4, h4⟩, ⟨a6_5, n6_5, k6_5, h5⟩, ⟨a6_6, n6_6, k6_6, h6⟩, ⟨a6_7, n6_7, k6_7, h7⟩, ⟨a6_8, n6_8, k6_8, h8⟩, ⟨a6_9, n6_9, k6_9, h9⟩, ⟨a6_10, n6_10, k6_10, h10⟩, ⟨a6_11, n6_11, k6_11, h11⟩⟩ := hsh
  simp only at h0 h1 h2 h3 h4 h5 h6 h7 h8 h9 h10 h11
  subst h0 h1 h2 h3 h4 h5 h6 h7 h8 h9 h10 h11
  have p6 := DBox.new w6 ⟨.slice a6_0 n6_0 k6_0, .slice a6_1 n6_1 k6_1, .slice a6_2 n6_2 k6_2, .slice a6_3 n6_3 k6_3, .slice a6_4 n6_4 k6_4, .slice a6_5 n6_5 k6_5, .slice a6_6 n6_6 k6_6, .slice a6_7 n6_7 k6_7, .slice a6_8 n6_8 k6_8, .slice a6_9 n6_9 k6_9, .slice a6_10 n6_10 k6_10, .slice a6_11 n6_11 k6_11⟩ y 51
  have hbn := (Below.refl w6.heap.size w6).alloc (Nat.le_refl _) (.cells #[.slice a6_0 n6_0 k6_0, .int .i64 y.rows, .int .i64 y.columns, .slice a6_1 n6_1 k6_1, .slice a6_2 n6_2 k6_2, .slice a6_3 n6_3 k6_3, .slice a6_4 n6_4 k6_4, .slice a6_5 n6_5 k6_5, .slice a6_6 n6_6 k6_6, .slice a6_7 n6_7 k6_7, .slice a6_8 n6_8 k6_8, .slice a6_9 n6_9 k6_9, .slice a6_10 n6_10 k6_10, .slice a6_11 n6_11 k6_11] 51)
  replace p4 := p4.below' hbn
  replace ha := ha.below' hbn
  replace hb := hb.below' hbn
  replace pa := pa.below' hbn
  replace pb := pb.below' hbn
  replace hr4 := hr4.below' hbn
  replace hr6 := hr6.below' hbn
  replace hB := hB.trans (hbn.mono hB.size)
  clear hbn
  have c40 := p4.c0
  have c41 := p4.c1
  have c42 := p4.c2
  have c43 := p4.c3
  have c44 := p4.c4
  have c45 := p4.c5
  have c46 := p4.c6
  have c47 := p4.c7
  have c48 := p4.c8
  have c49 := p4.c9
  have c410 := p4.c10
  have c411 := p4.c11
  have c412 := p4.c12
  have c413 := p4.c13
  have c60 := p6.c0
  have c61 := p6.c1
  have c62 := p6.c2
  have c63 := p6.c3
  have c64 := p6.c4
  have c65 := p6.c5
  have c66 := p6.c6
  have c67 := p6.c7
  have c68 := p6.c8
  have c69 := p6.c9
  have c610 := p6.c10
  have c611 := p6.c11
  have c612 := p6.c12
  have c613 := p6.c13
  go_wp2_with fail
  generalize w6.alloc (.cells #[.slice a6_0 n6_0 k6_0, .int .i64 y.rows, .int .i64 y.columns, .slice a6_1 n6_1 k6_1, .slice a6_2 n6_2 k6_2, .slice a6_3 n6_3 k6_3, .slice a6_4 n6_4 k6_4, .slice a6_5 n6_5 k6_5, .slice a6_6 n6_6 k6_6, .slice a6_7 n6_7 k6_7, .slice a6_8 n6_8 k6_8, .slice a6_9 n6_9 k6_9, .slice a6_10 n6_10 k6_10, .slice a6_11 n6_11 k6_11] 51) = w7 at *
  generalize w6.heap.size = g6 at p6 c60 c61 c62 c63 c64 c65 c66 c67 c68 c69 c610 c611 c612 c613 ⊢
  refine (implSameDesk_any x y _ _ F4 F6 _ hr4 hr6).mono ?_
  rintro e w8 ⟨rfl, hbn⟩
  replace ha := ha.below' hbn
  replace hb := hb.below' hbn
  replace pa := pa.below' hbn
  replace pb := pb.below' hbn
  replace hr4 := hr4.below' hbn
  replace hr6 := hr6.below' hbn
  replace p4 := p4.below' hbn
  replace p6 := p6.below' hbn
  replace hB := hB.trans (hbn.mono hB.size)
  clear hbn
  clear c40 c41 c42 c43 c44 c45 c46 c47 c48 c49 c410 c411 c412 c413 c60 c61 c62 c63 c64 c65 c66 c67 c68 c69 c610 c611 c612 c613
  have e8 : (deskEq x y != deskEq x y) = false := by simp
  have c40 := p4.c0
  have c41 := p4.c1
  have c42 := p4.c2
  have c43 := p4.c3
  have c44 := p4.c4
  have c45 := p4.c5
  have c46 := p4.c6
  have c47 := p4.c7
  have c48 := p4.c8
  have c49 := p4.c9
  have c410 := p4.c10
  have c411 := p4.c11
  have c412 := p4.c12
  have c413 := p4.c13
  have ca0 := pa.c0
  have ca1 := pa.c1
  have ca2 := pa.c2
  have ca3 := pa.c3
  have ca4 := pa.c4
  have ca5 := pa.c5
  have ca6 := pa.c6
  have ca7 := pa.c7
  have ca8 := pa.c8
  have ca9 := pa.c9
  have ca10 := pa.c10
  have ca11 := pa.c11
  have ca12 := pa.c12
  have ca13 := pa.c13
  go_wp2
  have gc40 := cell_regrown c40
  have gc41 := cell_regrown c41
  have gc42 := cell_regrown c42
  have gc43 := cell_regrown c43
  have gc44 := cell_regrown c44
  have gc45 := cell_regrown c45
  have gc46 := cell_regrown c46
  have gc47 := cell_regrown c47
  have gc48 := cell_regrown c48
  have gc49 := cell_regrown c49
  have gc410 := cell_regrown c410
  have gc411 := cell_regrown c411
  have gc412 := cell_regrown c412
  have gc413 := cell_regrown c413
  have gca0 := cell_regrown ca0
  have gca1 := cell_regrown ca1
  have gca2 := cell_regrown ca2
  have gca3 := cell_regrown ca3
  have gca4 := cell_regrown ca4
  have gca5 := cell_regrown ca5
  have gca6 := cell_regrown ca6
  have gca7 := cell_regrown ca7
  have gca8 := cell_regrown ca8
  have gca9 := cell_regrown ca9
  have gca10 := cell_regrown ca10
  have gca11 := cell_regrown ca11
  have gca12 := cell_regrown ca12
  have gca13 := cell_regrown ca13
  refine wp_region_mix (C := fun w' => ∃ p : Regrown, w' = Go.Sort.grow (redrawn w8 p.d) p.os) [true, true, false, false, true] (by kernel_rfl) (by kernel_rfl) (by kernel_rfl) (fun _ _ d _ _ h => by cases d <;> exact h) (regrown_of_below (Below.drew (Below.refl _ _))) ?_
  have hS0 : Below (w8.heap.size) w8 w8.drew := Below.drew (Below.refl _ _)
  refine wpMix_pure (by kernel_rfl) (fun K hK => ?_)
  go_big_quiet_op
  refine hK _ ?_; clear hK K
  refine wpMix_pure (by kernel_rfl) (fun K hK => ?_)
  go_big_quiet_op
  refine hK _ ?_; clear hK K
  refine wpMix_act (by kernel_rfl) (fun K hK => ?_)
  go_big_op
  refine (toDesk_any x va _ w8.drew (ha.below' hS0) ht0).mono ?_
  rintro e wr1 ⟨v9, F9, rfl, ⟨hr9, _, _, _, hbr1⟩⟩
  have hbr1S : Below (w8.heap.size) w8 wr1 := hS0.trans (hbr1.mono hS0.size)
  refine hK _ _ (regrown_of_below hbr1S) ?_
  clear hK K
  refine wpMix_act (by kernel_rfl) (fun K hK => ?_)
  go_big_op
  refine (eqDesk_any x _ v9 F4 F9 wr1 (hr4.below' hbr1S) hr9).mono ?_
  rintro e wr2 ⟨rfl, hbr2⟩
  have hbr2S : Below (w8.heap.size) w8 wr2 := hbr1S.trans (hbr2.mono hbr1S.size)
  refine hK _ _ (regrown_of_below hbr2S) ?_
  clear hK K
  refine wpMix_pure (by kernel_rfl) (fun K hK => ?_)
  go_big_quiet_op
  refine hK _ ?_; clear hK K
  refine wpMix_nil ?_
  replace ha := ha.below' hbr2S
  replace hb := hb.below' hbr2S
  replace pa := pa.below' hbr2S
  replace pb := pb.below' hbr2S
  replace hr4 := hr4.below' hbr2S
  replace hr6 := hr6.below' hbr2S
  replace p4 := p4.below' hbr2S
  replace p6 := p6.below' hbr2S
  replace hB := hB.trans (hbr2S.mono hB.size)
  clear gc40 gca0 c40 ca0 gc41 gca1 c41 ca1 gc42 gca2 c42 ca2 gc43 gca3 c43 ca3 gc44 gca4 c44 ca4 gc45 gca5 c45 ca5 gc46 gca6 c46 ca6 gc47 gca7 c47 ca7 gc48 gca8 c48 ca8 gc49 gca9 c49 ca9 gc410 gca10 c410 ca10 gc411 gca11 c411 ca11 gc412 gca12 c412 ca12 gc413 gca13 c413 ca13 hbr1 hbr2 hbr1S hbr2S hS0 hr9
  generalize wr2 = w9 at *
  have c60 := p6.c0
  have c61 := p6.c1
  have c62 := p6.c2
  have c63 := p6.c3
  have c64 := p6.c4
  have c65 := p6.c5
  have c66 := p6.c6
  have c67 := p6.c7
  have c68 := p6.c8
  have c69 := p6.c9
  have c610 := p6.c10
  have c611 := p6.c11
  have c612 := p6.c12
  have c613 := p6.c13
  have cb0 := pb.c0
  have cb1 := pb.c1
  have cb2 := pb.c2
  have cb3 := pb.c3
  have cb4 := pb.c4
  have cb5 := pb.c5
  have cb6 := pb.c6
  have cb7 := pb.c7
  have cb8 := pb.c8
  have cb9 := pb.c9
  have cb10 := pb.c10
  have cb11 := pb.c11
  have cb12 := pb.c12
  have cb13 := pb.c13
  go_wp2
  have gc60 := cell_regrown c60
  have gc61 := cell_regrown c61
  have gc62 := cell_regrown c62
  have gc63 := cell_regrown c63
  have gc64 := cell_regrown c64
  have gc65 := cell_regrown c65
  have gc66 := cell_regrown c66
  have gc67 := cell_regrown c67
  have gc68 := cell_regrown c68
  have gc69 := cell_regrown c69
  have gc610 := cell_regrown c610
  have gc611 := cell_regrown c611
  have gc612 := cell_regrown c612
  have gc613 := cell_regrown c613
  have gcb0 := cell_regrown cb0
  have gcb1 := cell_regrown cb1
  have gcb2 := cell_regrown cb2
  have gcb3 := cell_regrown cb3
  have gcb4 := cell_regrown cb4
  have gcb5 := cell_regrown cb5
  have gcb6 := cell_regrown cb6
  have gcb7 := cell_regrown cb7
  have gcb8 := cell_regrown cb8
  have gcb9 := cell_regrown cb9
  have gcb10 := cell_regrown cb10
  have gcb11 := cell_regrown cb11
  have gcb12 := cell_regrown cb12
  have gcb13 := cell_regrown cb13
  refine wp_region_mix (C := fun w' => ∃ p : Regrown, w' = Go.Sort.grow (redrawn w9 p.d) p.os) [true, true, false, false, true] (by kernel_rfl) (by kernel_rfl) (by kernel_rfl) (fun _ _ d _ _ h => by cases d <;> exact h) (regrown_of_below (Below.drew (Below.refl _ _))) ?_
  have hS0 : Below (w9.heap.size) w9 w9.drew := Below.drew (Below.refl _ _)
  refine wpMix_pure (by kernel_rfl) (fun K hK => ?_)
  go_big_quiet_op
  refine hK _ ?_; clear hK K
  refine wpMix_pure (by kernel_rfl) (fun K hK => ?_)
  go_big_quiet_op
  refine hK _ ?_; clear hK K
  refine wpMix_act (by kernel_rfl) (fun K hK => ?_)
  go_big_op
  refine (toDesk_any y vb _ w9.drew (hb.below' hS0) ht1).mono ?_
  rintro e wr1 ⟨v9, F9, rfl, ⟨hr9, _, _, _, hbr1⟩⟩
  have hbr1S : Below (w9.heap.size) w9 wr1 := hS0.trans (hbr1.mono hS0.size)
  refine hK _ _ (regrown_of_below hbr1S) ?_
  clear hK K
  refine wpMix_act (by kernel_rfl) (fun K hK => ?_)
  go_big_op
  refine (eqDesk_any y _ v9 F6 F9 wr1 (hr6.below' hbr1S) hr9).mono ?_
  rintro e wr2 ⟨rfl, hbr2⟩
  have hbr2S : Below (w9.heap.size) w9 wr2 := hbr1S.trans (hbr2.mono hbr1S.size)
  refine hK _ _ (regrown_of_below hbr2S) ?_
  clear hK K
  refine wpMix_pure (by kernel_rfl) (fun K hK => ?_)
  go_big_quiet_op
  refine hK _ ?_; clear hK K
  refine wpMix_nil ?_
  replace ha := ha.below' hbr2S
  replace hb := hb.below' hbr2S
  replace pa := pa.below' hbr2S
  replace pb := pb.below' hbr2S
  replace hr4 := hr4.below' hbr2S
  replace hr6 := hr6.below' hbr2S
  replace p4 := p4.below' hbr2S
  replace p6 := p6.below' hbr2S
  replace hB := hB.trans (hbr2S.mono hB.size)
  clear gc60 gcb0 c60 cb0 gc61 gcb1 c61 cb1 gc62 gcb2 c62 cb2 gc63 gcb3 c63 cb3 gc64 gcb4 c64 cb4 gc65 gcb5 c65 cb5 gc66 gcb6 c66 cb6 gc67 gcb7 c67 cb7 gc68 gcb8 c68 cb8 gc69 gcb9 c69 cb9 gc610 gcb10 c610 cb10 gc611 gcb11 c611 cb11 gc612 gcb12 c612 cb12 gc613 gcb13 c613 cb13 hbr1 hbr2 hbr1S hbr2S hS0 hr9
  generalize wr2 = w10 at *
  go_wp2
  go_ret
  exact ⟨rfl, hB⟩
theorem walkSameDesk (x : DDesk) (va : DVals) (Fa : Nat → List Nat) (y : DDesk) (vb : DVals) (Fb : Nat → List Nat) (w : World) (ha : DeskRd w va x Fa) (hb : DeskRd w vb y Fb) :
    Calls Try.prog 3 #[deskA va x, deskA vb y] w fun e w' => YesR w e w' := walkSameDesk0 x y va vb Fa Fb w ha hb
end Go.Proofs.Ythejcbhplgjmgaa
