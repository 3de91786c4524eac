
/- The walk of FnExactValidService. Written by wip/gen/wvs.py. -/
import Derived.Test.YtpebibegdeioeaaUe
import Derived.Test.YtpebibegdeioeaaDsv
import Derived.Test.YtpebibegdeioeaaMr
namespace Go.Proofs.Ytpebibegdeioeaa
open Go.RowKit
set_option linter.unusedVariables false

set_option maxRecDepth 100000 in
set_option maxHeartbeats 8000000 in
theorem walkValidService (x : DServ) (va : SVals) (Fa : Nat → List Nat) (w : World) (ha : ServRd w va x Fa) :
    Calls Try.prog 3 #[servA va x] w fun e w' => YesR w e w' := by
  have hB : Below w.heap.size w (w.alloc (.cells #[.int .i64 x.rows, .int .i64 x.columns, .int .i64 x.size, va.he, va.ma, .int .i64 x.friction, va.se, va.pr, .int .i64 x.rise, .int .i64 x.run, .int .i64 x.doubt, .int .i64 x.limit, va.as_, va.ga, .int .i64 x.before, .int .i64 x.level, .int .i64 x.above, .int .i64 x.fresh, .int .i64 x.weak, .int .i64 x.tonnes, va.tx] 30)) := (Below.refl _ _).alloc (Nat.le_refl _) _
  have pa := SBox.new w va x 30
  replace ha := ha.below' hB
  unfold servA
  go_enter Try.func3, Try.ntmps3
  go_wp2_with (refine wpList_load_mid rfl 30 _ rfl _ 0 rfl [.int .i64 x.rows, .int .i64 x.columns, .int .i64 x.size, va.he, va.ma, .int .i64 x.friction, va.se, va.pr, .int .i64 x.rise, .int .i64 x.run, .int .i64 x.doubt, .int .i64 x.limit, va.as_, va.ga, .int .i64 x.before, .int .i64 x.level, .int .i64 x.above, .int .i64 x.fresh, .int .i64 x.weak, .int .i64 x.tonnes, va.tx] _ pa.range Try.underlying30 rfl (by kernel_rfl) ?_)
  generalize w.alloc (.cells #[.int .i64 x.rows, .int .i64 x.columns, .int .i64 x.size, va.he, va.ma, .int .i64 x.friction, va.se, va.pr, .int .i64 x.rise, .int .i64 x.run, .int .i64 x.doubt, .int .i64 x.limit, va.as_, va.ga, .int .i64 x.before, .int .i64 x.level, .int .i64 x.above, .int .i64 x.fresh, .int .i64 x.weak, .int .i64 x.tonnes, va.tx] 30) = w0 at *
  refine (szService_any x va _ 1048576 _ ha (by omega) (by omega)).mono ?_
  rintro e w1 ⟨r0, rfl, hr0_, hbn⟩
  replace ha := ha.below' hbn
  replace pa := pa.below' hbn
  replace hB := hB.trans (hbn.mono hB.size)
  clear hbn
  by_cases hneg : r0 < 0
  · go_wp2
    go_ret
    exact ⟨rfl, hB⟩
  have hr0 : 0 ≤ r0 ∧ r0 + (totServ x : Nat) = 1048576 := by
    rcases hr0_ with h | h
    · omega
    · exact h
  clear hr0_ hneg
  have ht0 : totServ x ≤ 1048576 := by omega
  have hr0b : r0 ≤ 1048576 := by omega
  have hr0a : 0 ≤ r0 := hr0.1
  clear hr0
  go_wp2_with (refine wpList_load_mid rfl 30 _ rfl _ 0 rfl [.int .i64 x.rows, .int .i64 x.columns, .int .i64 x.size, va.he, va.ma, .int .i64 x.friction, va.se, va.pr, .int .i64 x.rise, .int .i64 x.run, .int .i64 x.doubt, .int .i64 x.limit, va.as_, va.ga, .int .i64 x.before, .int .i64 x.level, .int .i64 x.above, .int .i64 x.fresh, .int .i64 x.weak, .int .i64 x.tonnes, va.tx] _ pa.range Try.underlying30 rfl (by kernel_rfl) ?_)
  refine (toService_any x va _ _ ha ht0).mono ?_
  rintro e w4 ⟨v4, F4, he, ⟨hr4, _, _, _, hbn⟩⟩
  unfold servA at he
  subst he
  replace ha := ha.below' hbn
  replace pa := pa.below' hbn
  replace hB := hB.trans (hbn.mono hB.size)
  clear hbn
  have hsh := hr4.shape
  obtain ⟨q0, q1, q2, q3, q4, q5, q6⟩ := v4
  obtain ⟨⟨a4_0, k4_0, h0, _, _⟩, ⟨a4_1, k4_1, h1, _, _⟩, ⟨a4_2, k4_2, h2, _, _⟩, ⟨a4_3, k4_3, h3, _, _⟩, ⟨a4_4, k4_4, h4, _, _⟩, ⟨a4_5, k4_5, h5, _, _⟩, ⟨a4_6, k4_6, h6, _, _⟩⟩ := hsh
  simp only at h0 h1 h2 h3 h4 h5 h6
  subst h0 h1 h2 h3 h4 h5 h6
  go_wp2_with fail
  refine (specValidService_any x _ F4 _ hr4).mono ?_
  rintro e w5 ⟨rfl, hbn⟩
  replace ha := ha.below' hbn
  replace pa := pa.below' hbn
  replace hB := hB.trans (hbn.mono hB.size)
  clear hbn
  clear hr4
  go_wp2_with (refine wpList_load_mid rfl 30 _ rfl _ 0 rfl [.int .i64 x.rows, .int .i64 x.columns, .int .i64 x.size, va.he, va.ma, .int .i64 x.friction, va.se, va.pr, .int .i64 x.rise, .int .i64 x.run, .int .i64 x.doubt, .int .i64 x.limit, va.as_, va.ga, .int .i64 x.before, .int .i64 x.level, .int .i64 x.above, .int .i64 x.fresh, .int .i64 x.weak, .int .i64 x.tonnes, va.tx] _ pa.range Try.underlying30 rfl (by kernel_rfl) ?_)
  refine (toService_any x va _ _ ha ht0).mono ?_
  rintro e w6 ⟨v6, F6, he, ⟨hr6, _, _, _, hbn⟩⟩
  unfold servA at he
  subst he
  replace ha := ha.below' hbn
  replace pa := pa.below' hbn
  replace hB := hB.trans (hbn.mono hB.size)
  clear hbn
  have hsh := hr6.shape
  obtain ⟨q0, q1, q2, q3, q4, q5, q6⟩ := v6
  obtain ⟨⟨a6_0, k6_0, h0, _, _⟩, ⟨a6_1, k6_1, h1, _, _⟩, ⟨a6_2, k6_2, h2, _, _⟩, ⟨a6_3, k6_3, h3, _, _⟩, ⟨a6_4, k6_4, h4, _, _⟩, ⟨a6_5, k6_5, h5, _, _⟩, ⟨a6_6, k6_6, h6, _, _⟩⟩ := hsh
  simp only at h0 h1 h2 h3 h4 h5 h6
  subst h0 h1 h2 h3 h4 h5 h6
  have bx6 := BoxS.new w6 38
  have hth : (w6.alloc (.cells #[.int .i64 0, .int .i64 0, .int .i64 0, .slice none 0 0, .slice none 0 0, .int .i64 0, .slice none 0 0, .slice none 0 0, .int .i64 0, .int .i64 0, .int .i64 0, .int .i64 0, .slice none 0 0, .slice none 0 0, .int .i64 0, .int .i64 0, .int .i64 0, .int .i64 0, .int .i64 0, .int .i64 0, .slice none 0 0] 38)).there w6.heap.size 0 21 := by
    intro j hj
    rw [Nat.zero_add]
    match j, hj with
    | 0, _ => exact ⟨by rw [bx6.d0]; rfl, bx6.z0⟩
    | 1, _ => exact ⟨by rw [bx6.d1]; rfl, bx6.z1⟩
    | 2, _ => exact ⟨by rw [bx6.d2]; rfl, bx6.z2⟩
    | 3, _ => exact ⟨by rw [bx6.d3]; rfl, bx6.z3⟩
    | 4, _ => exact ⟨by rw [bx6.d4]; rfl, bx6.z4⟩
    | 5, _ => exact ⟨by rw [bx6.d5]; rfl, bx6.z5⟩
    | 6, _ => exact ⟨by rw [bx6.d6]; rfl, bx6.z6⟩
    | 7, _ => exact ⟨by rw [bx6.d7]; rfl, bx6.z7⟩
    | 8, _ => exact ⟨by rw [bx6.d8]; rfl, bx6.z8⟩
    | 9, _ => exact ⟨by rw [bx6.d9]; rfl, bx6.z9⟩
    | 10, _ => exact ⟨by rw [bx6.d10]; rfl, bx6.z10⟩
    | 11, _ => exact ⟨by rw [bx6.d11]; rfl, bx6.z11⟩
    | 12, _ => exact ⟨by rw [bx6.d12]; rfl, bx6.z12⟩
    | 13, _ => exact ⟨by rw [bx6.d13]; rfl, bx6.z13⟩
    | 14, _ => exact ⟨by rw [bx6.d14]; rfl, bx6.z14⟩
    | 15, _ => exact ⟨by rw [bx6.d15]; rfl, bx6.z15⟩
    | 16, _ => exact ⟨by rw [bx6.d16]; rfl, bx6.z16⟩
    | 17, _ => exact ⟨by rw [bx6.d17]; rfl, bx6.z17⟩
    | 18, _ => exact ⟨by rw [bx6.d18]; rfl, bx6.z18⟩
    | 19, _ => exact ⟨by rw [bx6.d19]; rfl, bx6.z19⟩
    | 20, _ => exact ⟨by rw [bx6.d20]; rfl, bx6.z20⟩
    | j + 21, hj => omega
  have hr6r := World.rangeAt_setCells_same (w6.alloc (.cells #[.int .i64 0, .int .i64 0, .int .i64 0, .slice none 0 0, .slice none 0 0, .int .i64 0, .slice none 0 0, .slice none 0 0, .int .i64 0, .int .i64 0, .int .i64 0, .int .i64 0, .slice none 0 0, .slice none 0 0, .int .i64 0, .int .i64 0, .int .i64 0, .int .i64 0, .int .i64 0, .int .i64 0, .slice none 0 0] 38)) w6.heap.size 0 [.int .i64 x.rows, .int .i64 x.columns, .int .i64 x.size, .slice a6_0 x.he.length k6_0, .slice a6_1 x.ma.length k6_1, .int .i64 x.friction, .slice a6_2 x.se.length k6_2, .slice a6_3 x.pr.length k6_3, .int .i64 x.rise, .int .i64 x.run, .int .i64 x.doubt, .int .i64 x.limit, .slice a6_4 x.as_.length k6_4, .slice a6_5 x.ga.length k6_5, .int .i64 x.before, .int .i64 x.level, .int .i64 x.above, .int .i64 x.fresh, .int .i64 x.weak, .int .i64 x.tonnes, .slice a6_6 x.tx.length k6_6] hth
  have p6 : SBox ((w6.alloc (.cells #[.int .i64 0, .int .i64 0, .int .i64 0, .slice none 0 0, .slice none 0 0, .int .i64 0, .slice none 0 0, .slice none 0 0, .int .i64 0, .int .i64 0, .int .i64 0, .int .i64 0, .slice none 0 0, .slice none 0 0, .int .i64 0, .int .i64 0, .int .i64 0, .int .i64 0, .int .i64 0, .int .i64 0, .slice none 0 0] 38)).setCells w6.heap.size 0 [.int .i64 x.rows, .int .i64 x.columns, .int .i64 x.size, .slice a6_0 x.he.length k6_0, .slice a6_1 x.ma.length k6_1, .int .i64 x.friction, .slice a6_2 x.se.length k6_2, .slice a6_3 x.pr.length k6_3, .int .i64 x.rise, .int .i64 x.run, .int .i64 x.doubt, .int .i64 x.limit, .slice a6_4 x.as_.length k6_4, .slice a6_5 x.ga.length k6_5, .int .i64 x.before, .int .i64 x.level, .int .i64 x.above, .int .i64 x.fresh, .int .i64 x.weak, .int .i64 x.tonnes, .slice a6_6 x.tx.length k6_6]) w6.heap.size ⟨.slice a6_0 x.he.length k6_0, .slice a6_1 x.ma.length k6_1, .slice a6_2 x.se.length k6_2, .slice a6_3 x.pr.length k6_3, .slice a6_4 x.as_.length k6_4, .slice a6_5 x.ga.length k6_5, .slice a6_6 x.tx.length k6_6⟩ x := SBox.of_range hr6r
  have hbn0 : Below w6.heap.size w6 (w6.alloc (.cells #[.int .i64 0, .int .i64 0, .int .i64 0, .slice none 0 0, .slice none 0 0, .int .i64 0, .slice none 0 0, .slice none 0 0, .int .i64 0, .int .i64 0, .int .i64 0, .int .i64 0, .slice none 0 0, .slice none 0 0, .int .i64 0, .int .i64 0, .int .i64 0, .int .i64 0, .int .i64 0, .int .i64 0, .slice none 0 0] 38)) := (Below.refl _ _).alloc (Nat.le_refl _) _
  have hbn : Below w6.heap.size w6 ((w6.alloc (.cells #[.int .i64 0, .int .i64 0, .int .i64 0, .slice none 0 0, .slice none 0 0, .int .i64 0, .slice none 0 0, .slice none 0 0, .int .i64 0, .int .i64 0, .int .i64 0, .int .i64 0, .slice none 0 0, .slice none 0 0, .int .i64 0, .int .i64 0, .int .i64 0, .int .i64 0, .int .i64 0, .int .i64 0, .slice none 0 0] 38)).setCells w6.heap.size 0 [.int .i64 x.rows, .int .i64 x.columns, .int .i64 x.size, .slice a6_0 x.he.length k6_0, .slice a6_1 x.ma.length k6_1, .int .i64 x.friction, .slice a6_2 x.se.length k6_2, .slice a6_3 x.pr.length k6_3, .int .i64 x.rise, .int .i64 x.run, .int .i64 x.doubt, .int .i64 x.limit, .slice a6_4 x.as_.length k6_4, .slice a6_5 x.ga.length k6_5, .int .i64 x.before, .int .i64 x.level, .int .i64 x.above, .int .i64 x.fresh, .int .i64 x.weak, .int .i64 x.tonnes, .slice a6_6 x.tx.length k6_6]) := (only_setCells w6.heap.size [.int .i64 x.rows, .int .i64 x.columns, .int .i64 x.size, .slice a6_0 x.he.length k6_0, .slice a6_1 x.ma.length k6_1, .int .i64 x.friction, .slice a6_2 x.se.length k6_2, .slice a6_3 x.pr.length k6_3, .int .i64 x.rise, .int .i64 x.run, .int .i64 x.doubt, .int .i64 x.limit, .slice a6_4 x.as_.length k6_4, .slice a6_5 x.ga.length k6_5, .int .i64 x.before, .int .i64 x.level, .int .i64 x.above, .int .i64 x.fresh, .int .i64 x.weak, .int .i64 x.tonnes, .slice a6_6 x.tx.length k6_6] 0 _ _ (Only.of_below hbn0)).below (B := w6.heap.size) (Nat.le_refl _) (fun b hm => by rw [List.mem_singleton] at hm; omega)
  have hthW : ∀ W, W = (w6.alloc (.cells #[.int .i64 0, .int .i64 0, .int .i64 0, .slice none 0 0, .slice none 0 0, .int .i64 0, .slice none 0 0, .slice none 0 0, .int .i64 0, .int .i64 0, .int .i64 0, .int .i64 0, .slice none 0 0, .slice none 0 0, .int .i64 0, .int .i64 0, .int .i64 0, .int .i64 0, .int .i64 0, .int .i64 0, .slice none 0 0] 38)) → W.there w6.heap.size 0 21 := by rintro _ rfl; exact hth
  clear hbn0 hr6r bx6 hth
  replace ha := ha.below' hbn
  replace pa := pa.below' hbn
  replace hr6 := hr6.below' hbn
  replace hB := hB.trans (hbn.mono hB.size)
  clear hbn
  have rng6 : ∀ W, W = ((w6.alloc (.cells #[.int .i64 0, .int .i64 0, .int .i64 0, .slice none 0 0, .slice none 0 0, .int .i64 0, .slice none 0 0, .slice none 0 0, .int .i64 0, .int .i64 0, .int .i64 0, .int .i64 0, .slice none 0 0, .slice none 0 0, .int .i64 0, .int .i64 0, .int .i64 0, .int .i64 0, .int .i64 0, .int .i64 0, .slice none 0 0] 38)).setCells w6.heap.size 0 [.int .i64 x.rows, .int .i64 x.columns, .int .i64 x.size, .slice a6_0 x.he.length k6_0, .slice a6_1 x.ma.length k6_1, .int .i64 x.friction, .slice a6_2 x.se.length k6_2, .slice a6_3 x.pr.length k6_3, .int .i64 x.rise, .int .i64 x.run, .int .i64 x.doubt, .int .i64 x.limit, .slice a6_4 x.as_.length k6_4, .slice a6_5 x.ga.length k6_5, .int .i64 x.before, .int .i64 x.level, .int .i64 x.above, .int .i64 x.fresh, .int .i64 x.weak, .int .i64 x.tonnes, .slice a6_6 x.tx.length k6_6]) → W.rangeAt w6.heap.size 0 [.int .i64 x.rows, .int .i64 x.columns, .int .i64 x.size, .slice a6_0 x.he.length k6_0, .slice a6_1 x.ma.length k6_1, .int .i64 x.friction, .slice a6_2 x.se.length k6_2, .slice a6_3 x.pr.length k6_3, .int .i64 x.rise, .int .i64 x.run, .int .i64 x.doubt, .int .i64 x.limit, .slice a6_4 x.as_.length k6_4, .slice a6_5 x.ga.length k6_5, .int .i64 x.before, .int .i64 x.level, .int .i64 x.above, .int .i64 x.fresh, .int .i64 x.weak, .int .i64 x.tonnes, .slice a6_6 x.tx.length k6_6] := by rintro _ rfl; exact p6.range
  go_wp2_with (first | (refine wpList_store_mid rfl 38 _ _ rfl w6.heap.size 0 #[.int .i64 x.rows, .int .i64 x.columns, .int .i64 x.size, .slice a6_0 x.he.length k6_0, .slice a6_1 x.ma.length k6_1, .int .i64 x.friction, .slice a6_2 x.se.length k6_2, .slice a6_3 x.pr.length k6_3, .int .i64 x.rise, .int .i64 x.run, .int .i64 x.doubt, .int .i64 x.limit, .slice a6_4 x.as_.length k6_4, .slice a6_5 x.ga.length k6_5, .int .i64 x.before, .int .i64 x.level, .int .i64 x.above, .int .i64 x.fresh, .int .i64 x.weak, .int .i64 x.tonnes, .slice a6_6 x.tx.length k6_6] rfl rfl (hthW _ (by with_reducible rfl)) (by kernel_rfl) (by kernel_rfl) ?_) | (refine wpList_load_mid rfl 38 _ rfl _ 0 rfl [.int .i64 x.rows, .int .i64 x.columns, .int .i64 x.size, .slice a6_0 x.he.length k6_0, .slice a6_1 x.ma.length k6_1, .int .i64 x.friction, .slice a6_2 x.se.length k6_2, .slice a6_3 x.pr.length k6_3, .int .i64 x.rise, .int .i64 x.run, .int .i64 x.doubt, .int .i64 x.limit, .slice a6_4 x.as_.length k6_4, .slice a6_5 x.ga.length k6_5, .int .i64 x.before, .int .i64 x.level, .int .i64 x.above, .int .i64 x.fresh, .int .i64 x.weak, .int .i64 x.tonnes, .slice a6_6 x.tx.length k6_6] _ (rng6 _ (by with_reducible rfl)) Try.underlying38 rfl (by kernel_rfl) ?_))
  clear hthW rng6
  generalize ((w6.alloc (.cells #[.int .i64 0, .int .i64 0, .int .i64 0, .slice none 0 0, .slice none 0 0, .int .i64 0, .slice none 0 0, .slice none 0 0, .int .i64 0, .int .i64 0, .int .i64 0, .int .i64 0, .slice none 0 0, .slice none 0 0, .int .i64 0, .int .i64 0, .int .i64 0, .int .i64 0, .int .i64 0, .int .i64 0, .slice none 0 0] 38)).setCells w6.heap.size 0 [.int .i64 x.rows, .int .i64 x.columns, .int .i64 x.size, .slice a6_0 x.he.length k6_0, .slice a6_1 x.ma.length k6_1, .int .i64 x.friction, .slice a6_2 x.se.length k6_2, .slice a6_3 x.pr.length k6_3, .int .i64 x.rise, .int .i64 x.run, .int .i64 x.doubt, .int .i64 x.limit, .slice a6_4 x.as_.length k6_4, .slice a6_5 x.ga.length k6_5, .int .i64 x.before, .int .i64 x.level, .int .i64 x.above, .int .i64 x.fresh, .int .i64 x.weak, .int .i64 x.tonnes, .slice a6_6 x.tx.length k6_6]) = w7 at *
  generalize w6.heap.size = g6 at p6 ⊢
  refine (implValidService_any x _ F6 _ hr6).mono ?_
  rintro e w8 ⟨rfl, hbn⟩
  replace ha := ha.below' hbn
  replace pa := pa.below' hbn
  replace hr6 := hr6.below' hbn
  replace p6 := p6.below' hbn
  replace hB := hB.trans (hbn.mono hB.size)
  clear hbn
  have e8 : (servB x != servB x) = false := by simp
  go_wp2
  have R6 := range_regrown p6.range
  have RA := range_regrown pa.range
  refine wp_region_mix (C := fun w' => ∃ p : Regrown, w' = Go.Sort.grow (redrawn w8 p.d) p.os) [true, true, false, false, true] (by kernel_rfl) (by kernel_rfl) (by kernel_rfl) (fun _ _ d _ _ h => by cases d <;> exact h) (regrown_of_below (Below.drew (Below.refl _ _))) ?_
  have hS0 : Below (w8.heap.size) w8 w8.drew := Below.drew (Below.refl _ _)
  refine wpMix_pure (by kernel_rfl) (fun K hK => ?_)
  refine quiet_load_mid 38 _ rfl _ 0 rfl [.int .i64 x.rows, .int .i64 x.columns, .int .i64 x.size, .slice a6_0 x.he.length k6_0, .slice a6_1 x.ma.length k6_1, .int .i64 x.friction, .slice a6_2 x.se.length k6_2, .slice a6_3 x.pr.length k6_3, .int .i64 x.rise, .int .i64 x.run, .int .i64 x.doubt, .int .i64 x.limit, .slice a6_4 x.as_.length k6_4, .slice a6_5 x.ga.length k6_5, .int .i64 x.before, .int .i64 x.level, .int .i64 x.above, .int .i64 x.fresh, .int .i64 x.weak, .int .i64 x.tonnes, .slice a6_6 x.tx.length k6_6] _ R6 Try.underlying38 rfl (by kernel_rfl) ?_
  simp only [Act.put, List.setIfInBounds_toArray, List.set_cons_zero, List.set_cons_succ]
  refine hK _ ?_; clear hK K
  refine wpMix_pure (by kernel_rfl) (fun K hK => ?_)
  refine quiet_load_mid 30 _ rfl _ 0 rfl [.int .i64 x.rows, .int .i64 x.columns, .int .i64 x.size, va.he, va.ma, .int .i64 x.friction, va.se, va.pr, .int .i64 x.rise, .int .i64 x.run, .int .i64 x.doubt, .int .i64 x.limit, va.as_, va.ga, .int .i64 x.before, .int .i64 x.level, .int .i64 x.above, .int .i64 x.fresh, .int .i64 x.weak, .int .i64 x.tonnes, va.tx] _ RA Try.underlying30 rfl (by kernel_rfl) ?_
  simp only [Act.put, List.setIfInBounds_toArray, List.set_cons_zero, List.set_cons_succ]
  refine hK _ ?_; clear hK K
  refine wpMix_act (by kernel_rfl) (fun K hK => ?_)
  go_big_op
  refine (toService_any x va _ w8.drew (ha.below' hS0) ht0).mono ?_
  rintro e wr1 ⟨v9, F9, rfl, ⟨hr9, _, _, _, hbr1⟩⟩
  have hbr1S : Below (w8.heap.size) w8 wr1 := hS0.trans (hbr1.mono hS0.size)
  refine hK _ _ (regrown_of_below hbr1S) ?_
  clear hK K
  refine wpMix_act (by kernel_rfl) (fun K hK => ?_)
  go_big_op
  refine (eqService_any x _ v9 F6 F9 wr1 (hr6.below' hbr1S) hr9).mono ?_
  rintro e wr2 ⟨rfl, hbr2⟩
  have hbr2S : Below (w8.heap.size) w8 wr2 := hbr1S.trans (hbr2.mono hbr1S.size)
  refine hK _ _ (regrown_of_below hbr2S) ?_
  clear hK K
  refine wpMix_pure (by kernel_rfl) (fun K hK => ?_)
  go_big_quiet_op
  refine hK _ ?_; clear hK K
  refine wpMix_nil ?_
  replace ha := ha.below' hbr2S
  replace pa := pa.below' hbr2S
  replace hr6 := hr6.below' hbr2S
  replace p6 := p6.below' hbr2S
  replace hB := hB.trans (hbr2S.mono hB.size)
  clear R6 RA hbr1 hbr2 hbr1S hbr2S hS0 hr9
  generalize wr2 = w9 at *
  go_wp2
  go_ret
  exact ⟨rfl, hB⟩
end Go.Proofs.Ytpebibegdeioeaa
