/- Parts of the proof: Oc, Oe, Ms, B10, Oh, Osl, WStations, LawL, Dr, Open, Ob. -/
import Derived.Test.YtfgmikgghpflbaaGreatDoorG04
import Derived.Test.YtfgmikgghpflbaaGreatDoorG05
import Derived.Test.YtfgmikgghpflbaaGreatDoorG01
import Derived.Test.YtfgmikgghpflbaaGreatDoorG03
import Derived.Deep.CutRange
import Derived.LaidMore
import Derived.Stop.Joined
import Derived.Laws.Tables
import GoSem.PinnedTables
import Derived.Deep.Slices
import Derived.Deep.Fields
import Derived.OpenShut
namespace Go.Proofs.YtfgmikgghpflbaaGreatDoor
open Go.RowKit
set_option linter.unusedVariables false

set_option maxRecDepth 100000 in
set_option maxHeartbeats 8000000 in
theorem specAddObserved_any (v : Value) (xs : List DObserved) (fp : List Nat) (x : DObserved) (w : World) (hx : Sl fObserved.cod w v xs fp) (hok : fObserved.ok x) :
    Calls Tryz.prog 189 #[v, .agg #[.int .i64 x.hour, .int .i64 x.snow, .int .i64 x.degrees, .int .i64 x.wind]] w fun e w' => ∃ v', e = .returned (.tuple #[v', .int .i64 (addObservedC xs x)]) ∧ Own fObserved w' w.heap.size 66 v' (addObservedF xs x) ∧ Below w.heap.size w w' := by
  obtain ⟨A, cap, rfl, hlen, hcap⟩ := hx.form
  obtain ⟨i0, hi, hz0, hz1, hz2⟩ := info_parts infoObservedK
  have hfp := hx.lt
  have hB0 : Below w.heap.size w (w.alloc (.cells #[.int .i64 x.hour, .int .i64 x.snow, .int .i64 x.degrees, .int .i64 x.wind] 66)) := (Below.refl _ _).alloc (Nat.le_refl _) _
  have hp := PObserved.box w x 66
  replace hx := hx.below' hB0
  go_enter Tryz.func189, Tryz.ntmps189
  go_wp2_with fail
  refine (l04Ok_any _ xs fp _ hx).mono ?_
  rintro e w1 ⟨rfl, hb1⟩
  have hp1 := hp.below' hb1
  have hx1 := hx.below' hb1
  have hB1 := hB0.trans (hb1.mono hB0.size)
  clear hp hx hb1 hB0
  cases hv : obssB xs
  · have HE := Lib.hid (addObserved_bad (x := x) (show addObservedC xs x = 1 by unfold addObservedC; rw [hv]; rfl) (by decide))
    go_wp2
    go_ret2
    exact ⟨_, by rw [HE.out.1]; rfl, by rw [HE.out.2]; exact Own.nil _ _ _ _, hB1⟩
  have hlen2 := obssB_len hv
  go_wp2_with fail
  refine (l04One_any _ _ x _ hp1 hok).mono ?_
  rintro e w2 ⟨rfl, hb2⟩
  have hp2 := hp1.below' hb2
  have hx2 := hx1.below' hb2
  have hB2 := hB1.trans (hb2.mono hB1.size)
  have hgx := hp2.lt
  clear hp1 hx1 hb2
  cases ho : obsB x
  · have HE := Lib.hid (addObserved_bad (show addObservedC xs x = 2 by unfold addObservedC; rw [hv, ho]; rfl) (by decide))
    go_wp2
    go_ret2
    exact ⟨_, by rw [HE.out.1]; rfl, by rw [HE.out.2]; exact Own.nil _ _ _ _, hB2⟩
  go_wp2
  go_loopw [6] (fun i wr => ∃ k : Nat, k ≤ xs.length ∧ i = .int .i64 k ∧ Hid (∀ m (h : m < xs.length), m < k → xs[m].hour < x.hour) ∧ Below w2.heap.size w2 wr) (fun i _ => xs.length - (intOf i).toNat)
  case atStart => exact ⟨0, Nat.zero_le _, rfl, fun m _ h => absurd h (Nat.not_lt_zero _), Below.refl _ _⟩
  case round =>
    obtain ⟨k, hk, rfl, HA, hb⟩ := hrel
    obtain ⟨d0, d1, d2, d3⟩ := id (hp2.below' hb)
    by_cases hlt : k < xs.length
    · obtain ⟨b1, off, rfl, _, hok1, hpm⟩ := PObserved.elem (hx2.below' hb) hlt
      obtain ⟨c0, c1, c2, c3⟩ := id hpm
      by_cases hq : xs[k].hour < x.hour
      · have HA2 : Hid (∀ m (h : m < xs.length), m < k + 1 → xs[m].hour < x.hour) := fun m h hm => by
          rcases Nat.lt_or_eq_of_le (Nat.le_of_lt_succ hm) with h1 | rfl
          · exact HA.out m h h1
          · exact hq
        clear HA
        go_wp2
        have gc0 := cell_regrown c0
        have gc1 := cell_regrown c1
        have gc2 := cell_regrown c2
        have gc3 := cell_regrown c3
        have gd0 := cell_regrown d0
        have gd1 := cell_regrown d1
        have gd2 := cell_regrown d2
        have gd3 := cell_regrown d3
        refine wp_region_mix (C := fun w' => ∃ p : Regrown, w' = Go.Sort.grow (redrawn wr p.d) p.os) [true, true, true, true, true, true, true, true, true, true, true, true, true, true] (by kernel_rfl) (by kernel_rfl) (by kernel_rfl) (fun _ _ d _ _ h => by cases d <;> exact h) (regrown_of_below (Below.drew (Below.refl _ _))) ?_
        have hS0 : Below (wr.heap.size) wr wr.drew := Below.drew (Below.refl _ _)
        refine wpMix_pure (by kernel_rfl) (fun K hK => ?_); go_big_quiet_op; refine hK _ ?_; clear hK K
        refine wpMix_pure (by kernel_rfl) (fun K hK => ?_); go_big_quiet_op; refine hK _ ?_; clear hK K
        refine wpMix_pure (by kernel_rfl) (fun K hK => ?_); go_big_quiet_op; refine hK _ ?_; clear hK K
        refine wpMix_pure (by kernel_rfl) (fun K hK => ?_); go_big_quiet_op; refine hK _ ?_; clear hK K
        refine wpMix_pure (by kernel_rfl) (fun K hK => ?_); go_big_quiet_op; refine hK _ ?_; clear hK K
        refine wpMix_pure (by kernel_rfl) (fun K hK => ?_); go_big_quiet_op; refine hK _ ?_; clear hK K
        refine wpMix_pure (by kernel_rfl) (fun K hK => ?_); go_big_quiet_op; refine hK _ ?_; clear hK K
        refine wpMix_pure (by kernel_rfl) (fun K hK => ?_); go_big_quiet_op; refine hK _ ?_; clear hK K
        refine wpMix_pure (by kernel_rfl) (fun K hK => ?_); go_big_quiet_op; refine hK _ ?_; clear hK K
        refine wpMix_pure (by kernel_rfl) (fun K hK => ?_); go_big_quiet_op; refine hK _ ?_; clear hK K
        refine wpMix_pure (by kernel_rfl) (fun K hK => ?_); go_big_quiet_op; refine hK _ ?_; clear hK K
        refine wpMix_pure (by kernel_rfl) (fun K hK => ?_); go_big_quiet_op; refine hK _ ?_; clear hK K
        refine wpMix_pure (by kernel_rfl) (fun K hK => ?_); go_big_quiet_op; refine hK _ ?_; clear hK K
        refine wpMix_pure (by kernel_rfl) (fun K hK => ?_); go_big_quiet_op; refine hK _ ?_; clear hK K
        refine wpMix_nil ?_
        go_wp2
        go_roundw
        case rel => exact ⟨k + 1, by omega, by go_num, HA2, hb.trans (hS0.mono hb.size)⟩
        case measure => simp [intOf]; omega
      · have HAT : Hid (atObserved xs x.hour = k) := posF_is _ xs k hk (fun m h hm => decide_eq_true (cmI_lt.2 (HA.out m h hm))) (fun h => decide_eq_false (fun h2 => hq (cmI_lt.1 h2)))
        by_cases hqe : xs[k].hour = x.hour
        · have hh : hasObserved xs x.hour = true := by
            unfold hasObserved
            rw [HAT.out, List.getElem?_eq_getElem hlt]
            show (cmI _ _ == 0) = true
            rw [beq_iff_eq]; exact cmI_zero.2 hqe
          have eq1 : (xs[k].hour == x.hour) = true := by rw [beq_iff_eq]; exact hqe
          clear hqe HA
          go_wp2
          have gc0 := cell_regrown c0
          have gc1 := cell_regrown c1
          have gc2 := cell_regrown c2
          have gc3 := cell_regrown c3
          have gd0 := cell_regrown d0
          have gd1 := cell_regrown d1
          have gd2 := cell_regrown d2
          have gd3 := cell_regrown d3
          refine wp_region_mix (C := fun w' => ∃ p : Regrown, w' = Go.Sort.grow (redrawn wr p.d) p.os) [true, true, true, true, true, true, true, true, true, true, true, true, true, true] (by kernel_rfl) (by kernel_rfl) (by kernel_rfl) (fun _ _ d _ _ h => by cases d <;> exact h) (regrown_of_below (Below.drew (Below.refl _ _))) ?_
          have hS0 : Below (wr.heap.size) wr wr.drew := Below.drew (Below.refl _ _)
          refine wpMix_pure (by kernel_rfl) (fun K hK => ?_); go_big_quiet_op; refine hK _ ?_; clear hK K
          refine wpMix_pure (by kernel_rfl) (fun K hK => ?_); go_big_quiet_op; refine hK _ ?_; clear hK K
          refine wpMix_pure (by kernel_rfl) (fun K hK => ?_); go_big_quiet_op; refine hK _ ?_; clear hK K
          refine wpMix_pure (by kernel_rfl) (fun K hK => ?_); go_big_quiet_op; refine hK _ ?_; clear hK K
          refine wpMix_pure (by kernel_rfl) (fun K hK => ?_); go_big_quiet_op; refine hK _ ?_; clear hK K
          refine wpMix_pure (by kernel_rfl) (fun K hK => ?_); go_big_quiet_op; refine hK _ ?_; clear hK K
          refine wpMix_pure (by kernel_rfl) (fun K hK => ?_); go_big_quiet_op; refine hK _ ?_; clear hK K
          refine wpMix_pure (by kernel_rfl) (fun K hK => ?_); go_big_quiet_op; refine hK _ ?_; clear hK K
          refine wpMix_pure (by kernel_rfl) (fun K hK => ?_); go_big_quiet_op; refine hK _ ?_; clear hK K
          refine wpMix_pure (by kernel_rfl) (fun K hK => ?_); go_big_quiet_op; refine hK _ ?_; clear hK K
          refine wpMix_pure (by kernel_rfl) (fun K hK => ?_); go_big_quiet_op; refine hK _ ?_; clear hK K
          refine wpMix_pure (by kernel_rfl) (fun K hK => ?_); go_big_quiet_op; refine hK _ ?_; clear hK K
          refine wpMix_pure (by kernel_rfl) (fun K hK => ?_); go_big_quiet_op; refine hK _ ?_; clear hK K
          refine wpMix_pure (by kernel_rfl) (fun K hK => ?_); go_big_quiet_op; refine hK _ ?_; clear hK K
          refine wpMix_nil ?_
          have hS7 := hS0
          have hb7 := hb.trans (hS7.mono hb.size)
          clear gc0 gc1 gc2 gc3 gd0 gd1 gd2 gd3 hS0 c0 c1 c2 c3 d0 d1 d2 d3
          have hpm7 := hpm.below' hS7
          generalize wr.drew = W7 at *
          obtain ⟨d0, d1, d2, d3⟩ := id (hp2.below' hb7)
          obtain ⟨c0, c1, c2, c3⟩ := id hpm7
          clear hpm7 hpm
          clear hS7 hb
          go_wp2
          have gc0 := cell_regrown c0
          have gc1 := cell_regrown c1
          have gc2 := cell_regrown c2
          have gc3 := cell_regrown c3
          have gd0 := cell_regrown d0
          have gd1 := cell_regrown d1
          have gd2 := cell_regrown d2
          have gd3 := cell_regrown d3
          refine wp_region_mix (C := fun w' => ∃ p : Regrown, w' = Go.Sort.grow (redrawn W7 p.d) p.os) [true, true, true, true, true, true, true, true, true, true, true, true, true, true] (by kernel_rfl) (by kernel_rfl) (by kernel_rfl) (fun _ _ d _ _ h => by cases d <;> exact h) (regrown_of_below (Below.drew (Below.refl _ _))) ?_
          have hS0 : Below (W7.heap.size) W7 W7.drew := Below.drew (Below.refl _ _)
          refine wpMix_pure (by kernel_rfl) (fun K hK => ?_); go_big_quiet_op; refine hK _ ?_; clear hK K
          refine wpMix_pure (by kernel_rfl) (fun K hK => ?_); go_big_quiet_op; refine hK _ ?_; clear hK K
          refine wpMix_pure (by kernel_rfl) (fun K hK => ?_); go_big_quiet_op; refine hK _ ?_; clear hK K
          refine wpMix_pure (by kernel_rfl) (fun K hK => ?_); go_big_quiet_op; refine hK _ ?_; clear hK K
          refine wpMix_pure (by kernel_rfl) (fun K hK => ?_); go_big_quiet_op; refine hK _ ?_; clear hK K
          refine wpMix_pure (by kernel_rfl) (fun K hK => ?_); go_big_quiet_op; refine hK _ ?_; clear hK K
          refine wpMix_pure (by kernel_rfl) (fun K hK => ?_); go_big_quiet_op; refine hK _ ?_; clear hK K
          refine wpMix_pure (by kernel_rfl) (fun K hK => ?_); go_big_quiet_op; refine hK _ ?_; clear hK K
          refine wpMix_pure (by kernel_rfl) (fun K hK => ?_); go_big_quiet_op; refine hK _ ?_; clear hK K
          refine wpMix_pure (by kernel_rfl) (fun K hK => ?_); go_big_quiet_op; refine hK _ ?_; clear hK K
          refine wpMix_pure (by kernel_rfl) (fun K hK => ?_); go_big_quiet_op; refine hK _ ?_; clear hK K
          refine wpMix_pure (by kernel_rfl) (fun K hK => ?_); go_big_quiet_op; refine hK _ ?_; clear hK K
          refine wpMix_pure (by kernel_rfl) (fun K hK => ?_); go_big_quiet_op; refine hK _ ?_; clear hK K
          refine wpMix_pure (by kernel_rfl) (fun K hK => ?_); go_big_quiet_op; refine hK _ ?_; clear hK K
          refine wpMix_nil ?_
          have hS9 := hS0
          have hb8 := hb7.trans (hS9.mono hb7.size)
          clear gc0 gc1 gc2 gc3 gd0 gd1 gd2 gd3 hS0 c0 c1 c2 c3 d0 d1 d2 d3
          generalize W7.drew = W8 at *
          have hB8 := hB2.trans (hb8.mono hB2.size)
          have hx8 := hx2.below' hb8
          have hp8 := hp2.below' hb8
          have HE := Lib.hid (addObserved_bad (show addObservedC xs x = 4 by unfold addObservedC; rw [hv, ho, hh]; rfl) (by decide))
          clear hh ho hv
          go_wp2
          go_ret2
          exact ⟨_, by rw [HE.out.1]; rfl, by rw [HE.out.2]; exact Own.nil _ _ _ _, hB8⟩
        · have hh : hasObserved xs x.hour = false := by
            unfold hasObserved
            rw [HAT.out, List.getElem?_eq_getElem hlt]
            show (cmI _ _ == 0) = false
            rw [beq_eq_false_iff_ne]; exact fun h => hqe (cmI_zero.1 h)
          have eq1 : (xs[k].hour == x.hour) = false := by rw [beq_eq_false_iff_ne]; exact hqe
          clear hqe HA
          go_wp2
          have gc0 := cell_regrown c0
          have gc1 := cell_regrown c1
          have gc2 := cell_regrown c2
          have gc3 := cell_regrown c3
          have gd0 := cell_regrown d0
          have gd1 := cell_regrown d1
          have gd2 := cell_regrown d2
          have gd3 := cell_regrown d3
          refine wp_region_mix (C := fun w' => ∃ p : Regrown, w' = Go.Sort.grow (redrawn wr p.d) p.os) [true, true, true, true, true, true, true, true, true, true, true, true, true, true] (by kernel_rfl) (by kernel_rfl) (by kernel_rfl) (fun _ _ d _ _ h => by cases d <;> exact h) (regrown_of_below (Below.drew (Below.refl _ _))) ?_
          have hS0 : Below (wr.heap.size) wr wr.drew := Below.drew (Below.refl _ _)
          refine wpMix_pure (by kernel_rfl) (fun K hK => ?_); go_big_quiet_op; refine hK _ ?_; clear hK K
          refine wpMix_pure (by kernel_rfl) (fun K hK => ?_); go_big_quiet_op; refine hK _ ?_; clear hK K
          refine wpMix_pure (by kernel_rfl) (fun K hK => ?_); go_big_quiet_op; refine hK _ ?_; clear hK K
          refine wpMix_pure (by kernel_rfl) (fun K hK => ?_); go_big_quiet_op; refine hK _ ?_; clear hK K
          refine wpMix_pure (by kernel_rfl) (fun K hK => ?_); go_big_quiet_op; refine hK _ ?_; clear hK K
          refine wpMix_pure (by kernel_rfl) (fun K hK => ?_); go_big_quiet_op; refine hK _ ?_; clear hK K
          refine wpMix_pure (by kernel_rfl) (fun K hK => ?_); go_big_quiet_op; refine hK _ ?_; clear hK K
          refine wpMix_pure (by kernel_rfl) (fun K hK => ?_); go_big_quiet_op; refine hK _ ?_; clear hK K
          refine wpMix_pure (by kernel_rfl) (fun K hK => ?_); go_big_quiet_op; refine hK _ ?_; clear hK K
          refine wpMix_pure (by kernel_rfl) (fun K hK => ?_); go_big_quiet_op; refine hK _ ?_; clear hK K
          refine wpMix_pure (by kernel_rfl) (fun K hK => ?_); go_big_quiet_op; refine hK _ ?_; clear hK K
          refine wpMix_pure (by kernel_rfl) (fun K hK => ?_); go_big_quiet_op; refine hK _ ?_; clear hK K
          refine wpMix_pure (by kernel_rfl) (fun K hK => ?_); go_big_quiet_op; refine hK _ ?_; clear hK K
          refine wpMix_pure (by kernel_rfl) (fun K hK => ?_); go_big_quiet_op; refine hK _ ?_; clear hK K
          refine wpMix_nil ?_
          have hS7 := hS0
          have hb7 := hb.trans (hS7.mono hb.size)
          clear gc0 gc1 gc2 gc3 gd0 gd1 gd2 gd3 hS0 c0 c1 c2 c3 d0 d1 d2 d3
          have hpm7 := hpm.below' hS7
          generalize wr.drew = W7 at *
          obtain ⟨d0, d1, d2, d3⟩ := id (hp2.below' hb7)
          obtain ⟨c0, c1, c2, c3⟩ := id hpm7
          clear hpm7 hpm
          clear hS7 hb
          go_wp2
          have gc0 := cell_regrown c0
          have gc1 := cell_regrown c1
          have gc2 := cell_regrown c2
          have gc3 := cell_regrown c3
          have gd0 := cell_regrown d0
          have gd1 := cell_regrown d1
          have gd2 := cell_regrown d2
          have gd3 := cell_regrown d3
          refine wp_region_mix (C := fun w' => ∃ p : Regrown, w' = Go.Sort.grow (redrawn W7 p.d) p.os) [true, true, true, true, true, true, true, true, true, true, true, true, true, true] (by kernel_rfl) (by kernel_rfl) (by kernel_rfl) (fun _ _ d _ _ h => by cases d <;> exact h) (regrown_of_below (Below.drew (Below.refl _ _))) ?_
          have hS0 : Below (W7.heap.size) W7 W7.drew := Below.drew (Below.refl _ _)
          refine wpMix_pure (by kernel_rfl) (fun K hK => ?_); go_big_quiet_op; refine hK _ ?_; clear hK K
          refine wpMix_pure (by kernel_rfl) (fun K hK => ?_); go_big_quiet_op; refine hK _ ?_; clear hK K
          refine wpMix_pure (by kernel_rfl) (fun K hK => ?_); go_big_quiet_op; refine hK _ ?_; clear hK K
          refine wpMix_pure (by kernel_rfl) (fun K hK => ?_); go_big_quiet_op; refine hK _ ?_; clear hK K
          refine wpMix_pure (by kernel_rfl) (fun K hK => ?_); go_big_quiet_op; refine hK _ ?_; clear hK K
          refine wpMix_pure (by kernel_rfl) (fun K hK => ?_); go_big_quiet_op; refine hK _ ?_; clear hK K
          refine wpMix_pure (by kernel_rfl) (fun K hK => ?_); go_big_quiet_op; refine hK _ ?_; clear hK K
          refine wpMix_pure (by kernel_rfl) (fun K hK => ?_); go_big_quiet_op; refine hK _ ?_; clear hK K
          refine wpMix_pure (by kernel_rfl) (fun K hK => ?_); go_big_quiet_op; refine hK _ ?_; clear hK K
          refine wpMix_pure (by kernel_rfl) (fun K hK => ?_); go_big_quiet_op; refine hK _ ?_; clear hK K
          refine wpMix_pure (by kernel_rfl) (fun K hK => ?_); go_big_quiet_op; refine hK _ ?_; clear hK K
          refine wpMix_pure (by kernel_rfl) (fun K hK => ?_); go_big_quiet_op; refine hK _ ?_; clear hK K
          refine wpMix_pure (by kernel_rfl) (fun K hK => ?_); go_big_quiet_op; refine hK _ ?_; clear hK K
          refine wpMix_pure (by kernel_rfl) (fun K hK => ?_); go_big_quiet_op; refine hK _ ?_; clear hK K
          refine wpMix_nil ?_
          have hS9 := hS0
          have hb8 := hb7.trans (hS9.mono hb7.size)
          clear gc0 gc1 gc2 gc3 gd0 gd1 gd2 gd3 hS0 c0 c1 c2 c3 d0 d1 d2 d3
          generalize W7.drew = W8 at *
          have hB8 := hB2.trans (hb8.mono hB2.size)
          have hx8 := hx2.below' hb8
          have hp8 := hp2.below' hb8
          by_cases hM : xs.length = 48
          · have HE := Lib.hid (addObserved_bad (show addObservedC xs x = 5 by unfold addObservedC; rw [hv, ho, hh, if_pos hM]; rfl) (by decide))
            have eM : ((xs.length : Int) == 48) = true := by rw [hM]; rfl
            clear hM hh ho hv
            go_wp2
            go_ret2
            exact ⟨_, by rw [HE.out.1]; rfl, by rw [HE.out.2]; exact Own.nil _ _ _ _, hB8⟩
          have hC0 : addObservedC xs x = 0 := by unfold addObservedC; rw [hv, ho, hh, if_neg hM]; rfl
          have HC := Lib.hid hC0
          have HF : Hid (addObservedF xs x = xs.take k ++ x :: xs.drop k) := by show _ = _; unfold addObservedF; rw [if_pos hC0, HAT.out]
          have eM : ((xs.length : Int) == 48) = false := by rw [beq_eq_false_iff_ne]; omega
          clear hC0 hM hh ho hv HAT
          have hB10 : Below W8.heap.size W8 (W8.alloc (.cells #[] 66)) := (Below.refl _ _).alloc (Nat.le_refl _) _
          have hx9 := hx8.below' hB10
          have hp9 := hp8.below' hB10
          have hB11 := hB8.trans (hB10.mono hB8.size)
          have hsz8 : w.heap.size + 1 ≤ W8.heap.size := hp8.lt
          have hs11 : w.heap.size + 1 ≤ (W8.alloc (.cells #[] 66)).heap.size := by simp; omega
          have ho5 := Own.lit0m fObserved (w := W8) (base := w.heap.size + 1) hsz8 (e := 66)
          have hsrc := hx9.src_take (k := k) (c := cap) (by omega)
          go_wp2_with (at_builtin; refine wpList_append_src (E := fObserved) rfl _ _ 64 rfl (w.heap.size + 1) 66 i0 (.agg #[.int .i64 0, .int .i64 0, .int .i64 0, .int .i64 0]) 32 Tryz.underlying64 hi hz0 hz1 hz2 rfl (.slice (some ⟨W8.heap.size, 0, none⟩) 0 0) [] rfl ho5 _ (xs.take k) rfl hsrc (by simp <;> omega) (by decide) hs11 ?_)
          intro v' u hown hbu
          try rw [List.nil_append] at hown
          have hB12 := hB11.trans (hbu.mono (Nat.le_succ _))
          have hx10 := hx9.below hbu (fun b hb => by have := hfp b hb; omega)
          have hp10 := hp9.below hbu (Nat.lt_succ_self _)
          have hlk : (xs.take k).length = k := by rw [List.length_take]; omega
          have hown1 : u.ownsRow (w.heap.size + 1) 66 4 v' k ((xs.take k).flatMap fObserved.enc) := by
            have h : u.ownsRow (w.heap.size + 1) 66 4 v' (xs.take k).length ((xs.take k).flatMap fObserved.enc) := hown
            rw [hlk] at h; exact h
          have hs12 : w.heap.size + 1 ≤ u.heap.size := hp10.lt
          obtain ⟨d0, d1, d2, d3⟩ := id hp10
          clear hown hx9 hp9 hx8 hp8 hsrc hbu
          go_wp2_with (at_builtin; refine wpList_append_one rfl _ _ 64 rfl (w.heap.size + 1) 66 i0 (.agg #[.int .i64 0, .int .i64 0, .int .i64 0, .int .i64 0]) 4 32 Tryz.underlying64 hi hz0 hz1 hz2 rfl (by decide) v' k _ rfl hown1 [.int .i64 x.hour, .int .i64 x.snow, .int .i64 x.degrees, .int .i64 x.wind] rfl (by intro u hu; simp only [List.mem_cons, List.not_mem_nil, or_false] at hu; rcases hu with rfl | rfl | rfl | rfl <;> rfl) rfl (by omega) (by decide) hs12 ?_)
          intro v2 u2 hown2 hbu2 _ _
          have hB13 := hB12.trans (hbu2.mono (Nat.le_succ _))
          have hx11 := hx10.below hbu2 (fun b hb => by have := hfp b hb; omega)
          have hp11 := hp10.below hbu2 (Nat.lt_succ_self _)
          have ho6 : Own fObserved u2 (w.heap.size + 1) 66 v2 (xs.take k ++ [x]) := Own.push x (by rw [hlk]) hown2
          have hs13 : w.heap.size + 1 ≤ u2.heap.size := hp11.lt
          clear hown2 hown1 hx10 hp10 hbu2 d0 d1 d2 d3
          have hcl : k < cap := by omega
          have hsrc2 := hx11.src_drop (k := k) (c := cap - k) (by omega)
          go_wp2_with (at_builtin; refine wpList_append_src (E := fObserved) rfl _ _ 64 rfl (w.heap.size + 1) 66 i0 (.agg #[.int .i64 0, .int .i64 0, .int .i64 0, .int .i64 0]) 32 Tryz.underlying64 hi hz0 hz1 hz2 rfl v2 (xs.take k ++ [x]) rfl ho6 _ (xs.drop k) rfl hsrc2 (by simp <;> omega) (by decide) hs13 ?_)
          intro v3 u3 hown3 hbu3
          have hB14 := hB13.trans (hbu3.mono (Nat.le_succ _))
          have hEQ : xs.take k ++ [x] ++ xs.drop k = xs.take k ++ x :: xs.drop k := by simp
          have ho7 : Own fObserved u3 w.heap.size 66 v3 (addObservedF xs x) := by rw [HF.out]; first | exact ownM_ hown3 (Nat.le_succ _) | (rw [← hEQ]; exact ownM_ hown3 (Nat.le_succ _)) | (have h9 := hown3; simp only [List.append_nil, List.take_length, List.drop_length] at h9 ⊢; exact ownM_ h9 (Nat.le_succ _))
          clear hown3 ho6
          go_wp2
          go_ret2
          exact ⟨_, by rw [HC.out]; rfl, ho7, hB14⟩
    · have hkl : k = xs.length := by omega
      have HAT : Hid (atObserved xs x.hour = k) := posF_is _ xs k hk (fun m h hm => decide_eq_true (cmI_lt.2 (HA.out m h hm))) (fun h => absurd h hlt)
      have hh : hasObserved xs x.hour = false := by
        unfold hasObserved
        rw [HAT.out, List.getElem?_eq_none (by omega)]
      clear HA hkl
      go_wp2
      have gd0 := cell_regrown d0
      have gd1 := cell_regrown d1
      have gd2 := cell_regrown d2
      have gd3 := cell_regrown d3
      refine wp_region_mix (C := fun w' => ∃ p : Regrown, w' = Go.Sort.grow (redrawn wr p.d) p.os) [true, true, true, true, true, true, true, true, true, true, true, true, true, true] (by kernel_rfl) (by kernel_rfl) (by kernel_rfl) (fun _ _ d _ _ h => by cases d <;> exact h) (regrown_of_below (Below.drew (Below.refl _ _))) ?_
      have hS0 : Below (wr.heap.size) wr wr.drew := Below.drew (Below.refl _ _)
      refine wpMix_pure (by kernel_rfl) (fun K hK => ?_); go_big_quiet_op; refine hK _ ?_; clear hK K
      refine wpMix_pure (by kernel_rfl) (fun K hK => ?_); go_big_quiet_op; refine hK _ ?_; clear hK K
      refine wpMix_pure (by kernel_rfl) (fun K hK => ?_); go_big_quiet_op; refine hK _ ?_; clear hK K
      refine wpMix_pure (by kernel_rfl) (fun K hK => ?_); go_big_quiet_op; refine hK _ ?_; clear hK K
      refine wpMix_pure (by kernel_rfl) (fun K hK => ?_); go_big_quiet_op; refine hK _ ?_; clear hK K
      refine wpMix_skip (by kernel_rfl) (fun K hK => ?_)
      simp only [Act.put, List.setIfInBounds_toArray, List.set_cons_zero, List.set_cons_succ]
      refine hK _ ?_; clear hK K
      refine wpMix_skip (by kernel_rfl) (fun K hK => ?_)
      simp only [Act.put, List.setIfInBounds_toArray, List.set_cons_zero, List.set_cons_succ]
      refine hK _ ?_; clear hK K
      refine wpMix_skip (by kernel_rfl) (fun K hK => ?_)
      simp only [Act.put, List.setIfInBounds_toArray, List.set_cons_zero, List.set_cons_succ]
      refine hK _ ?_; clear hK K
      refine wpMix_skip (by kernel_rfl) (fun K hK => ?_)
      simp only [Act.put, List.setIfInBounds_toArray, List.set_cons_zero, List.set_cons_succ]
      refine hK _ ?_; clear hK K
      refine wpMix_skip (by kernel_rfl) (fun K hK => ?_)
      simp only [Act.put, List.setIfInBounds_toArray, List.set_cons_zero, List.set_cons_succ]
      refine hK _ ?_; clear hK K
      refine wpMix_skip (by kernel_rfl) (fun K hK => ?_)
      simp only [Act.put, List.setIfInBounds_toArray, List.set_cons_zero, List.set_cons_succ]
      refine hK _ ?_; clear hK K
      refine wpMix_skip (by kernel_rfl) (fun K hK => ?_)
      simp only [Act.put, List.setIfInBounds_toArray, List.set_cons_zero, List.set_cons_succ]
      refine hK _ ?_; clear hK K
      refine wpMix_skip (by kernel_rfl) (fun K hK => ?_)
      simp only [Act.put, List.setIfInBounds_toArray, List.set_cons_zero, List.set_cons_succ]
      refine hK _ ?_; clear hK K
      refine wpMix_pure (by kernel_rfl) (fun K hK => ?_); go_big_quiet_op; refine hK _ ?_; clear hK K
      refine wpMix_nil ?_
      have hS7 := hS0
      have hb7 := hb.trans (hS7.mono hb.size)
      clear gd0 gd1 gd2 gd3 hS0 d0 d1 d2 d3
      generalize wr.drew = W7 at *
      obtain ⟨d0, d1, d2, d3⟩ := id (hp2.below' hb7)
      clear hS7 hb
      go_wp2
      have gd0 := cell_regrown d0
      have gd1 := cell_regrown d1
      have gd2 := cell_regrown d2
      have gd3 := cell_regrown d3
      refine wp_region_mix (C := fun w' => ∃ p : Regrown, w' = Go.Sort.grow (redrawn W7 p.d) p.os) [true, true, true, true, true, true, true, true, true, true, true, true, true, true] (by kernel_rfl) (by kernel_rfl) (by kernel_rfl) (fun _ _ d _ _ h => by cases d <;> exact h) (regrown_of_below (Below.drew (Below.refl _ _))) ?_
      have hS0 : Below (W7.heap.size) W7 W7.drew := Below.drew (Below.refl _ _)
      refine wpMix_pure (by kernel_rfl) (fun K hK => ?_); go_big_quiet_op; refine hK _ ?_; clear hK K
      refine wpMix_pure (by kernel_rfl) (fun K hK => ?_); go_big_quiet_op; refine hK _ ?_; clear hK K
      refine wpMix_pure (by kernel_rfl) (fun K hK => ?_); go_big_quiet_op; refine hK _ ?_; clear hK K
      refine wpMix_pure (by kernel_rfl) (fun K hK => ?_); go_big_quiet_op; refine hK _ ?_; clear hK K
      refine wpMix_pure (by kernel_rfl) (fun K hK => ?_); go_big_quiet_op; refine hK _ ?_; clear hK K
      refine wpMix_skip (by kernel_rfl) (fun K hK => ?_)
      simp only [Act.put, List.setIfInBounds_toArray, List.set_cons_zero, List.set_cons_succ]
      refine hK _ ?_; clear hK K
      refine wpMix_skip (by kernel_rfl) (fun K hK => ?_)
      simp only [Act.put, List.setIfInBounds_toArray, List.set_cons_zero, List.set_cons_succ]
      refine hK _ ?_; clear hK K
      refine wpMix_skip (by kernel_rfl) (fun K hK => ?_)
      simp only [Act.put, List.setIfInBounds_toArray, List.set_cons_zero, List.set_cons_succ]
      refine hK _ ?_; clear hK K
      refine wpMix_skip (by kernel_rfl) (fun K hK => ?_)
      simp only [Act.put, List.setIfInBounds_toArray, List.set_cons_zero, List.set_cons_succ]
      refine hK _ ?_; clear hK K
      refine wpMix_skip (by kernel_rfl) (fun K hK => ?_)
      simp only [Act.put, List.setIfInBounds_toArray, List.set_cons_zero, List.set_cons_succ]
      refine hK _ ?_; clear hK K
      refine wpMix_skip (by kernel_rfl) (fun K hK => ?_)
      simp only [Act.put, List.setIfInBounds_toArray, List.set_cons_zero, List.set_cons_succ]
      refine hK _ ?_; clear hK K
      refine wpMix_skip (by kernel_rfl) (fun K hK => ?_)
      simp only [Act.put, List.setIfInBounds_toArray, List.set_cons_zero, List.set_cons_succ]
      refine hK _ ?_; clear hK K
      refine wpMix_skip (by kernel_rfl) (fun K hK => ?_)
      simp only [Act.put, List.setIfInBounds_toArray, List.set_cons_zero, List.set_cons_succ]
      refine hK _ ?_; clear hK K
      refine wpMix_pure (by kernel_rfl) (fun K hK => ?_); go_big_quiet_op; refine hK _ ?_; clear hK K
      refine wpMix_nil ?_
      have hS9 := hS0
      have hb8 := hb7.trans (hS9.mono hb7.size)
      clear gd0 gd1 gd2 gd3 hS0 d0 d1 d2 d3
      generalize W7.drew = W8 at *
      have hB8 := hB2.trans (hb8.mono hB2.size)
      have hx8 := hx2.below' hb8
      have hp8 := hp2.below' hb8
      by_cases hM : xs.length = 48
      · have HE := Lib.hid (addObserved_bad (show addObservedC xs x = 5 by unfold addObservedC; rw [hv, ho, hh, if_pos hM]; rfl) (by decide))
        have eM : ((xs.length : Int) == 48) = true := by rw [hM]; rfl
        clear hM hh ho hv
        go_wp2
        go_ret2
        exact ⟨_, by rw [HE.out.1]; rfl, by rw [HE.out.2]; exact Own.nil _ _ _ _, hB8⟩
      have hC0 : addObservedC xs x = 0 := by unfold addObservedC; rw [hv, ho, hh, if_neg hM]; rfl
      have HC := Lib.hid hC0
      have HF : Hid (addObservedF xs x = xs.take k ++ x :: xs.drop k) := by show _ = _; unfold addObservedF; rw [if_pos hC0, HAT.out]
      have eM : ((xs.length : Int) == 48) = false := by rw [beq_eq_false_iff_ne]; omega
      clear hC0 hM hh ho hv HAT
      have hB10 : Below W8.heap.size W8 (W8.alloc (.cells #[] 66)) := (Below.refl _ _).alloc (Nat.le_refl _) _
      have hx9 := hx8.below' hB10
      have hp9 := hp8.below' hB10
      have hB11 := hB8.trans (hB10.mono hB8.size)
      have hsz8 : w.heap.size + 1 ≤ W8.heap.size := hp8.lt
      have hs11 : w.heap.size + 1 ≤ (W8.alloc (.cells #[] 66)).heap.size := by simp; omega
      have ho5 := Own.lit0m fObserved (w := W8) (base := w.heap.size + 1) hsz8 (e := 66)
      have hsrc := hx9.src_take (k := k) (c := cap) (by omega)
      go_wp2_with (at_builtin; refine wpList_append_src (E := fObserved) rfl _ _ 64 rfl (w.heap.size + 1) 66 i0 (.agg #[.int .i64 0, .int .i64 0, .int .i64 0, .int .i64 0]) 32 Tryz.underlying64 hi hz0 hz1 hz2 rfl (.slice (some ⟨W8.heap.size, 0, none⟩) 0 0) [] rfl ho5 _ (xs.take k) rfl hsrc (by simp <;> omega) (by decide) hs11 ?_)
      intro v' u hown hbu
      try rw [List.nil_append] at hown
      have hB12 := hB11.trans (hbu.mono (Nat.le_succ _))
      have hx10 := hx9.below hbu (fun b hb => by have := hfp b hb; omega)
      have hp10 := hp9.below hbu (Nat.lt_succ_self _)
      have hlk : (xs.take k).length = k := by rw [List.length_take]; omega
      have hown1 : u.ownsRow (w.heap.size + 1) 66 4 v' k ((xs.take k).flatMap fObserved.enc) := by
        have h : u.ownsRow (w.heap.size + 1) 66 4 v' (xs.take k).length ((xs.take k).flatMap fObserved.enc) := hown
        rw [hlk] at h; exact h
      have hs12 : w.heap.size + 1 ≤ u.heap.size := hp10.lt
      obtain ⟨d0, d1, d2, d3⟩ := id hp10
      clear hown hx9 hp9 hx8 hp8 hsrc hbu
      go_wp2_with (at_builtin; refine wpList_append_one rfl _ _ 64 rfl (w.heap.size + 1) 66 i0 (.agg #[.int .i64 0, .int .i64 0, .int .i64 0, .int .i64 0]) 4 32 Tryz.underlying64 hi hz0 hz1 hz2 rfl (by decide) v' k _ rfl hown1 [.int .i64 x.hour, .int .i64 x.snow, .int .i64 x.degrees, .int .i64 x.wind] rfl (by intro u hu; simp only [List.mem_cons, List.not_mem_nil, or_false] at hu; rcases hu with rfl | rfl | rfl | rfl <;> rfl) rfl (by omega) (by decide) hs12 ?_)
      intro v2 u2 hown2 hbu2 _ _
      have hB13 := hB12.trans (hbu2.mono (Nat.le_succ _))
      have hx11 := hx10.below hbu2 (fun b hb => by have := hfp b hb; omega)
      have hp11 := hp10.below hbu2 (Nat.lt_succ_self _)
      have ho6 : Own fObserved u2 (w.heap.size + 1) 66 v2 (xs.take k ++ [x]) := Own.push x (by rw [hlk]) hown2
      have hs13 : w.heap.size + 1 ≤ u2.heap.size := hp11.lt
      clear hown2 hown1 hx10 hp10 hbu2 d0 d1 d2 d3
      obtain rfl : k = xs.length := by omega
      have hD0 : xs.drop xs.length = [] := List.drop_length
      rcases Nat.eq_or_lt_of_le hlen with hce | hcl
      · subst hce
        have hsrc2 : ∀ A, Src fObserved u2 (.slice A 0 0) ([] : List DObserved) := fun A => Src.empty
        cases A
        all_goals
          go_wp2_with (at_builtin; refine wpList_append_src (E := fObserved) rfl _ _ 64 rfl (w.heap.size + 1) 66 i0 (.agg #[.int .i64 0, .int .i64 0, .int .i64 0, .int .i64 0]) 32 Tryz.underlying64 hi hz0 hz1 hz2 rfl v2 (xs.take xs.length ++ [x]) rfl ho6 _ [] rfl (hsrc2 _) (by simp <;> omega) (by decide) hs13 ?_)
          intro v3 u3 hown3 hbu3
          have hB14 := hB13.trans (hbu3.mono (Nat.le_succ _))
          have hEQ : xs.take xs.length ++ [x] ++ xs.drop xs.length = xs.take xs.length ++ x :: xs.drop xs.length := by simp
          have ho7 : Own fObserved u3 w.heap.size 66 v3 (addObservedF xs x) := by rw [HF.out]; first | exact ownM_ hown3 (Nat.le_succ _) | (rw [← hEQ]; exact ownM_ hown3 (Nat.le_succ _)) | (have h9 := hown3; simp only [List.append_nil, List.take_length, List.drop_length] at h9 ⊢; exact ownM_ h9 (Nat.le_succ _))
          clear hown3 ho6
          go_wp2
          go_ret2
          exact ⟨_, by rw [HC.out]; rfl, ho7, hB14⟩
      · have hsrc2 : ∀ A c, Src fObserved u2 (.slice A 0 c) ([] : List DObserved) := fun A c => Src.empty
        cases A
        all_goals
          go_wp2_with (at_builtin; refine wpList_append_src (E := fObserved) rfl _ _ 64 rfl (w.heap.size + 1) 66 i0 (.agg #[.int .i64 0, .int .i64 0, .int .i64 0, .int .i64 0]) 32 Tryz.underlying64 hi hz0 hz1 hz2 rfl v2 (xs.take xs.length ++ [x]) rfl ho6 _ [] rfl (hsrc2 _ _) (by simp <;> omega) (by decide) hs13 ?_)
          intro v3 u3 hown3 hbu3
          have hB14 := hB13.trans (hbu3.mono (Nat.le_succ _))
          have hEQ : xs.take xs.length ++ [x] ++ xs.drop xs.length = xs.take xs.length ++ x :: xs.drop xs.length := by simp
          have ho7 : Own fObserved u3 w.heap.size 66 v3 (addObservedF xs x) := by rw [HF.out]; first | exact ownM_ hown3 (Nat.le_succ _) | (rw [← hEQ]; exact ownM_ hown3 (Nat.le_succ _)) | (have h9 := hown3; simp only [List.append_nil, List.take_length, List.drop_length] at h9 ⊢; exact ownM_ h9 (Nat.le_succ _))
          clear hown3 ho6
          go_wp2
          go_ret2
          exact ⟨_, by rw [HC.out]; rfl, ho7, hB14⟩

end Go.Proofs.YtfgmikgghpflbaaGreatDoor

namespace Go.Proofs.YtfgmikgghpflbaaGreatDoor
open Go.RowKit
set_option linter.unusedVariables false

theorem addObserved_mem {xs : List DObserved} {x y : DObserved} (h : y ∈ addObservedF xs x) : y ∈ xs ∨ y = x := by
  unfold addObservedF at h
  split at h
  · rcases List.mem_append.1 h with h | h
    · exact .inl (List.mem_of_mem_take h)
    · rcases List.mem_cons.1 h with h | h
      · exact .inr h
      · exact .inl (List.mem_of_mem_drop h)
  · cases h
theorem addObserved_length {xs : List DObserved} {x : DObserved} : (addObservedF xs x).length ≤ xs.length + 1 := by
  unfold addObservedF
  split
  · simp; omega
  · simp
theorem manyObserved (k : Nat) (h : k ≤ 100) : SmObserved ⟨k, 2 * (k : Int), 0, 0⟩ := by
  unfold SmObserved; simp only; omega
set_option maxRecDepth 100000 in
set_option maxHeartbeats 8000000 in
theorem l04Draw_any (n g : Nat) (w : World) (hs : SrcD n g w) (hn : n ≤ 999999970000) :
    Calls Tryz.prog 113 #[.pointer (some ⟨g, 0, none⟩)] w fun e w' => ∃ (v : Value) (xs : List DObserved) (fp : List Nat), e = .returned v ∧ Sl fObserved.cod w' v xs fp ∧ (∀ b ∈ fp, w.heap.size ≤ b) ∧ fp.Nodup ∧ (∀ x ∈ xs, SmObserved x) ∧ xs.length ≤ 70 ∧ SrcD (n + 2000) g w' ∧ Only [g] w w' := by
  have hg := hs.lt
  obtain ⟨i0, hi, hz0, hz1, hz2⟩ := info_parts infoObservedK
  have hB0 : Below w.heap.size w (w.alloc (.cells #[] 66)) := (Below.refl _ _).alloc (Nat.le_refl _) _
  go_enter Tryz.func113, Tryz.ntmps113
  go_wp2_with fail
  refine (pick_any _ g 12 _ (hs.below hB0) (by omega) (by omega)).mono ?_
  rintro e w2 ⟨q, rfl, ⟨q0, q1, _⟩, hs2, ho2⟩
  replace q1 := q1 (by omega)
  obtain ⟨j0, rfl⟩ : ∃ j : Nat, q = j := ⟨q.toNat, by omega⟩
  have hown : Own fObserved w2 w.heap.size 66 (.slice (some ⟨w.heap.size, 0, none⟩) 0 0) [] := (Own.lit0 fObserved w _).only ho2 (fun b hb => by simp at hb; subst hb; exact hg)
  have hO1 : Only [g] w w2 := Only.later hB0 ho2
  clear hB0 ho2 hs
  go_wp2
  go_loopw [3, 4] (fun v kv wr => ∃ (j : Nat) (L : List DObserved), kv = .int .i64 j ∧ j + L.length ≤ 11 ∧ j ≤ 11 ∧ Own fObserved wr w.heap.size 66 v L ∧ (∀ x ∈ L, SmObserved x) ∧ SrcD (n + 4 + 30 * (11 - j)) g wr ∧ Only [g] w wr) (fun _ kv _ => (intOf kv).toNat)
  case atStart => exact ⟨j0, [], rfl, by rw [List.length_nil]; omega, by omega, hown, by simp, hs2.mono (by omega), hO1⟩
  case round =>
    clear hown hs2 hO1 q0 q1
    obtain ⟨j, L, rfl, hj, hj2, ho, hsm, hsr, hor⟩ := hrel
    cases j with
    | zero =>
      go_wp2_with fail
      refine (pick_any _ g 20 _ hsr (by omega) (by omega)).mono ?_
      rintro e w3 ⟨q, rfl, ⟨q0, q1, _⟩, hs3, ho3⟩
      replace q1 := q1 (by omega)
      replace hor := hor.trans ho3
      replace ho := ho.only ho3 (fun b hb => by simp at hb; subst hb; exact hg)
      clear ho3 hsr
      by_cases hq0 : q = 0
      · subst hq0
        go_wp2_with fail
        refine (l04DrawOne_any _ g _ hs3 (by omega)).mono ?_
        rintro e w4 ⟨x0, rfl, hx0, hs4, ho4⟩
        go_wp2_with fail
        refine (l04Bend_any _ g x0 _ hs4 (by omega) hx0).mono ?_
        rintro e w5 ⟨x, rfl, hx, hs5, ho5⟩
        have hor2 := hor.trans (ho4.trans ho5)
        have hsz2 := hor2.size
        have hoW : w5.ownsRow w.heap.size 66 4 u3 L.length (L.flatMap fObserved.enc) := (ho.only ho4 (fun b hb => by simp at hb; subst hb; exact hg)).only ho5 (fun b hb => by simp at hb; subst hb; exact hg)
        clear ho hor ho4 ho5 hs4
        unfold agObserved
        go_wp2_with (at_builtin; refine wpList_append_one rfl _ _ 64 rfl w.heap.size 66 i0 (.agg #[.int .i64 0, .int .i64 0, .int .i64 0, .int .i64 0]) 4 32 Tryz.underlying64 hi hz0 hz1 hz2 rfl (by decide) u3 L.length _ rfl hoW [.int .i64 x.hour, .int .i64 x.snow, .int .i64 x.degrees, .int .i64 x.wind] rfl (by intro u hu; simp only [List.mem_cons, List.not_mem_nil, or_false] at hu; rcases hu with rfl | rfl | rfl | rfl <;> rfl) rfl (by omega) (by decide) hsz2 ?_)
        intro v' u hown hbu _ _
        have hoD : Own fObserved u w.heap.size 66 v' (L ++ [x]) := Own.push _ (by omega) hown
        clear hown
        go_wp2
        go_ret
        obtain ⟨fp, hsl, hlo, hnd⟩ := Sl.of_own (n := (L ++ [x]).length) rfl hoD (fun y hy => by
          rcases List.mem_append.1 hy with hy | hy
          · exact (hsm y hy).ok
          · rw [List.mem_singleton] at hy; subst hy; exact hx.ok)
        exact ⟨_, _, fp, rfl, hsl, hlo, hnd, fun y hy => by
          rcases List.mem_append.1 hy with hy | hy
          · exact hsm y hy
          · rw [List.mem_singleton] at hy; subst hy; exact hx, by rw [List.length_append, List.length_singleton]; omega, (hs5.belowB hbu hg).mono (by omega), hor2.then hbu⟩
      · have e0 : (q == 0) = false := by rw [beq_eq_false_iff_ne]; exact hq0
        by_cases hq1 : q = 1
        · subst hq1
          have hBL : Below w3.heap.size w3 (w3.alloc (.cells #[.int .i64 48, .int .i64 49] 2)) := (Below.refl _ _).alloc (Nat.le_refl _) _
          have hgl := hs3.lt
          go_wp2_with fail
          refine (among_any _ g _ [48, 49] [w3.heap.size] _ (hs3.below hBL) (by omega) (slLitI w3 2 [48, 49] _ rfl (by decide) (by decide) (by decide) _ _ rfl rfl) (by simp; omega) (by decide) (by decide)).mono ?_
          rintro e w4 ⟨t, ht, rfl, hs4, ho4⟩
          have hor2 := hor.trans (Only.later hBL ho4)
          have hsz2 := hor2.size
          clear hBL hgl hor ho hs3 ho4
          obtain ⟨M, rfl⟩ : ∃ M : Nat, t = M := ⟨t.toNat, by simp at ht; omega⟩
          have hM : M ≤ 49 := by simp at ht; omega
          have hown : Own fObserved (w4.alloc (.cells #[] 66)) w.heap.size 66 (.slice (some ⟨w4.heap.size, 0, none⟩) 0 0) [] := Own.lit0m fObserved hsz2
          have hB4 : Below w4.heap.size w4 (w4.alloc (.cells #[] 66)) := (Below.refl _ _).alloc (Nat.le_refl _) _
          replace hor2 := hor2.then (hB4.mono hsz2)
          replace hs4 := hs4.below hB4
          clear hB4 ht hsm hsz2
          go_wp2
          rename World => wo
          go_loopw [3, 8] (fun v kv wr => ∃ (k : Nat) (X : List DObserved), kv = .int .i64 k ∧ k ≤ M ∧ X.length = k ∧ Own fObserved wr w.heap.size 66 v X ∧ (∀ x ∈ X, SmObserved x) ∧ SrcD (n + 600) g wr ∧ Only [g] w wr) (fun _ kv _ => M - (intOf kv).toNat)
          case atStart => exact ⟨0, [], rfl, Nat.zero_le _, rfl, hown, by simp, hs4.mono (by omega), hor2⟩
          case round =>
            clear hown hs4 hor2
            obtain ⟨k, X, rfl, hk, hX, ho, hsm, hsr, hor⟩ := hrel
            by_cases hlt : k < M
            · have hsz2 := hor.size
              have hsmk := Lib.hid (manyObserved k (by omega))
              have hk100 : k ≤ 100 := by omega
              have hoW : wr.ownsRow w.heap.size 66 4 u3 X.length (X.flatMap fObserved.enc) := ho
              clear ho
              go_wp2_with (at_builtin; refine wpList_append_one rfl _ _ 64 rfl w.heap.size 66 i0 (.agg #[.int .i64 0, .int .i64 0, .int .i64 0, .int .i64 0]) 4 32 Tryz.underlying64 hi hz0 hz1 hz2 rfl (by decide) u3 X.length _ rfl hoW [.int .i64 k, .int .i64 (2 * (k : Int)), .int .i64 0, .int .i64 0] rfl (by intro u hu; simp only [List.mem_cons, List.not_mem_nil, or_false] at hu; rcases hu with rfl | rfl | rfl | rfl <;> rfl) rfl (by omega) (by decide) hsz2 ?_)
              intro v' u hown hbu _ _
              have hoD : Own fObserved u w.heap.size 66 v' (X ++ [⟨k, 2 * (k : Int), 0, 0⟩]) := Own.push _ (by omega) hown
              clear hown
              have hs5 := hsr.belowB hbu hg
              have hor5 := hor.then hbu
              go_wp2
              go_roundw
              case rel => exact ⟨k + 1, _, by go_num, by omega, by rw [List.length_append, hX, List.length_singleton], hoD, fun y hy => by
                rcases List.mem_append.1 hy with hy | hy
                · exact hsm y hy
                · rw [List.mem_singleton] at hy; subst hy; exact hsmk.out, hs5, hor5⟩
              case measure => simp [intOf]; omega
            · obtain ⟨fp, hsl, hlo, hnd⟩ := Sl.of_own (n := X.length) rfl ho (fun y hy => (hsm y hy).ok)
              go_wp2
              go_ret
              exact ⟨_, _, fp, rfl, hsl, hlo, hnd, hsm, by omega, hsr.mono (by omega), hor⟩
        · have e1 : (q == 1) = false := by rw [beq_eq_false_iff_ne]; exact hq1
          obtain ⟨fp, hsl, hlo, hnd⟩ := Sl.of_own (n := L.length) rfl ho (fun y hy => (hsm y hy).ok)
          go_wp2
          go_ret
          exact ⟨_, _, fp, rfl, hsl, hlo, hnd, hsm, by omega, hs3.mono (by omega), hor⟩
    | succ j =>
      go_wp2_with fail
      refine (l04DrawOne_any _ g _ hsr (by omega)).mono ?_
      rintro e w3 ⟨x, rfl, hx, hs3, ho3⟩
      have hor3 := hor.trans ho3
      have ho3' := ho.only ho3 (fun b hb => by simp at hb; subst hb; exact hg)
      have hoks : ∀ y ∈ L, fObserved.ok y := fun y hy => (hsm y hy).ok
      obtain ⟨fp, hsl, hlo, hnd⟩ := Sl.of_own (n := L.length) rfl ho3' hoks
      clear ho hor ho3 hsr hoks
      unfold agObserved
      go_wp2_with fail
      refine (specAddObserved_any _ L fp x _ hsl hx.ok).mono ?_
      rintro e w4 ⟨v4, rfl, hown4, hb4⟩
      have hsz3 := hor3.size
      have hor4 := hor3.then (hb4.mono hsz3)
      have hs4 := hs3.below hb4
      have ho4 := ho3'.below hb4
      replace hown4 : Own fObserved w4 w.heap.size 66 v4 (addObservedF L x) := ownM_ hown4 hsz3
      clear hsl hlo hnd ho3' hs3 hor3 hb4
      by_cases hc : addObservedC L x = 0
      · have hlen := addObserved_length (xs := L) (x := x)
        have hsm4 : ∀ y ∈ addObservedF L x, SmObserved y := fun y hy => by
          rcases addObserved_mem hy with hy | rfl
          · exact hsm y hy
          · exact hx
        rw [hc]
        generalize addObservedF L x = L4 at *
        clear hc ho4 hsm
        go_wp2
        go_roundw
        case rel => exact ⟨j, L4, by go_num, by omega, by omega, hown4, hsm4, hs4.mono (by omega), hor4⟩
        case measure => simp [intOf]
      · have e1 : (addObservedC L x == 0) = false := by rw [beq_eq_false_iff_ne]; exact hc
        generalize addObservedC L x = cc at *
        clear hc hown4
        go_wp2
        go_roundw
        case rel => exact ⟨j, L, by go_num, by omega, by omega, ho4, hsm, hs4.mono (by omega), hor4⟩
        case measure => simp [intOf]

end Go.Proofs.YtfgmikgghpflbaaGreatDoor

namespace Go.Proofs.YtfgmikgghpflbaaGreatDoor
open Go.RowKit
set_option linter.unusedVariables false

/-! ### strings in a list -/
def memS (s : ByteArray) (xs : List ByteArray) : Bool := xs.any fun x => decide (x = s)
def NotS (xs : List ByteArray) (s : ByteArray) (k : Nat) : Prop := ∀ j (hj : j < k) (h : j < xs.length), xs[j] ≠ s
theorem NotS.zero {xs : List ByteArray} {s : ByteArray} : NotS xs s 0 := fun j hj => absurd hj (Nat.not_lt_zero _)
theorem NotS.step {xs : List ByteArray} {s : ByteArray} {k : Nat} (h : k < xs.length) (he : xs[k] ≠ s) (h0 : NotS xs s k) : NotS xs s (k + 1) := by
  intro j hj hl
  by_cases e : j = k
  · subst e; exact he
  · exact h0 j (by omega) hl
theorem NotS.none {xs : List ByteArray} {s : ByteArray} {k : Nat} (h : xs.length ≤ k) (h0 : NotS xs s k) : memS s xs = false := by
  unfold memS
  rw [List.any_eq_false]
  intro x hm
  obtain ⟨j, hj, e⟩ := List.getElem_of_mem hm
  have := h0 j (by omega) hj
  rw [e] at this
  simpa using this
theorem inS {xs : List ByteArray} {s : ByteArray} {k : Nat} (h : k < xs.length) (he : xs[k] = s) : memS s xs = true := by
  unfold memS
  rw [List.any_eq_true]
  exact ⟨xs[k], List.getElem_mem h, by simpa using he⟩
theorem memS_true {xs : List ByteArray} {s : ByteArray} : memS s xs = true ↔ s ∈ xs := by
  unfold memS; rw [List.any_eq_true]
  constructor
  · rintro ⟨x, hx, he⟩
    have he := of_decide_eq_true he
    subst he; exact hx
  · intro h; exact ⟨s, h, decide_eq_true rfl⟩
def memI (n : Int) (xs : List Int) : Bool := xs.any fun x => decide (x = n)
def NotI (xs : List Int) (n : Int) (k : Nat) : Prop := ∀ j (hj : j < k) (h : j < xs.length), xs[j] ≠ n
theorem NotI.zero {xs : List Int} {n : Int} : NotI xs n 0 := fun j hj => absurd hj (Nat.not_lt_zero _)
theorem NotI.step {xs : List Int} {n : Int} {k : Nat} (h : k < xs.length) (he : xs[k] ≠ n) (h0 : NotI xs n k) : NotI xs n (k + 1) := by
  intro j hj hl
  by_cases e : j = k
  · subst e; exact he
  · exact h0 j (by omega) hl
theorem NotI.none {xs : List Int} {n : Int} {k : Nat} (h : xs.length ≤ k) (h0 : NotI xs n k) : memI n xs = false := by
  unfold memI
  rw [List.any_eq_false]
  intro x hm
  obtain ⟨j, hj, e⟩ := List.getElem_of_mem hm
  have := h0 j (by omega) hj
  rw [e] at this
  simpa using this
theorem inI {xs : List Int} {n : Int} {k : Nat} (h : k < xs.length) (he : xs[k] = n) : memI n xs = true := by
  unfold memI
  rw [List.any_eq_true]
  exact ⟨xs[k], List.getElem_mem h, by simpa using he⟩
theorem memI_true {xs : List Int} {n : Int} : memI n xs = true ↔ n ∈ xs := by
  unfold memI; rw [List.any_eq_true]
  constructor
  · rintro ⟨x, hx, he⟩
    have he := of_decide_eq_true he
    subst he; exact hx
  · intro h; exact ⟨n, h, decide_eq_true rfl⟩
set_option maxRecDepth 100000 in
set_option maxHeartbeats 2000000 in
theorem b10Has_any (v : Value) (xs : List Int) (fp : List Nat) (n : Int) (w : World) (hx : Sl fInt.cod w v xs fp) :
    Calls Tryz.prog 57 #[v, .int .i64 n] w fun e w' => e = .returned (.bool (memI n xs)) ∧ w = w' := by
  obtain ⟨A, cap, rfl, hlen, hcap⟩ := hx.form
  go_enter Tryz.func57, Tryz.ntmps57
  go_wp2
  go_loop [5] (fun i => ∃ k : Nat, k ≤ xs.length ∧ i = .int .i64 k ∧ Hid (NotI xs n k)) (fun i => xs.length - (intOf i).toNat)
  case atStart => exact ⟨0, Nat.zero_le _, rfl, NotI.zero⟩
  case round =>
    obtain ⟨k, hk, rfl, H0⟩ := hrel
    by_cases hlt : k < xs.length
    · obtain ⟨b, off, rfl, _, hok, hc, _⟩ := hx.cell1 rfl hlt rfl
      by_cases he : xs[k] = n
      · have HF := Lib.hid (inI hlt he)
        have e6 : (xs[k] == n) = true := by rw [beq_iff_eq]; exact he
        clear he
        go_wp2
        go_ret
        exact ⟨ret_bool HF.out.symm, rfl⟩
      · have HS := Lib.hid (NotI.step hlt he H0.out)
        have e6 : (xs[k] == n) = false := by rw [beq_eq_false_iff_ne]; exact he
        clear he
        go_wp2
        go_round
        case rel => exact ⟨k + 1, by omega, by go_num, HS⟩
        case measure => simp [intOf]; omega
    · have HF := Lib.hid (NotI.none (by omega) H0.out)
      go_wp2
      go_ret
      exact ⟨ret_bool HF.out.symm, rfl⟩
end Go.Proofs.YtfgmikgghpflbaaGreatDoor

namespace Go.Proofs.YtfgmikgghpflbaaGreatDoor
open Go.RowKit
set_option linter.unusedVariables false

set_option maxRecDepth 100000 in
set_option maxHeartbeats 400000 in
theorem b10Long_any (v : Value) (xs : List UInt8) (fp : List Nat) (w : World) (hx : Sl fByte.cod w v xs fp) :
    Calls Tryz.prog 9 #[v] w fun e w' => e = .returned (.bool (decide (1048576 < xs.length))) ∧ w = w' := by
  obtain ⟨A, cap, rfl, hlen, hcap⟩ := hx.form
  go_enter Tryz.func9, Tryz.ntmps9
  go_wp2
  go_ret
  refine ⟨?_, rfl⟩
  show Ending.returned (.bool _) = _
  congr 2
  rw [Bool.eq_iff_iff]
  simp <;> omega
/-- The number at index i lies in 0 .. n-1, and is greater than the one before it. -/
def riseAt (xs : List Int) (n : Int) (i : Nat) : Bool := inB (xs.getD i 0) 0 (n - 1) && (i == 0 || decide (xs.getD (i - 1) 0 < xs.getD i 0))
def risesB (xs : List Int) (n : Int) : Bool := allIdx (riseAt xs n) xs.length
theorem riseAt_in {xs : List Int} {n : Int} {k : Nat} (h : k < xs.length) : riseAt xs n k = (inB xs[k] 0 (n - 1) && (k == 0 || decide (xs.getD (k - 1) 0 < xs[k]))) := by
  unfold riseAt; rw [getD_of_lt h]
theorem riseAt_neg {xs : List Int} {n : Int} {k : Nat} (h : k < xs.length) (h1 : xs[k] < 0) : riseAt xs n k = false := by
  rw [riseAt_in h]; unfold inB; rw [decide_eq_false (by omega)]; rfl
theorem riseAt_far {xs : List Int} {n : Int} {k : Nat} (h : k < xs.length) (h1 : n ≤ xs[k]) : riseAt xs n k = false := by
  rw [riseAt_in h]; unfold inB; rw [decide_eq_false (by omega : ¬ xs[k] ≤ n - 1)]; simp
theorem riseAt_low {xs : List Int} {n : Int} {m : Nat} (h : m + 1 < xs.length) (h1 : xs[m + 1] ≤ xs[m]) : riseAt xs n (m + 1) = false := by
  rw [riseAt_in h, show m + 1 - 1 = m from rfl, getD_of_lt (by omega : m < xs.length), decide_eq_false (by omega)]
  simp
theorem riseAt_zero {xs : List Int} {n : Int} (h : 0 < xs.length) (h0 : (0 : Int) ≤ xs[0]) (h1 : xs[0] < n) : riseAt xs n 0 = true := by
  rw [riseAt_in h]; unfold inB; rw [decide_eq_true h0, decide_eq_true (by omega)]; rfl
theorem riseAt_ok {xs : List Int} {n : Int} {m : Nat} (h : m + 1 < xs.length) (h0 : (0 : Int) ≤ xs[m + 1]) (h1 : xs[m + 1] < n) (h2 : xs[m] < xs[m + 1]) : riseAt xs n (m + 1) = true := by
  rw [riseAt_in h, show m + 1 - 1 = m from rfl, getD_of_lt (by omega : m < xs.length), decide_eq_true h2]
  unfold inB; rw [decide_eq_true h0, decide_eq_true (by omega)]; simp
set_option maxRecDepth 100000 in
set_option maxHeartbeats 2000000 in
theorem b10Rises_any (v : Value) (xs : List Int) (fp : List Nat) (n : Int) (w : World) (hx : Sl fInt.cod w v xs fp) :
    Calls Tryz.prog 18 #[v, .int .i64 n] w fun e w' => e = .returned (.bool (risesB xs n)) ∧ Below w.heap.size w w' := by
  obtain ⟨A, cap, rfl, hlen, hcap⟩ := hx.form
  go_enter Tryz.func18, Tryz.ntmps18
  go_wp2
  go_loopw [5] (fun i wr => ∃ k : Nat, k ≤ xs.length ∧ i = .int .i64 k ∧ Hid (allIdx (riseAt xs n) k = true) ∧ Below w.heap.size w wr) (fun i _ => xs.length - (intOf i).toNat)
  case atStart => exact ⟨0, Nat.zero_le _, rfl, rfl, Below.refl _ _⟩
  case round =>
    obtain ⟨k, hk, rfl, H0, hb⟩ := hrel
    by_cases hlt : k < xs.length
    · have hxk := hx.below' hb
      obtain ⟨b, off, rfl, _, hok, hc, _⟩ := hxk.cell1 rfl hlt rfl
      rcases Nat.eq_zero_or_pos k with rfl | hpos
      · have hc0 : wr.cell? ⟨b, off, none⟩ = some (.int .i64 xs[0]) := by simpa using hc
        go_wp2
        have ghc0 := cell_regrown hc0
        refine wp_region_mix (C := fun w' => ∃ p : Regrown, w' = Go.Sort.grow (redrawn wr p.d) p.os) [true, true, true, true, true, true, true, true, true, true, true, true, true, true, true, true, true, true, true, true, true, true, true, true, true, true, true, true, true] (by kernel_rfl) (by kernel_rfl) (by kernel_rfl) (fun _ _ d _ _ h => by cases d <;> exact h) (regrown_of_below (Below.drew (Below.refl _ _))) ?_
        have hS0 : Below (wr.heap.size) wr wr.drew := Below.drew (Below.refl _ _)
        refine wpMix_pure (by kernel_rfl) (fun K hK => ?_); go_big_quiet_op; refine hK _ ?_; clear hK K
        refine wpMix_pure (by kernel_rfl) (fun K hK => ?_); go_big_quiet_op; refine hK _ ?_; clear hK K
        refine wpMix_pure (by kernel_rfl) (fun K hK => ?_); go_big_quiet_op; refine hK _ ?_; clear hK K
        refine wpMix_pure (by kernel_rfl) (fun K hK => ?_); go_big_quiet_op; refine hK _ ?_; clear hK K
        by_cases hq4 : xs[0] < 0
        · skip
          refine wpMix_pure (by kernel_rfl) (fun K hK => ?_); go_big_quiet_op; refine hK _ ?_; clear hK K
          refine wpMix_pure (by kernel_rfl) (fun K hK => ?_); go_big_quiet_op; refine hK _ ?_; clear hK K
          refine wpMix_skip (by kernel_rfl) (fun K hK => ?_)
          simp only [Act.put, List.setIfInBounds_toArray, List.set_cons_zero, List.set_cons_succ]
          refine hK _ ?_; clear hK K
          refine wpMix_skip (by kernel_rfl) (fun K hK => ?_)
          simp only [Act.put, List.setIfInBounds_toArray, List.set_cons_zero, List.set_cons_succ]
          refine hK _ ?_; clear hK K
          refine wpMix_skip (by kernel_rfl) (fun K hK => ?_)
          simp only [Act.put, List.setIfInBounds_toArray, List.set_cons_zero, List.set_cons_succ]
          refine hK _ ?_; clear hK K
          refine wpMix_skip (by kernel_rfl) (fun K hK => ?_)
          simp only [Act.put, List.setIfInBounds_toArray, List.set_cons_zero, List.set_cons_succ]
          refine hK _ ?_; clear hK K
          refine wpMix_skip (by kernel_rfl) (fun K hK => ?_)
          simp only [Act.put, List.setIfInBounds_toArray, List.set_cons_zero, List.set_cons_succ]
          refine hK _ ?_; clear hK K
          refine wpMix_skip (by kernel_rfl) (fun K hK => ?_)
          simp only [Act.put, List.setIfInBounds_toArray, List.set_cons_zero, List.set_cons_succ]
          refine hK _ ?_; clear hK K
          refine wpMix_pure (by kernel_rfl) (fun K hK => ?_); go_big_quiet_op; refine hK _ ?_; clear hK K
          refine wpMix_pure (by kernel_rfl) (fun K hK => ?_); go_big_quiet_op; refine hK _ ?_; clear hK K
          refine wpMix_skip (by kernel_rfl) (fun K hK => ?_)
          simp only [Act.put, List.setIfInBounds_toArray, List.set_cons_zero, List.set_cons_succ]
          refine hK _ ?_; clear hK K
          refine wpMix_skip (by kernel_rfl) (fun K hK => ?_)
          simp only [Act.put, List.setIfInBounds_toArray, List.set_cons_zero, List.set_cons_succ]
          refine hK _ ?_; clear hK K
          refine wpMix_skip (by kernel_rfl) (fun K hK => ?_)
          simp only [Act.put, List.setIfInBounds_toArray, List.set_cons_zero, List.set_cons_succ]
          refine hK _ ?_; clear hK K
          refine wpMix_skip (by kernel_rfl) (fun K hK => ?_)
          simp only [Act.put, List.setIfInBounds_toArray, List.set_cons_zero, List.set_cons_succ]
          refine hK _ ?_; clear hK K
          refine wpMix_skip (by kernel_rfl) (fun K hK => ?_)
          simp only [Act.put, List.setIfInBounds_toArray, List.set_cons_zero, List.set_cons_succ]
          refine hK _ ?_; clear hK K
          refine wpMix_skip (by kernel_rfl) (fun K hK => ?_)
          simp only [Act.put, List.setIfInBounds_toArray, List.set_cons_zero, List.set_cons_succ]
          refine hK _ ?_; clear hK K
          refine wpMix_skip (by kernel_rfl) (fun K hK => ?_)
          simp only [Act.put, List.setIfInBounds_toArray, List.set_cons_zero, List.set_cons_succ]
          refine hK _ ?_; clear hK K
          refine wpMix_skip (by kernel_rfl) (fun K hK => ?_)
          simp only [Act.put, List.setIfInBounds_toArray, List.set_cons_zero, List.set_cons_succ]
          refine hK _ ?_; clear hK K
          refine wpMix_skip (by kernel_rfl) (fun K hK => ?_)
          simp only [Act.put, List.setIfInBounds_toArray, List.set_cons_zero, List.set_cons_succ]
          refine hK _ ?_; clear hK K
          refine wpMix_skip (by kernel_rfl) (fun K hK => ?_)
          simp only [Act.put, List.setIfInBounds_toArray, List.set_cons_zero, List.set_cons_succ]
          refine hK _ ?_; clear hK K
          refine wpMix_skip (by kernel_rfl) (fun K hK => ?_)
          simp only [Act.put, List.setIfInBounds_toArray, List.set_cons_zero, List.set_cons_succ]
          refine hK _ ?_; clear hK K
          refine wpMix_skip (by kernel_rfl) (fun K hK => ?_)
          simp only [Act.put, List.setIfInBounds_toArray, List.set_cons_zero, List.set_cons_succ]
          refine hK _ ?_; clear hK K
          refine wpMix_skip (by kernel_rfl) (fun K hK => ?_)
          simp only [Act.put, List.setIfInBounds_toArray, List.set_cons_zero, List.set_cons_succ]
          refine hK _ ?_; clear hK K
          refine wpMix_skip (by kernel_rfl) (fun K hK => ?_)
          simp only [Act.put, List.setIfInBounds_toArray, List.set_cons_zero, List.set_cons_succ]
          refine hK _ ?_; clear hK K
          refine wpMix_pure (by kernel_rfl) (fun K hK => ?_); go_big_quiet_op; refine hK _ ?_; clear hK K
          refine wpMix_nil ?_
          have HF := Lib.hid (allIdx_bad hlt (riseAt_neg (n := n) hlt hq4))
          go_wp2
          go_ret
          exact ⟨ret_bool HF.out.symm, hb.trans (hS0.mono hb.size)⟩
        · skip
          refine wpMix_pure (by kernel_rfl) (fun K hK => ?_); go_big_quiet_op; refine hK _ ?_; clear hK K
          refine wpMix_pure (by kernel_rfl) (fun K hK => ?_); go_big_quiet_op; refine hK _ ?_; clear hK K
          refine wpMix_pure (by kernel_rfl) (fun K hK => ?_); go_big_quiet_op; refine hK _ ?_; clear hK K
          refine wpMix_pure (by kernel_rfl) (fun K hK => ?_); go_big_quiet_op; refine hK _ ?_; clear hK K
          refine wpMix_pure (by kernel_rfl) (fun K hK => ?_); go_big_quiet_op; refine hK _ ?_; clear hK K
          refine wpMix_pure (by kernel_rfl) (fun K hK => ?_); go_big_quiet_op; refine hK _ ?_; clear hK K
          refine wpMix_pure (by kernel_rfl) (fun K hK => ?_); go_big_quiet_op; refine hK _ ?_; clear hK K
          by_cases hq11 : n ≤ xs[0]
          · skip
            refine wpMix_pure (by kernel_rfl) (fun K hK => ?_); go_big_quiet_op; refine hK _ ?_; clear hK K
            refine wpMix_pure (by kernel_rfl) (fun K hK => ?_); go_big_quiet_op; refine hK _ ?_; clear hK K
            refine wpMix_pure (by kernel_rfl) (fun K hK => ?_); go_big_quiet_op; refine hK _ ?_; clear hK K
            refine wpMix_skip (by kernel_rfl) (fun K hK => ?_)
            simp only [Act.put, List.setIfInBounds_toArray, List.set_cons_zero, List.set_cons_succ]
            refine hK _ ?_; clear hK K
            refine wpMix_skip (by kernel_rfl) (fun K hK => ?_)
            simp only [Act.put, List.setIfInBounds_toArray, List.set_cons_zero, List.set_cons_succ]
            refine hK _ ?_; clear hK K
            refine wpMix_skip (by kernel_rfl) (fun K hK => ?_)
            simp only [Act.put, List.setIfInBounds_toArray, List.set_cons_zero, List.set_cons_succ]
            refine hK _ ?_; clear hK K
            refine wpMix_skip (by kernel_rfl) (fun K hK => ?_)
            simp only [Act.put, List.setIfInBounds_toArray, List.set_cons_zero, List.set_cons_succ]
            refine hK _ ?_; clear hK K
            refine wpMix_skip (by kernel_rfl) (fun K hK => ?_)
            simp only [Act.put, List.setIfInBounds_toArray, List.set_cons_zero, List.set_cons_succ]
            refine hK _ ?_; clear hK K
            refine wpMix_skip (by kernel_rfl) (fun K hK => ?_)
            simp only [Act.put, List.setIfInBounds_toArray, List.set_cons_zero, List.set_cons_succ]
            refine hK _ ?_; clear hK K
            refine wpMix_skip (by kernel_rfl) (fun K hK => ?_)
            simp only [Act.put, List.setIfInBounds_toArray, List.set_cons_zero, List.set_cons_succ]
            refine hK _ ?_; clear hK K
            refine wpMix_skip (by kernel_rfl) (fun K hK => ?_)
            simp only [Act.put, List.setIfInBounds_toArray, List.set_cons_zero, List.set_cons_succ]
            refine hK _ ?_; clear hK K
            refine wpMix_skip (by kernel_rfl) (fun K hK => ?_)
            simp only [Act.put, List.setIfInBounds_toArray, List.set_cons_zero, List.set_cons_succ]
            refine hK _ ?_; clear hK K
            refine wpMix_skip (by kernel_rfl) (fun K hK => ?_)
            simp only [Act.put, List.setIfInBounds_toArray, List.set_cons_zero, List.set_cons_succ]
            refine hK _ ?_; clear hK K
            refine wpMix_skip (by kernel_rfl) (fun K hK => ?_)
            simp only [Act.put, List.setIfInBounds_toArray, List.set_cons_zero, List.set_cons_succ]
            refine hK _ ?_; clear hK K
            refine wpMix_skip (by kernel_rfl) (fun K hK => ?_)
            simp only [Act.put, List.setIfInBounds_toArray, List.set_cons_zero, List.set_cons_succ]
            refine hK _ ?_; clear hK K
            refine wpMix_skip (by kernel_rfl) (fun K hK => ?_)
            simp only [Act.put, List.setIfInBounds_toArray, List.set_cons_zero, List.set_cons_succ]
            refine hK _ ?_; clear hK K
            refine wpMix_skip (by kernel_rfl) (fun K hK => ?_)
            simp only [Act.put, List.setIfInBounds_toArray, List.set_cons_zero, List.set_cons_succ]
            refine hK _ ?_; clear hK K
            refine wpMix_pure (by kernel_rfl) (fun K hK => ?_); go_big_quiet_op; refine hK _ ?_; clear hK K
            refine wpMix_nil ?_
            have HF := Lib.hid (allIdx_bad hlt (riseAt_far (n := n) hlt hq11))
            go_wp2
            go_ret
            exact ⟨ret_bool HF.out.symm, hb.trans (hS0.mono hb.size)⟩
          · skip
            refine wpMix_pure (by kernel_rfl) (fun K hK => ?_); go_big_quiet_op; refine hK _ ?_; clear hK K
            refine wpMix_pure (by kernel_rfl) (fun K hK => ?_); go_big_quiet_op; refine hK _ ?_; clear hK K
            refine wpMix_pure (by kernel_rfl) (fun K hK => ?_); go_big_quiet_op; refine hK _ ?_; clear hK K
            refine wpMix_pure (by kernel_rfl) (fun K hK => ?_); go_big_quiet_op; refine hK _ ?_; clear hK K
            refine wpMix_pure (by kernel_rfl) (fun K hK => ?_); go_big_quiet_op; refine hK _ ?_; clear hK K
            refine wpMix_pure (by kernel_rfl) (fun K hK => ?_); go_big_quiet_op; refine hK _ ?_; clear hK K
            refine wpMix_skip (by kernel_rfl) (fun K hK => ?_)
            simp only [Act.put, List.setIfInBounds_toArray, List.set_cons_zero, List.set_cons_succ]
            refine hK _ ?_; clear hK K
            refine wpMix_skip (by kernel_rfl) (fun K hK => ?_)
            simp only [Act.put, List.setIfInBounds_toArray, List.set_cons_zero, List.set_cons_succ]
            refine hK _ ?_; clear hK K
            refine wpMix_skip (by kernel_rfl) (fun K hK => ?_)
            simp only [Act.put, List.setIfInBounds_toArray, List.set_cons_zero, List.set_cons_succ]
            refine hK _ ?_; clear hK K
            refine wpMix_skip (by kernel_rfl) (fun K hK => ?_)
            simp only [Act.put, List.setIfInBounds_toArray, List.set_cons_zero, List.set_cons_succ]
            refine hK _ ?_; clear hK K
            refine wpMix_skip (by kernel_rfl) (fun K hK => ?_)
            simp only [Act.put, List.setIfInBounds_toArray, List.set_cons_zero, List.set_cons_succ]
            refine hK _ ?_; clear hK K
            refine wpMix_skip (by kernel_rfl) (fun K hK => ?_)
            simp only [Act.put, List.setIfInBounds_toArray, List.set_cons_zero, List.set_cons_succ]
            refine hK _ ?_; clear hK K
            refine wpMix_skip (by kernel_rfl) (fun K hK => ?_)
            simp only [Act.put, List.setIfInBounds_toArray, List.set_cons_zero, List.set_cons_succ]
            refine hK _ ?_; clear hK K
            refine wpMix_skip (by kernel_rfl) (fun K hK => ?_)
            simp only [Act.put, List.setIfInBounds_toArray, List.set_cons_zero, List.set_cons_succ]
            refine hK _ ?_; clear hK K
            refine wpMix_skip (by kernel_rfl) (fun K hK => ?_)
            simp only [Act.put, List.setIfInBounds_toArray, List.set_cons_zero, List.set_cons_succ]
            refine hK _ ?_; clear hK K
            refine wpMix_skip (by kernel_rfl) (fun K hK => ?_)
            simp only [Act.put, List.setIfInBounds_toArray, List.set_cons_zero, List.set_cons_succ]
            refine hK _ ?_; clear hK K
            refine wpMix_pure (by kernel_rfl) (fun K hK => ?_); go_big_quiet_op; refine hK _ ?_; clear hK K
            refine wpMix_pure (by kernel_rfl) (fun K hK => ?_); go_big_quiet_op; refine hK _ ?_; clear hK K
            refine wpMix_nil ?_
            have HS := Lib.hid (allIdx_step H0.out (riseAt_zero hlt (by omega) (by omega)))
            go_wp2
            go_roundw
            case rel => exact ⟨0 + 1, by omega, by go_num, HS, hb.trans (hS0.mono hb.size)⟩
            case measure => simp [intOf]; omega
      · obtain ⟨m, rfl⟩ : ∃ m, k = m + 1 := ⟨k - 1, by omega⟩
        obtain ⟨b1, off1, hA1, _, hokm, hcm, _⟩ := hxk.cell1 rfl (by omega : m < xs.length) rfl
        injection hA1 with hA1
        injection hA1 with hA1 hA2 _
        subst hA1 hA2
        go_wp2
        have ghc := cell_regrown hc
        have ghcm := cell_regrown hcm
        refine wp_region_mix (C := fun w' => ∃ p : Regrown, w' = Go.Sort.grow (redrawn wr p.d) p.os) [true, true, true, true, true, true, true, true, true, true, true, true, true, true, true, true, true, true, true, true, true, true, true, true, true, true, true, true, true] (by kernel_rfl) (by kernel_rfl) (by kernel_rfl) (fun _ _ d _ _ h => by cases d <;> exact h) (regrown_of_below (Below.drew (Below.refl _ _))) ?_
        have hS0 : Below (wr.heap.size) wr wr.drew := Below.drew (Below.refl _ _)
        refine wpMix_pure (by kernel_rfl) (fun K hK => ?_); go_big_quiet_op; refine hK _ ?_; clear hK K
        refine wpMix_pure (by kernel_rfl) (fun K hK => ?_); go_big_quiet_op; refine hK _ ?_; clear hK K
        refine wpMix_pure (by kernel_rfl) (fun K hK => ?_); go_big_quiet_op; refine hK _ ?_; clear hK K
        refine wpMix_pure (by kernel_rfl) (fun K hK => ?_); go_big_quiet_op; refine hK _ ?_; clear hK K
        by_cases hq4 : xs[m + 1] < 0
        · skip
          refine wpMix_pure (by kernel_rfl) (fun K hK => ?_); go_big_quiet_op; refine hK _ ?_; clear hK K
          refine wpMix_pure (by kernel_rfl) (fun K hK => ?_); go_big_quiet_op; refine hK _ ?_; clear hK K
          refine wpMix_skip (by kernel_rfl) (fun K hK => ?_)
          simp only [Act.put, List.setIfInBounds_toArray, List.set_cons_zero, List.set_cons_succ]
          refine hK _ ?_; clear hK K
          refine wpMix_skip (by kernel_rfl) (fun K hK => ?_)
          simp only [Act.put, List.setIfInBounds_toArray, List.set_cons_zero, List.set_cons_succ]
          refine hK _ ?_; clear hK K
          refine wpMix_skip (by kernel_rfl) (fun K hK => ?_)
          simp only [Act.put, List.setIfInBounds_toArray, List.set_cons_zero, List.set_cons_succ]
          refine hK _ ?_; clear hK K
          refine wpMix_skip (by kernel_rfl) (fun K hK => ?_)
          simp only [Act.put, List.setIfInBounds_toArray, List.set_cons_zero, List.set_cons_succ]
          refine hK _ ?_; clear hK K
          refine wpMix_skip (by kernel_rfl) (fun K hK => ?_)
          simp only [Act.put, List.setIfInBounds_toArray, List.set_cons_zero, List.set_cons_succ]
          refine hK _ ?_; clear hK K
          refine wpMix_skip (by kernel_rfl) (fun K hK => ?_)
          simp only [Act.put, List.setIfInBounds_toArray, List.set_cons_zero, List.set_cons_succ]
          refine hK _ ?_; clear hK K
          refine wpMix_pure (by kernel_rfl) (fun K hK => ?_); go_big_quiet_op; refine hK _ ?_; clear hK K
          refine wpMix_pure (by kernel_rfl) (fun K hK => ?_); go_big_quiet_op; refine hK _ ?_; clear hK K
          refine wpMix_skip (by kernel_rfl) (fun K hK => ?_)
          simp only [Act.put, List.setIfInBounds_toArray, List.set_cons_zero, List.set_cons_succ]
          refine hK _ ?_; clear hK K
          refine wpMix_skip (by kernel_rfl) (fun K hK => ?_)
          simp only [Act.put, List.setIfInBounds_toArray, List.set_cons_zero, List.set_cons_succ]
          refine hK _ ?_; clear hK K
          refine wpMix_skip (by kernel_rfl) (fun K hK => ?_)
          simp only [Act.put, List.setIfInBounds_toArray, List.set_cons_zero, List.set_cons_succ]
          refine hK _ ?_; clear hK K
          refine wpMix_skip (by kernel_rfl) (fun K hK => ?_)
          simp only [Act.put, List.setIfInBounds_toArray, List.set_cons_zero, List.set_cons_succ]
          refine hK _ ?_; clear hK K
          refine wpMix_skip (by kernel_rfl) (fun K hK => ?_)
          simp only [Act.put, List.setIfInBounds_toArray, List.set_cons_zero, List.set_cons_succ]
          refine hK _ ?_; clear hK K
          refine wpMix_skip (by kernel_rfl) (fun K hK => ?_)
          simp only [Act.put, List.setIfInBounds_toArray, List.set_cons_zero, List.set_cons_succ]
          refine hK _ ?_; clear hK K
          refine wpMix_skip (by kernel_rfl) (fun K hK => ?_)
          simp only [Act.put, List.setIfInBounds_toArray, List.set_cons_zero, List.set_cons_succ]
          refine hK _ ?_; clear hK K
          refine wpMix_skip (by kernel_rfl) (fun K hK => ?_)
          simp only [Act.put, List.setIfInBounds_toArray, List.set_cons_zero, List.set_cons_succ]
          refine hK _ ?_; clear hK K
          refine wpMix_skip (by kernel_rfl) (fun K hK => ?_)
          simp only [Act.put, List.setIfInBounds_toArray, List.set_cons_zero, List.set_cons_succ]
          refine hK _ ?_; clear hK K
          refine wpMix_skip (by kernel_rfl) (fun K hK => ?_)
          simp only [Act.put, List.setIfInBounds_toArray, List.set_cons_zero, List.set_cons_succ]
          refine hK _ ?_; clear hK K
          refine wpMix_skip (by kernel_rfl) (fun K hK => ?_)
          simp only [Act.put, List.setIfInBounds_toArray, List.set_cons_zero, List.set_cons_succ]
          refine hK _ ?_; clear hK K
          refine wpMix_skip (by kernel_rfl) (fun K hK => ?_)
          simp only [Act.put, List.setIfInBounds_toArray, List.set_cons_zero, List.set_cons_succ]
          refine hK _ ?_; clear hK K
          refine wpMix_skip (by kernel_rfl) (fun K hK => ?_)
          simp only [Act.put, List.setIfInBounds_toArray, List.set_cons_zero, List.set_cons_succ]
          refine hK _ ?_; clear hK K
          refine wpMix_skip (by kernel_rfl) (fun K hK => ?_)
          simp only [Act.put, List.setIfInBounds_toArray, List.set_cons_zero, List.set_cons_succ]
          refine hK _ ?_; clear hK K
          refine wpMix_pure (by kernel_rfl) (fun K hK => ?_); go_big_quiet_op; refine hK _ ?_; clear hK K
          refine wpMix_nil ?_
          have HF := Lib.hid (allIdx_bad hlt (riseAt_neg (n := n) hlt hq4))
          go_wp2
          go_ret
          exact ⟨ret_bool HF.out.symm, hb.trans (hS0.mono hb.size)⟩
        · skip
          refine wpMix_pure (by kernel_rfl) (fun K hK => ?_); go_big_quiet_op; refine hK _ ?_; clear hK K
          refine wpMix_pure (by kernel_rfl) (fun K hK => ?_); go_big_quiet_op; refine hK _ ?_; clear hK K
          refine wpMix_pure (by kernel_rfl) (fun K hK => ?_); go_big_quiet_op; refine hK _ ?_; clear hK K
          refine wpMix_pure (by kernel_rfl) (fun K hK => ?_); go_big_quiet_op; refine hK _ ?_; clear hK K
          refine wpMix_pure (by kernel_rfl) (fun K hK => ?_); go_big_quiet_op; refine hK _ ?_; clear hK K
          refine wpMix_pure (by kernel_rfl) (fun K hK => ?_); go_big_quiet_op; refine hK _ ?_; clear hK K
          refine wpMix_pure (by kernel_rfl) (fun K hK => ?_); go_big_quiet_op; refine hK _ ?_; clear hK K
          by_cases hq11 : n ≤ xs[m + 1]
          · skip
            refine wpMix_pure (by kernel_rfl) (fun K hK => ?_); go_big_quiet_op; refine hK _ ?_; clear hK K
            refine wpMix_pure (by kernel_rfl) (fun K hK => ?_); go_big_quiet_op; refine hK _ ?_; clear hK K
            refine wpMix_pure (by kernel_rfl) (fun K hK => ?_); go_big_quiet_op; refine hK _ ?_; clear hK K
            refine wpMix_skip (by kernel_rfl) (fun K hK => ?_)
            simp only [Act.put, List.setIfInBounds_toArray, List.set_cons_zero, List.set_cons_succ]
            refine hK _ ?_; clear hK K
            refine wpMix_skip (by kernel_rfl) (fun K hK => ?_)
            simp only [Act.put, List.setIfInBounds_toArray, List.set_cons_zero, List.set_cons_succ]
            refine hK _ ?_; clear hK K
            refine wpMix_skip (by kernel_rfl) (fun K hK => ?_)
            simp only [Act.put, List.setIfInBounds_toArray, List.set_cons_zero, List.set_cons_succ]
            refine hK _ ?_; clear hK K
            refine wpMix_skip (by kernel_rfl) (fun K hK => ?_)
            simp only [Act.put, List.setIfInBounds_toArray, List.set_cons_zero, List.set_cons_succ]
            refine hK _ ?_; clear hK K
            refine wpMix_skip (by kernel_rfl) (fun K hK => ?_)
            simp only [Act.put, List.setIfInBounds_toArray, List.set_cons_zero, List.set_cons_succ]
            refine hK _ ?_; clear hK K
            refine wpMix_skip (by kernel_rfl) (fun K hK => ?_)
            simp only [Act.put, List.setIfInBounds_toArray, List.set_cons_zero, List.set_cons_succ]
            refine hK _ ?_; clear hK K
            refine wpMix_skip (by kernel_rfl) (fun K hK => ?_)
            simp only [Act.put, List.setIfInBounds_toArray, List.set_cons_zero, List.set_cons_succ]
            refine hK _ ?_; clear hK K
            refine wpMix_skip (by kernel_rfl) (fun K hK => ?_)
            simp only [Act.put, List.setIfInBounds_toArray, List.set_cons_zero, List.set_cons_succ]
            refine hK _ ?_; clear hK K
            refine wpMix_skip (by kernel_rfl) (fun K hK => ?_)
            simp only [Act.put, List.setIfInBounds_toArray, List.set_cons_zero, List.set_cons_succ]
            refine hK _ ?_; clear hK K
            refine wpMix_skip (by kernel_rfl) (fun K hK => ?_)
            simp only [Act.put, List.setIfInBounds_toArray, List.set_cons_zero, List.set_cons_succ]
            refine hK _ ?_; clear hK K
            refine wpMix_skip (by kernel_rfl) (fun K hK => ?_)
            simp only [Act.put, List.setIfInBounds_toArray, List.set_cons_zero, List.set_cons_succ]
            refine hK _ ?_; clear hK K
            refine wpMix_skip (by kernel_rfl) (fun K hK => ?_)
            simp only [Act.put, List.setIfInBounds_toArray, List.set_cons_zero, List.set_cons_succ]
            refine hK _ ?_; clear hK K
            refine wpMix_skip (by kernel_rfl) (fun K hK => ?_)
            simp only [Act.put, List.setIfInBounds_toArray, List.set_cons_zero, List.set_cons_succ]
            refine hK _ ?_; clear hK K
            refine wpMix_skip (by kernel_rfl) (fun K hK => ?_)
            simp only [Act.put, List.setIfInBounds_toArray, List.set_cons_zero, List.set_cons_succ]
            refine hK _ ?_; clear hK K
            refine wpMix_pure (by kernel_rfl) (fun K hK => ?_); go_big_quiet_op; refine hK _ ?_; clear hK K
            refine wpMix_nil ?_
            have HF := Lib.hid (allIdx_bad hlt (riseAt_far (n := n) hlt hq11))
            go_wp2
            go_ret
            exact ⟨ret_bool HF.out.symm, hb.trans (hS0.mono hb.size)⟩
          · skip
            refine wpMix_pure (by kernel_rfl) (fun K hK => ?_); go_big_quiet_op; refine hK _ ?_; clear hK K
            refine wpMix_pure (by kernel_rfl) (fun K hK => ?_); go_big_quiet_op; refine hK _ ?_; clear hK K
            refine wpMix_pure (by kernel_rfl) (fun K hK => ?_); go_big_quiet_op; refine hK _ ?_; clear hK K
            refine wpMix_pure (by kernel_rfl) (fun K hK => ?_); go_big_quiet_op; refine hK _ ?_; clear hK K
            refine wpMix_pure (by kernel_rfl) (fun K hK => ?_); go_big_quiet_op; refine hK _ ?_; clear hK K
            refine wpMix_pure (by kernel_rfl) (fun K hK => ?_); go_big_quiet_op; refine hK _ ?_; clear hK K
            refine wpMix_pure (by kernel_rfl) (fun K hK => ?_); go_big_quiet_op; refine hK _ ?_; clear hK K
            refine wpMix_pure (by kernel_rfl) (fun K hK => ?_); go_big_quiet_op; refine hK _ ?_; clear hK K
            refine wpMix_pure (by kernel_rfl) (fun K hK => ?_); go_big_quiet_op; refine hK _ ?_; clear hK K
            refine wpMix_pure (by kernel_rfl) (fun K hK => ?_); go_big_quiet_op; refine hK _ ?_; clear hK K
            refine wpMix_pure (by kernel_rfl) (fun K hK => ?_); go_big_quiet_op; refine hK _ ?_; clear hK K
            refine wpMix_pure (by kernel_rfl) (fun K hK => ?_); go_big_quiet_op; refine hK _ ?_; clear hK K
            refine wpMix_pure (by kernel_rfl) (fun K hK => ?_); go_big_quiet_op; refine hK _ ?_; clear hK K
            refine wpMix_pure (by kernel_rfl) (fun K hK => ?_); go_big_quiet_op; refine hK _ ?_; clear hK K
            refine wpMix_pure (by kernel_rfl) (fun K hK => ?_); go_big_quiet_op; refine hK _ ?_; clear hK K
            by_cases hq26 : xs[m + 1] ≤ xs[m]
            · skip
              refine wpMix_pure (by kernel_rfl) (fun K hK => ?_); go_big_quiet_op; refine hK _ ?_; clear hK K
              refine wpMix_pure (by kernel_rfl) (fun K hK => ?_); go_big_quiet_op; refine hK _ ?_; clear hK K
              refine wpMix_pure (by kernel_rfl) (fun K hK => ?_); go_big_quiet_op; refine hK _ ?_; clear hK K
              refine wpMix_nil ?_
              have HF := Lib.hid (allIdx_bad hlt (riseAt_low (n := n) hlt hq26))
              go_wp2
              go_ret
              exact ⟨ret_bool HF.out.symm, hb.trans (hS0.mono hb.size)⟩
            · skip
              refine wpMix_pure (by kernel_rfl) (fun K hK => ?_); go_big_quiet_op; refine hK _ ?_; clear hK K
              refine wpMix_pure (by kernel_rfl) (fun K hK => ?_); go_big_quiet_op; refine hK _ ?_; clear hK K
              refine wpMix_pure (by kernel_rfl) (fun K hK => ?_); go_big_quiet_op; refine hK _ ?_; clear hK K
              refine wpMix_nil ?_
              have HS := Lib.hid (allIdx_step H0.out (riseAt_ok (n := n) hlt (by omega) (by omega) (by omega)))
              go_wp2
              go_roundw
              case rel => exact ⟨m + 1 + 1, by omega, by go_num, HS, hb.trans (hS0.mono hb.size)⟩
              case measure => simp [intOf]; omega
    · have HF := Lib.hid (allIdx_full (by omega) hk H0.out)
      go_wp2
      go_ret
      exact ⟨ret_bool HF.out.symm, hb⟩
set_option maxRecDepth 100000 in
set_option maxHeartbeats 2000000 in
theorem b10Inside_any (v : Value) (xs : List ByteArray) (fp : List Nat) (s : ByteArray) (w : World) (hx : Sl fStr.cod w v xs fp) :
    Calls Tryz.prog 49 #[v, .string s] w fun e w' => e = .returned (.bool (memS s xs)) ∧ w = w' := by
  obtain ⟨A, cap, rfl, hlen, hcap⟩ := hx.form
  go_enter Tryz.func49, Tryz.ntmps49
  go_wp2
  go_loop [5] (fun i => ∃ k : Nat, k ≤ xs.length ∧ i = .int .i64 k ∧ Hid (NotS xs s k)) (fun i => xs.length - (intOf i).toNat)
  case atStart => exact ⟨0, Nat.zero_le _, rfl, NotS.zero⟩
  case round =>
    obtain ⟨k, hk, rfl, H0⟩ := hrel
    by_cases hlt : k < xs.length
    · obtain ⟨b, off, rfl, _, hok, hc, _⟩ := hx.cell1 rfl hlt rfl
      by_cases he : xs[k] = s
      · have HF := Lib.hid (inS hlt he)
        have e6 : (xs[k].toList == s.toList) = true := eqS_true.2 he
        clear he
        go_wp2
        go_ret
        exact ⟨ret_bool HF.out.symm, rfl⟩
      · have HS := Lib.hid (NotS.step hlt he H0.out)
        have e6 : (xs[k].toList == s.toList) = false := bytes_beq_false he
        clear he
        go_wp2
        go_round
        case rel => exact ⟨k + 1, by omega, by go_num, HS⟩
        case measure => simp [intOf]; omega
    · have HF := Lib.hid (NotS.none (by omega) H0.out)
      go_wp2
      go_ret
      exact ⟨ret_bool HF.out.symm, rfl⟩
end Go.Proofs.YtfgmikgghpflbaaGreatDoor

namespace Go.Proofs.YtfgmikgghpflbaaGreatDoor
open Go.RowKit
set_option linter.unusedVariables false

theorem Sl.far_cell {α : Type} {E : Cod α} {w : World} {v : Value} {xs : List α} {fp : List Nat} {g j : Nat} {u : Value} (h : Sl E w v xs fp) (hp : ∀ b ∈ fp, b ≠ g) : Sl E (w.setCell ⟨g, j, none⟩ u) v xs fp :=
  h.only ((Only.refl [g] w).set j u) (fun b hb => by simpa using hp b hb)
set_option maxRecDepth 100000 in
set_option maxHeartbeats 2000000 in
theorem hourO_any (n g : Nat) (w : World) (hs : SrcD n g w) (hn : n ≤ 999999980000) :
    Calls Tryz.prog 85 #[.pointer (some ⟨g, 0, none⟩)] w fun e w' => ∃ r : Int, e = .returned (.int .i64 r) ∧ (-1000000000 ≤ r ∧ r ≤ 1000000000) ∧ SrcD (n + 4) g w' ∧ Only [g] w w' := by
  go_enter Tryz.func85, Tryz.ntmps85
  go_wp2_with fail
  refine (one_any _ g 10 _ hs (by omega) (by omega)).mono ?_
  rintro e w1 ⟨b, rfl, hs1, ho1⟩
  cases b
  · go_wp2_with fail
    refine (pick_any _ g 45 _ hs1 (by omega) (by omega)).mono ?_
    rintro e w2 ⟨q, rfl, ⟨q0, q1, _⟩, hs2, ho2⟩
    replace q1 := q1 (by omega)
    go_wp2
    go_ret
    exact ⟨q, rfl, by omega, hs2, ho1.trans ho2⟩
  · skip
    have hBL : Below w1.heap.size w1 (w1.alloc (.cells #[.int .i64 (-1), .int .i64 0, .int .i64 100000, .int .i64 100001] 2)) := (Below.refl _ _).alloc (Nat.le_refl _) _
    have hgl := hs1.lt
    go_wp2_with fail
    refine (among_any _ g _ [-1, 0, 100000, 100001] [w1.heap.size] _ (hs1.below hBL) (by omega) (slLitI w1 2 [-1, 0, 100000, 100001] _ rfl (by decide) (by decide) (by decide) _ _ rfl rfl) (by simp; omega) (by decide) (by decide)).mono ?_
    rintro e w2 ⟨t, ht, rfl, hs2, ho2⟩
    have htb : -1000000000 ≤ t ∧ t ≤ 1000000000 := by simp at ht; omega
    go_wp2
    go_ret
    exact ⟨t, rfl, htb, hs2, ho1.trans (Only.later hBL ho2)⟩
set_option maxRecDepth 100000 in
set_option maxHeartbeats 4000000 in
theorem DrawAddObserved_any (v : Value) (xs : List UInt8) (fp : List Nat) (w : World) (hx : Sl fByte.cod w v xs fp) :
    Calls Tryz.prog 32 #[v] w fun e w' => ∃ (y : Value) (ys : List DObserved) (x : DObserved) (fq : List Nat), e = .returned (.tuple #[y, agObserved x]) ∧ Sl fObserved.cod w' y ys fq ∧ (∀ z ∈ ys, SmObserved z) ∧ ys.length ≤ 70 ∧ SmObserved x ∧ Below w.heap.size w w' := by
  have hB0 : Below w.heap.size w (w.alloc (.cells #[.int .i64 0, .int .i64 0, .int .i64 0, .int .i64 0] 66)) := (Below.refl _ _).alloc (Nat.le_refl _) _
  go_enter Tryz.func32, Tryz.ntmps32
  go_wp2_with fail
  refine (l00From_any v xs fp _ (hx.below' hB0)).mono ?_
  rintro e w1 ⟨rfl, hs, hb1⟩
  have hbx := (BxObserved.new w 66).belowB hb1 (by simp)
  have hB1 := hB0.trans (hb1.mono (by simp))
  have hgw : w.heap.size < (w.alloc (.cells #[.int .i64 0, .int .i64 0, .int .i64 0, .int .i64 0] 66)).heap.size := by simp
  generalize (w.alloc (.cells #[.int .i64 0, .int .i64 0, .int .i64 0, .int .i64 0] 66)).heap.size = g at *
  have hof : ∀ b ∈ [g], w.heap.size ≤ b := by simp; omega
  have hg1 := hs.lt
  clear hB0 hb1 hx
  go_wp2_with fail
  refine (l04Draw_any _ g _ hs (by omega)).mono ?_
  rintro e w2 ⟨y, ys, fq, rfl, hsl, hlo, hnd, hsm, hl, hs2, ho2⟩
  have hgq : ∀ b ∈ fq, b ∉ [g] := fun b hb => by have := hlo b hb; simp; omega
  obtain ⟨A, cap, rfl, _, _⟩ := hsl.form
  replace hbx := hbx.keep (ho2.block w.heap.size hbx.lt (by simp; omega))
  go_wp2_with fail
  refine (l04DrawOne_any _ g _ hs2 (by omega)).mono ?_
  rintro e w3 ⟨x0, rfl, hx0, hs3, ho3⟩
  replace hbx := hbx.keep (ho3.block w.heap.size hbx.lt (by simp; omega))
  go_wp2_with fail
  refine (l04Bend_any _ g x0 _ hs3 (by omega) hx0).mono ?_
  rintro e w4 ⟨x, rfl, hx4, hs4, ho4⟩
  replace hbx := hbx.keep (ho4.block w.heap.size hbx.lt (by simp; omega))
  have hsl4 := hsl.only (ho3.trans ho4) hgq
  have hB4 := hB1.trans ((ho2.trans (ho3.trans ho4)).below hB1.size hof)
  have hne : ∀ b ∈ fq, b ≠ w.heap.size := fun b hb => by have := hlo b hb; have := hB1.size; have := hg1; omega
  clear hsl hlo ho2 ho3 ho4 hB1 hs hs2 hs3 hs4
  obtain ⟨d0, d1, d2, d3, z0, z1, z2, z3⟩ := hbx
  have hrr := Nat.le_refl w.heap.size
  unfold agObserved
  go_wp2
  refine bodyPost_ret (v := .tuple #[.slice A ys.length cap, agObserved x]) (by simp [agObserved, results, hit_cellX, d0, d1, d2, d3, Tryz.results32, go_sem]) rfl ⟨_, ys, x, fq, rfl, ?_, hsm, hl, hx4, by (repeat (refine Below.setCell ?_ hrr _)); exact hB4⟩
  repeat (refine Sl.far_cell ?_ hne)
  exact hsl4
set_option maxRecDepth 100000 in
set_option maxHeartbeats 4000000 in
theorem DrawNewSnow_any (v : Value) (xs : List UInt8) (fp : List Nat) (w : World) (hx : Sl fByte.cod w v xs fp) :
    Calls Tryz.prog 38 #[v] w fun e w' => ∃ (y : Value) (ys : List DObserved) (a b : Int) (fq : List Nat), e = .returned (.tuple #[y, .int .i64 a, .int .i64 b]) ∧ Sl fObserved.cod w' y ys fq ∧ (∀ z ∈ ys, SmObserved z) ∧ ys.length ≤ 70 ∧ (-1000000000 ≤ a ∧ a ≤ 1000000000) ∧ (-1000000001 ≤ b ∧ b ≤ 1000000040) ∧ Below w.heap.size w w' := by
  go_enter Tryz.func38, Tryz.ntmps38
  go_wp2_with fail
  refine (l00From_any v xs fp _ hx).mono ?_
  rintro e w1 ⟨rfl, hs1, hb1⟩
  obtain ⟨g, hG⟩ : ∃ g, g = w.heap.size := ⟨_, rfl⟩
  have hof : ∀ b ∈ [g], w.heap.size ≤ b := by simp [hG]
  have hgl : g < w1.heap.size := by rw [hG]; exact hs1.lt
  have hsz := hb1.size
  simp only [← hG] at hs1 ⊢
  clear hG hx
  go_wp2_with fail
  refine (l04Draw_any _ g _ hs1 (by omega)).mono ?_
  rintro e w2 ⟨y, ys, fq, rfl, hsl, hlo, hnd, hsm, hl, hs2, ho2⟩
  have hgq : ∀ b ∈ fq, b ∉ [g] := fun b hb => by have := hlo b hb; simp; omega
  obtain ⟨A, cap, rfl, _, _⟩ := hsl.form
  go_wp2_with fail
  refine (hourO_any _ g _ hs2 (by omega)).mono ?_
  rintro e w3 ⟨h, rfl, hh, hs3, ho3⟩
  have hBL : Below w3.heap.size w3 (w3.alloc (.cells #[.int .i64 0, .int .i64 6, .int .i64 12, .int .i64 24, .int .i64 40, .int .i64 (-1)] 2)) := (Below.refl _ _).alloc (Nat.le_refl _) _
  have hgl := hs3.lt
  go_wp2_with fail
  refine (among_any _ g _ [0, 6, 12, 24, 40, -1] [w3.heap.size] _ (hs3.below hBL) (by omega) (slLitI w3 2 [0, 6, 12, 24, 40, -1] _ rfl (by decide) (by decide) (by decide) _ _ rfl rfl) (by simp; omega) (by decide) (by decide)).mono ?_
  rintro e w4 ⟨t, ht, rfl, hs4, ho4⟩
  have htb : -1 ≤ t ∧ t ≤ 40 := by simp at ht; omega
  have ho4' := Only.later hBL ho4
  clear ht hBL hgl
  go_wp2
  go_ret3
  have ho := (ho2.trans (ho3.trans ho4'))
  exact ⟨_, ys, h, h + t, fq, rfl, hsl.only (ho3.trans ho4') hgq, hsm, hl, hh, by omega, hb1.trans (ho.below hsz hof)⟩
def atB10 (xs : List UInt8) (i : Nat) (n : Int) : Int := if n ≤ 1 then 0 else if i < xs.length then ((xs.getD i 0).toNat : Int) % n else ((i : Int) * 37 + 11) % n
theorem atB10_in {xs : List UInt8} {i : Nat} {n : Int} (h : 0 < n) : 0 ≤ atB10 xs i n ∧ atB10 xs i n < n := by
  unfold atB10
  split
  · omega
  · split
    · exact ⟨Int.emod_nonneg _ (by omega), Int.emod_lt_of_pos _ h⟩
    · exact ⟨Int.emod_nonneg _ (by omega), Int.emod_lt_of_pos _ h⟩
set_option maxRecDepth 100000 in
set_option maxHeartbeats 2000000 in
theorem b10At0_any (v : Value) (xs : List UInt8) (fp : List Nat) (n : Int) (w : World) (hx : Sl fByte.cod w v xs fp) (hn : -2000000000 ≤ n ∧ n ≤ 2000000000) :
    Calls Tryz.prog 40 #[v, .int .i64 0, .int .i64 n] w fun e w' => e = .returned (.int .i64 (atB10 xs 0 n)) ∧ w = w' := by
  obtain ⟨A, cap, rfl, hlen, hcap⟩ := hx.form
  by_cases h1 : n ≤ 1
  · have HA : Hid (atB10 xs 0 n = 0) := by show _ = _; unfold atB10; rw [if_pos h1]
    go_enter Tryz.func40, Tryz.ntmps40
    go_wp2
    go_ret
    exact ⟨by rw [HA.out]; rfl, rfl⟩
  · by_cases h0 : 0 < xs.length
    · obtain ⟨b, off, rfl, _, _, hc, _⟩ := hx.cell1 rfl h0 rfl
      have HA : Hid (atB10 xs 0 n = (xs[0].toNat : Int) % n) := by show _ = _; unfold atB10; rw [if_neg h1, if_pos h0, getD_of_lt h0]
      have hb := xs[0].toNat_lt
      have hnz : n ≠ 0 := by omega
      replace hc : w.cell? ⟨b, off, none⟩ = some (.int .u8 (xs[0].toNat : Int)) := by simpa using hc
      generalize xs[0].toNat = c at *
      have em : Int.tmod (c : Int) n = (c : Int) % n := Int.tmod_eq_emod_of_nonneg (by omega)
      have hm0 : 0 ≤ (c : Int) % n := Int.emod_nonneg _ (by omega)
      have hm1 : (c : Int) % n < n := Int.emod_lt_of_pos _ (by omega)
      go_enter Tryz.func40, Tryz.ntmps40
      go_wp2
      go_ret
      exact ⟨by rw [HA.out]; first | rfl | simp [em], rfl⟩
    · have HA : Hid (atB10 xs 0 n = (11 : Int) % n) := by show _ = _; unfold atB10; rw [if_neg h1, if_neg h0]; rfl
      have em : Int.tmod (11 : Int) n = (11 : Int) % n := Int.tmod_eq_emod_of_nonneg (by omega)
      have hm0 : 0 ≤ (11 : Int) % n := Int.emod_nonneg _ (by omega)
      have hm1 : (11 : Int) % n < n := Int.emod_lt_of_pos _ (by omega)
      have hnz : n ≠ 0 := by omega
      obtain rfl := List.eq_nil_of_length_eq_zero (show xs.length = 0 by omega)
      go_enter Tryz.func40, Tryz.ntmps40
      go_wp2
      go_ret
      exact ⟨by rw [HA.out]; first | rfl | simp [em], rfl⟩

end Go.Proofs.YtfgmikgghpflbaaGreatDoor

namespace Go.Proofs.YtfgmikgghpflbaaGreatDoor
open Go.RowKit
set_option linter.unusedVariables false

theorem obss_lt {xs : List DObserved} (h : obssB xs = true) : ∀ (j i : Nat) (hj : j < xs.length) (hi : i < j), (xs[i]'(by omega)).hour < xs[j].hour := by
  intro j
  induction j with
  | zero => intro i _ hi; omega
  | succ j ih =>
    intro i hj hi
    have h3 := of_decide_eq_true (show decide (xs[j].hour < xs[j + 1].hour) = true from obssB_two h hj)
    rcases Nat.lt_or_eq_of_le (Nat.le_of_lt_succ hi) with h1 | rfl
    · have := ih i (by omega) h1; omega
    · exact h3
theorem obss_of {L : List DObserved} (h1 : ∀ y ∈ L, obsB y = true) (h2 : ∀ i (hi : i + 1 < L.length), L[i].hour < L[i + 1].hour) (h3 : L.length ≤ 48) : obssB L = true := by
  unfold obssB
  rw [decide_eq_true h3, Bool.and_true, allIdx_true]
  intro i hi
  unfold obsOk
  rw [getD_of_lt hi, h1 _ (List.getElem_mem hi), Bool.true_and]
  cases i with
  | zero => rfl
  | succ i =>
    rw [Nat.add_sub_cancel, getD_of_lt (show i < L.length by omega)]
    rw [show obsBef L[i] L[i + 1] = true from decide_eq_true (h2 i hi), Bool.or_true]
/-- A list into which an observation is put. -/
theorem add_valid {xs : List DObserved} {x : DObserved} (hc : addObservedC xs x = 0) :
    obssB (addObservedF xs x) = true ∧ (addObservedF xs x).length = xs.length + 1 ∧ ∃ k, ∃ hk : k < (addObservedF xs x).length, (addObservedF xs x)[k] = x := by
  obtain ⟨hv, ho, hh, hl⟩ := addObserved_ok hc
  have hF : addObservedF xs x = xs.take (atObserved xs x.hour) ++ x :: xs.drop (atObserved xs x.hour) := by unfold addObservedF; rw [if_pos hc]
  rw [hF]
  have hle : atObserved xs x.hour ≤ xs.length := posF_le _ _
  have hb : ∀ m (hm : m < xs.length), m < atObserved xs x.hour → xs[m].hour < x.hour := fun m hm h => at_before hm h
  have ha : ∀ m (hm : m < xs.length), atObserved xs x.hour ≤ m → x.hour < xs[m].hour := fun m hm h => by
    have h1 : atObserved xs x.hour < xs.length := by omega
    have h2 := at_after h1
    have h3 := has_not hh h1
    rcases Nat.lt_or_eq_of_le h with h4 | h4
    · have := obss_lt hv m (atObserved xs x.hour) hm h4; omega
    · have e : xs[m] = xs[atObserved xs x.hour] := by congr 1; exact h4.symm
      rw [e]; omega
  generalize atObserved xs x.hour = k at *
  have hlt : (xs.take k).length = k := by rw [List.length_take]; omega
  have hlen : (xs.take k ++ x :: xs.drop k).length = xs.length + 1 := by rw [List.length_append, List.length_cons, List.length_drop, hlt]; omega
  have hat : ∀ i (hi : i < (xs.take k ++ x :: xs.drop k).length), (i < k → ∃ h : i < xs.length, (xs.take k ++ x :: xs.drop k)[i] = xs[i]) ∧ (i = k → (xs.take k ++ x :: xs.drop k)[i] = x) ∧ (k < i → ∃ h : i - 1 < xs.length, (xs.take k ++ x :: xs.drop k)[i] = xs[i - 1]) := fun i hi => by
    refine ⟨fun h => ⟨by omega, ?_⟩, fun h => ?_, fun h => ⟨by omega, ?_⟩⟩
    · rw [List.getElem_append_left (by omega), List.getElem_take]
    · subst h
      rw [List.getElem_append_right (by omega)]
      simp [hlt]
    · rw [List.getElem_append_right (by omega)]
      obtain ⟨j, rfl⟩ : ∃ j, i = k + 1 + j := ⟨i - (k + 1), by omega⟩
      simp only [hlt, show k + 1 + j - k = j + 1 by omega, List.getElem_cons_succ, List.getElem_drop]
      congr 1
      omega
  refine ⟨obss_of (fun y hy => ?_) (fun i hi => ?_) (by omega), hlen, k, by omega, (hat k (by omega)).2.1 rfl⟩
  · rcases List.mem_append.1 hy with hy | hy
    · obtain ⟨m, hm, rfl⟩ := List.getElem_of_mem (List.mem_of_mem_take hy)
      exact obssB_one hv hm
    · rcases List.mem_cons.1 hy with rfl | hy
      · exact ho
      · obtain ⟨m, hm, rfl⟩ := List.getElem_of_mem (List.mem_of_mem_drop hy)
        exact obssB_one hv hm
  · rcases Nat.lt_trichotomy i k with h1 | h1 | h1
    · obtain ⟨h2, e2⟩ := (hat i (by omega)).1 h1
      rw [e2]
      rcases Nat.lt_or_ge (i + 1) k with h3 | h3
      · obtain ⟨h4, e4⟩ := (hat (i + 1) hi).1 h3
        rw [e4]; exact obss_lt hv (i + 1) i h4 (by omega)
      · rw [(hat (i + 1) hi).2.1 (by omega)]; exact hb i h2 h1
    · rw [(hat i (by omega)).2.1 h1]
      obtain ⟨h4, e4⟩ := (hat (i + 1) hi).2.2 (by omega)
      rw [e4]; exact ha _ h4 (by omega)
    · obtain ⟨h2, e2⟩ := (hat i (by omega)).2.2 h1
      obtain ⟨h4, e4⟩ := (hat (i + 1) hi).2.2 (by omega)
      rw [e2, e4]; exact obss_lt hv _ _ h4 (by omega)
/-- An observation is found at its hour. -/
theorem sa_at {L : List DObserved} (hv : obssB L = true) {k : Nat} (hk : k < L.length) : saC L L[k].hour = 0 ∧ saF L L[k].hour = L[k].snow := by
  have hat : atObserved L L[k].hour = k := posF_is _ L k (by omega) (fun m hm h => decide_eq_true (cmI_lt.2 (obss_lt hv k m hk h))) (fun h => decide_eq_false (fun h2 => by rw [cmI_lt] at h2; omega))
  have hh : hasObserved L L[k].hour = true := by
    unfold hasObserved
    rw [hat, List.getElem?_eq_getElem hk]
    show (cmI _ _ == 0) = true
    rw [beq_iff_eq]; exact cmI_zero.2 rfl
  obtain ⟨h1, _⟩ := obsB_parts (obssB_one hv hk)
  have hC : saC L L[k].hour = 0 := by unfold saC; rw [hv, if_pos rfl, inB_true.2 h1, hh]; rfl
  refine ⟨hC, ?_⟩
  unfold saF
  rw [if_pos hC, if_pos hh, hat, getD_of_lt hk]
/-- Between two observations the height lies between theirs. -/
theorem sa_mid {L : List DObserved} (hv : obssB L = true) {i : Nat} (hi : i + 1 < L.length) {h : Int} (h1 : L[i].hour ≤ h) (h2 : h < L[i + 1].hour) :
    saC L h = 0 ∧ min L[i].snow L[i + 1].snow ≤ saF L h ∧ saF L h ≤ max L[i].snow L[i + 1].snow := by
  by_cases he : h = L[i].hour
  · obtain ⟨a, b⟩ := sa_at hv (show i < L.length by omega)
    rw [he, a, b]; omega
  · have hat : atObserved L h = i + 1 := posF_is _ L (i + 1) (by omega) (fun m hm hlt => decide_eq_true (cmI_lt.2 (by
        rcases Nat.lt_or_eq_of_le (Nat.le_of_lt_succ hlt) with h4 | h4
        · have := obss_lt hv i m (by omega) h4; omega
        · have e : L[m] = L[i] := by congr 1
          rw [e]; omega))) (fun hl => decide_eq_false (fun h3 => by rw [cmI_lt] at h3; omega))
    have hh : hasObserved L h = false := by
      unfold hasObserved
      rw [hat, List.getElem?_eq_getElem hi]
      show (cmI _ _ == 0) = false
      rw [beq_eq_false_iff_ne]; exact fun h3 => by have := cmI_zero.1 h3; omega
    obtain ⟨h5, _⟩ := obsB_parts (obssB_one hv hi)
    obtain ⟨h6, _⟩ := obsB_parts (obssB_one hv (show i < L.length by omega))
    have hC : saC L h = 0 := by unfold saC; rw [hv, if_pos rfl, inB_true.2 ⟨by omega, by omega⟩, if_pos rfl, hh, hat, if_neg (by decide), if_neg (by omega), if_neg (by omega)]
    refine ⟨hC, ?_⟩
    have hF : saF L h = lineF L[i].hour L[i].snow L[i + 1].hour L[i + 1].snow h := by
      unfold saF
      rw [if_pos hC, hh, hat, Nat.add_sub_cancel, getD_of_lt hi, getD_of_lt (show i < L.length by omega)]; rfl
    rw [hF]
    exact lineF_in (by omega) h2
theorem ns_zero {xs : List DObserved} {a b : Int} (hc : nsC xs a b = 0) : obssB xs = true ∧ (0 ≤ a ∧ b ≤ 100000 ∧ a ≤ b) ∧ nsV xs a b = nsS xs a b (xs.length - 1) := by
  have h := hc
  unfold nsC at h
  split at h
  · rename_i h1
    split at h
    · rename_i h2
      rw [Bool.and_eq_true, Bool.and_eq_true, inB_true, inB_true] at h2
      have := of_decide_eq_true h2.2
      exact ⟨h1, ⟨by omega, by omega, this⟩, by unfold nsV; rw [if_pos hc]⟩
    · cases h
  · cases h
theorem ns_code {xs : List DObserved} {a b : Int} (hv : obssB xs = true) (h1 : 0 ≤ a) (h2 : b ≤ 100000) (h3 : a ≤ b) : nsC xs a b = 0 := by
  unfold nsC
  rw [hv, if_pos rfl, inB_true.2 ⟨h1, by omega⟩, inB_true.2 ⟨by omega, h2⟩, decide_eq_true h3]; rfl
/-- What the parts' new snow comes to. -/
theorem ns_law {xs : List DObserved} {a b m : Int} (hc : nsC xs a b = 0) (h1 : a ≤ m) (h2 : m ≤ b) :
    nsC xs a m = 0 ∧ nsC xs m b = 0 ∧ nsC xs a a = 0 ∧ 0 ≤ nsV xs a m ∧ 0 ≤ nsV xs m b ∧ nsV xs a m + nsV xs m b ≤ nsV xs a b ∧ nsV xs a a = 0 ∧ nsV xs a b ≤ 200000 := by
  obtain ⟨hv, ⟨ha, hb, hab⟩, hV⟩ := ns_zero hc
  have c1 := ns_code hv (a := a) (b := m) ha (by omega) h1
  have c2 := ns_code hv (a := m) (b := b) (by omega) hb h2
  have c3 := ns_code hv (a := a) (b := a) ha (by omega) (by omega)
  have v1 := (ns_zero c1).2.2
  have v2 := (ns_zero c2).2.2
  have v3 := (ns_zero c3).2.2
  rw [v1, v2, v3, hV]
  have hl := obssB_len hv
  rcases Nat.eq_zero_or_pos xs.length with h0 | h0
  · rw [h0]
    exact ⟨c1, c2, c3, Int.le_refl 0, Int.le_refl 0, Int.le_refl 0, rfl, by show (0 : Int) ≤ 200000; decide⟩
  · have p := ns_parts hv h1 h2 (xs.length - 1) (by omega)
    have q := ns_none hv (a := a) (xs.length - 1) (by omega)
    have r := nsS_le hv (a := a) (b := b) (xs.length - 1) (by omega)
    exact ⟨c1, c2, c3, nsS_pos _ _ _ _, nsS_pos _ _ _ _, p, q, by omega⟩
end Go.Proofs.YtfgmikgghpflbaaGreatDoor

namespace Go.Proofs.YtfgmikgghpflbaaGreatDoor
open Go.RowKit
set_option linter.unusedVariables false

theorem nsV_bad {xs : List DObserved} {a b : Int} (hc : ¬ nsC xs a b = 0) : nsV xs a b = 0 := by unfold nsV; rw [if_neg hc]
set_option maxRecDepth 100000 in
set_option maxHeartbeats 1000000 in
theorem specValidObs_any (v : Value) (xs : List DObserved) (fp : List Nat) (w : World) (hx : Sl fObserved.cod w v xs fp) :
    Calls Tryz.prog 37 #[v] w fun e w' => e = .returned (.bool (obssB xs)) ∧ Below w.heap.size w w' := by
  go_enter Tryz.func37, Tryz.ntmps37
  go_wp2_with fail
  refine (l04Ok_any _ xs fp _ hx).mono ?_
  rintro e w1 ⟨rfl, hb⟩
  go_wp2
  go_ret
  exact ⟨rfl, hb⟩
set_option maxRecDepth 100000 in
set_option maxHeartbeats 8000000 in
theorem walkStations (v0 : Value) (xs0 : List UInt8) (fp0 : List Nat) (v1 : Value) (xs1 : List UInt8) (fp1 : List Nat) (w : World) (hx0 : Sl fByte.cod w v0 xs0 fp0) (hx1 : Sl fByte.cod w v1 xs1 fp1) (hsh : w.ShapedOpen Tryz.prog) (hrd : RdTabs w) :
    Calls Tryz.prog 5 #[v0, v1] w fun e w' => YesR w e w' := by
  obtain ⟨mx, hm⟩ := maxLen_cell hsh
  clear hsh
  go_enter Tryz.func5, Tryz.ntmps5
  go_wp2_with fail
  refine (b10Long_any _ _ _ _ hx0).mono ?_
  rintro e w' ⟨rfl, rfl⟩
  cases hl0 : decide (1048576 < xs0.length)
  case true =>
    go_wp2
    go_ret
    exact ⟨rfl, Below.refl _ _⟩
  clear hl0
  go_wp2_with fail
  refine (b10Long_any _ _ _ _ hx1).mono ?_
  rintro e w' ⟨rfl, rfl⟩
  cases hl1 : decide (1048576 < xs1.length)
  case true =>
    go_wp2
    go_ret
    exact ⟨rfl, Below.refl _ _⟩
  clear hl1
  go_wp2_with fail
  refine (DrawAddObserved_any _ _ _ _ hx0).mono ?_
  rintro e w1 ⟨y0, ys, x, fq, rfl, hys, hsmy, hyl, hsm, hb1⟩
  have hokx := hsm.ok
  obtain ⟨A0, k0, rfl, _, _⟩ := hys.form
  have hAl : Below w1.heap.size w1 (w1.alloc (.cells #[.int .i64 x.hour, .int .i64 x.snow, .int .i64 x.degrees, .int .i64 x.wind] 66)) := (Below.refl _ _).alloc (Nat.le_refl _) _
  have hp2 := PObserved.box w1 x 66
  unfold agObserved
  go_wp2_with fail
  refine (addObserved_any _ ys fq x _ (hys.below' hAl) hokx).mono ?_
  rintro e w2 ⟨vn, rfl, ⟨⟨fl, hsl, _, _⟩, hbN⟩⟩
  replace hp2 := hp2.below' hbN
  replace hbN : Below w1.heap.size w1 w2 := hAl.trans (hbN.mono (by simp))
  have hB2 := hb1.trans (hbN.mono hb1.size)
  replace hx1 := hx1.below' hB2
  replace hx0 := hx0.below' hB2
  replace hrd := hrd.below hB2
  replace hm := cell_below hB2 hm
  obtain ⟨A1, k1, rfl, _, _⟩ := hsl.form
  clear hAl hbN hb1 hys hsmy
  generalize w1.heap.size = bx at *
  go_upto_if 47 with fail
  go_cut [8, 9, 10, 11, 12, 13, 14, 15, 16] from 29 (fun _ _ _ _ _ _ _ _ _ wx => Below w2.heap.size w2 wx)
  case first =>
    by_cases hc : addObservedC ys x = 0
    rotate_left
    · have e1 : (addObservedC ys x == 0) = false := by rw [beq_eq_false_iff_ne]; exact hc
      generalize addObservedC ys x = cc at *
      clear hc
      go_wp2
      go_meet
      case rel => exact Below.refl _ _
    obtain ⟨hvn, hlen, k, hk, hkx⟩ := add_valid hc
    obtain ⟨_, hox, _, _⟩ := addObserved_ok hc
    rw [hc]
    clear hc
    have hlen48 := obssB_len hvn
    have HLEN := Lib.hid hlen
    clear hlen
    have hat := sa_at hvn hk
    rw [hkx] at hat
    clear hkx hk
    generalize addObservedF ys x = L at *
    obtain ⟨c0, c1, c2, c3⟩ := id hp2
    go_wp2_with fail
    refine (SnowAt_any _ L fl x.hour _ hsl).mono ?_
    rintro e w3 ⟨rfl, hb3⟩
    rw [hat.1, hat.2]
    replace hp2 := hp2.below' hb3
    replace hrd := hrd.below hb3
    replace hm := cell_below hb3 hm
    clear c0 c1 c2 c3 hat
    obtain ⟨c0, c1, c2, c3⟩ := id hp2
    go_wp2_with fail
    refine (ObservedText_any x _ hox hokx hrd.tab).mono ?_
    rintro e w4 ⟨rfl, hb4⟩
    replace hp2 := hp2.below' hb4
    replace hrd := hrd.below hb4
    replace hm := cell_below hb4 hm
    have hbx := hb3.trans (hb4.mono hb3.size)
    clear c0 c1 c2 c3 hb3 hb4
    go_wp2_with fail
    refine (ReadObserved_of x _ hox hokx mx hm hrd).mono ?_
    rintro e w5 ⟨rfl, hb5⟩
    replace hp2 := hp2.below' hb5
    replace hbx := hbx.trans (hb5.mono hbx.size)
    have hbx9 : Below w2.heap.size w2 (w5.alloc (.cells #[.int .i64 x.hour, .int .i64 x.snow, .int .i64 x.degrees, .int .i64 x.wind] 66)) := hbx.alloc hbx.size _
    have hp9 := hp2.below' ((Below.refl _ _).alloc (Nat.le_refl _) (.cells #[.int .i64 x.hour, .int .i64 x.snow, .int .i64 x.degrees, .int .i64 x.wind] 66))
    have hbl := hp2.lt
    have hq9 := PObserved.box w5 x 66
    clear hb5 hm hrd hox hokx hsm hp2 hbx
    unfold agObserved
    go_wp2_with fail
    refine (specValidObs_any _ L fl _ (hsl.below' hbx9)).mono ?_
    rintro e w6 ⟨rfl, hb6⟩
    rw [hvn]
    have hB6 := hbx9.trans (hb6.mono hbx9.size)
    obtain ⟨c0, c1, c2, c3⟩ := hp9.below' hb6
    obtain ⟨d0, d1, d2, d3⟩ := hq9.below' hb6
    have elen : ((L.length : Int) != (ys.length : Int) + 1) = false := by rw [HLEN.out]; simp
    clear hp9 hq9 hb6 hbx9
    go_wp2
    go_loopw [13] (fun i wr => ∃ k : Nat, k ≤ L.length ∧ i = .int .i64 ((k : Int) + 1) ∧ Below w2.heap.size w2 wr) (fun i _ => L.length + 1 - (intOf i).toNat)
    case atStart => exact ⟨0, Nat.zero_le _, rfl, hB6⟩
    case round =>
      clear c0 c1 c2 c3 d0 d1 d2 d3 elen
      obtain ⟨i, hi, rfl, hb⟩ := hrel
      by_cases hlt : i + 1 < L.length
      · have hlt' : (i : Int) + 1 < (L.length : Int) := by omega
        obtain ⟨bb, off, rfl, hmem, _, hq⟩ := PObserved.elem hsl hlt
        obtain ⟨b', off', hA, _, _, hq'⟩ := PObserved.elem hsl (show i < L.length by omega)
        injection hA with hA
        injection hA with hA1 hA2 _
        subst hA1 hA2
        have hp := hq.below hb (hsl.lt _ hmem)
        have hp' := hq'.below hb (hsl.lt _ hmem)
        have hlo := obss_lt hvn (i + 1) i hlt (by omega)
        obtain ⟨ph, ps, _, _⟩ := obsB_parts (obssB_one hvn (show i < L.length by omega))
        obtain ⟨ph1, ps1, _, _⟩ := obsB_parts (obssB_one hvn hlt)
        obtain ⟨mid, hmid⟩ : ∃ mid, (L[i].hour + L[i + 1].hour) / 2 = mid := ⟨_, rfl⟩
        obtain ⟨hm0, hm1, hm2⟩ := sa_mid hvn hlt (h := mid) (by omega) (by omega)
        obtain ⟨c0, c1, c2, c3⟩ := id hp'
        obtain ⟨d0, d1, d2, d3⟩ := id hp
        generalize L[i + 1] = y at *
        generalize L[i] = x at *
        have hmb : 0 ≤ mid ∧ mid ≤ 100000 := by omega
        go_wp2
        have gc0 := cell_regrown c0
        have gc1 := cell_regrown c1
        have gc2 := cell_regrown c2
        have gc3 := cell_regrown c3
        have gd0 := cell_regrown d0
        have gd1 := cell_regrown d1
        have gd2 := cell_regrown d2
        have gd3 := cell_regrown d3
        refine wp_region_mix (C := fun w' => ∃ p : Regrown, w' = Go.Sort.grow (redrawn wr p.d) p.os) [true, true, true, true, true, true, true, true, true, true, true, true, true, true] (by kernel_rfl) (by kernel_rfl) (by kernel_rfl) (fun _ _ d _ _ h => by cases d <;> exact h) (regrown_of_below (Below.drew (Below.refl _ _))) ?_
        have hS0 : Below (wr.heap.size) wr wr.drew := Below.drew (Below.refl _ _)
        refine wpMix_pure (by kernel_rfl) (fun K hK => ?_); go_big_quiet_op; refine hK _ ?_; clear hK K
        refine wpMix_pure (by kernel_rfl) (fun K hK => ?_); go_big_quiet_op; refine hK _ ?_; clear hK K
        refine wpMix_pure (by kernel_rfl) (fun K hK => ?_); go_big_quiet_op; refine hK _ ?_; clear hK K
        refine wpMix_pure (by kernel_rfl) (fun K hK => ?_); go_big_quiet_op; refine hK _ ?_; clear hK K
        refine wpMix_pure (by kernel_rfl) (fun K hK => ?_); go_big_quiet_op; refine hK _ ?_; clear hK K
        refine wpMix_pure (by kernel_rfl) (fun K hK => ?_); go_big_quiet_op; refine hK _ ?_; clear hK K
        refine wpMix_pure (by kernel_rfl) (fun K hK => ?_); go_big_quiet_op; refine hK _ ?_; clear hK K
        refine wpMix_pure (by kernel_rfl) (fun K hK => ?_); go_big_quiet_op; refine hK _ ?_; clear hK K
        refine wpMix_pure (by kernel_rfl) (fun K hK => ?_); go_big_quiet_op; refine hK _ ?_; clear hK K
        refine wpMix_pure (by kernel_rfl) (fun K hK => ?_); go_big_quiet_op; refine hK _ ?_; clear hK K
        refine wpMix_pure (by kernel_rfl) (fun K hK => ?_); go_big_quiet_op; refine hK _ ?_; clear hK K
        refine wpMix_pure (by kernel_rfl) (fun K hK => ?_); go_big_quiet_op; refine hK _ ?_; clear hK K
        refine wpMix_pure (by kernel_rfl) (fun K hK => ?_); go_big_quiet_op; refine hK _ ?_; clear hK K
        refine wpMix_pure (by kernel_rfl) (fun K hK => ?_); go_big_quiet_op; refine hK _ ?_; clear hK K
        refine wpMix_nil ?_
        have hb2 := hb.trans (hS0.mono hb.size)
        clear hS0 gc0 gc1 gc2 gc3 gd0 gd1 gd2 gd3 c0 c1 c2 c3 d0 d1 d2 d3 hp hp'
        generalize wr.drew = wd at *
        go_wp2_with fail
        refine (SnowAt_any _ L fl mid _ (hsl.below' hb2)).mono ?_
        rintro e w7 ⟨rfl, hb7⟩
        rw [hm0]
        have hb4 := hb2.trans (hb7.mono hb2.size)
        obtain ⟨c0, c1, c2, c3⟩ := hq'.below (hb4) (hsl.lt _ hmem)
        obtain ⟨d0, d1, d2, d3⟩ := hq.below (hb4) (hsl.lt _ hmem)
        generalize saF L mid = sm at *
        clear hm0
        go_wp2
        have gc0 := cell_regrown c0
        have gc1 := cell_regrown c1
        have gc2 := cell_regrown c2
        have gc3 := cell_regrown c3
        have gd0 := cell_regrown d0
        have gd1 := cell_regrown d1
        have gd2 := cell_regrown d2
        have gd3 := cell_regrown d3
        refine wp_region_mix (C := fun w' => ∃ p : Regrown, w' = Go.Sort.grow (redrawn w7 p.d) p.os) [true, true, true, true, true, true, true, true, true, true, true, true, true, true, true, true, true, true, true, true, true, true, true, true, true, true, true, true, true, true, true, true, true, true] (by kernel_rfl) (by kernel_rfl) (by kernel_rfl) (fun _ _ d _ _ h => by cases d <;> exact h) (regrown_of_below (Below.drew (Below.refl _ _))) ?_
        have hS0 : Below (w7.heap.size) w7 w7.drew := Below.drew (Below.refl _ _)
        refine wpMix_pure (by kernel_rfl) (fun K hK => ?_); go_big_quiet_op; refine hK _ ?_; clear hK K
        refine wpMix_pure (by kernel_rfl) (fun K hK => ?_); go_big_quiet_op; refine hK _ ?_; clear hK K
        refine wpMix_pure (by kernel_rfl) (fun K hK => ?_); go_big_quiet_op; refine hK _ ?_; clear hK K
        refine wpMix_pure (by kernel_rfl) (fun K hK => ?_); go_big_quiet_op; refine hK _ ?_; clear hK K
        refine wpMix_pure (by kernel_rfl) (fun K hK => ?_); go_big_quiet_op; refine hK _ ?_; clear hK K
        refine wpMix_pure (by kernel_rfl) (fun K hK => ?_); go_big_quiet_op; refine hK _ ?_; clear hK K
        refine wpMix_pure (by kernel_rfl) (fun K hK => ?_); go_big_quiet_op; refine hK _ ?_; clear hK K
        refine wpMix_pure (by kernel_rfl) (fun K hK => ?_); go_big_quiet_op; refine hK _ ?_; clear hK K
        refine wpMix_pure (by kernel_rfl) (fun K hK => ?_); go_big_quiet_op; refine hK _ ?_; clear hK K
        refine wpMix_pure (by kernel_rfl) (fun K hK => ?_); go_big_quiet_op; refine hK _ ?_; clear hK K
        refine wpMix_pure (by kernel_rfl) (fun K hK => ?_); go_big_quiet_op; refine hK _ ?_; clear hK K
        refine wpMix_pure (by kernel_rfl) (fun K hK => ?_); go_big_quiet_op; refine hK _ ?_; clear hK K
        refine wpMix_pure (by kernel_rfl) (fun K hK => ?_); go_big_quiet_op; refine hK _ ?_; clear hK K
        refine wpMix_pure (by kernel_rfl) (fun K hK => ?_); go_big_quiet_op; refine hK _ ?_; clear hK K
        refine wpMix_pure (by kernel_rfl) (fun K hK => ?_); go_big_quiet_op; refine hK _ ?_; clear hK K
        refine wpMix_pure (by kernel_rfl) (fun K hK => ?_); go_big_quiet_op; refine hK _ ?_; clear hK K
        have q1 : ¬ sm < min x.snow y.snow := by omega
        refine wpMix_pure (by kernel_rfl) (fun K hK => ?_); go_big_quiet_op; refine hK _ ?_; clear hK K
        refine wpMix_pure (by kernel_rfl) (fun K hK => ?_); go_big_quiet_op; refine hK _ ?_; clear hK K
        refine wpMix_pure (by kernel_rfl) (fun K hK => ?_); go_big_quiet_op; refine hK _ ?_; clear hK K
        refine wpMix_pure (by kernel_rfl) (fun K hK => ?_); go_big_quiet_op; refine hK _ ?_; clear hK K
        refine wpMix_pure (by kernel_rfl) (fun K hK => ?_); go_big_quiet_op; refine hK _ ?_; clear hK K
        refine wpMix_pure (by kernel_rfl) (fun K hK => ?_); go_big_quiet_op; refine hK _ ?_; clear hK K
        refine wpMix_pure (by kernel_rfl) (fun K hK => ?_); go_big_quiet_op; refine hK _ ?_; clear hK K
        refine wpMix_pure (by kernel_rfl) (fun K hK => ?_); go_big_quiet_op; refine hK _ ?_; clear hK K
        refine wpMix_pure (by kernel_rfl) (fun K hK => ?_); go_big_quiet_op; refine hK _ ?_; clear hK K
        refine wpMix_pure (by kernel_rfl) (fun K hK => ?_); go_big_quiet_op; refine hK _ ?_; clear hK K
        refine wpMix_pure (by kernel_rfl) (fun K hK => ?_); go_big_quiet_op; refine hK _ ?_; clear hK K
        refine wpMix_pure (by kernel_rfl) (fun K hK => ?_); go_big_quiet_op; refine hK _ ?_; clear hK K
        refine wpMix_pure (by kernel_rfl) (fun K hK => ?_); go_big_quiet_op; refine hK _ ?_; clear hK K
        refine wpMix_pure (by kernel_rfl) (fun K hK => ?_); go_big_quiet_op; refine hK _ ?_; clear hK K
        refine wpMix_pure (by kernel_rfl) (fun K hK => ?_); go_big_quiet_op; refine hK _ ?_; clear hK K
        refine wpMix_pure (by kernel_rfl) (fun K hK => ?_); go_big_quiet_op; refine hK _ ?_; clear hK K
        have q2 : ¬ sm > max x.snow y.snow := by omega
        refine wpMix_pure (by kernel_rfl) (fun K hK => ?_); go_big_quiet_op; refine hK _ ?_; clear hK K
        refine wpMix_pure (by kernel_rfl) (fun K hK => ?_); go_big_quiet_op; refine hK _ ?_; clear hK K
        refine wpMix_nil ?_
        go_wp2
        go_roundw
        case rel => exact ⟨i + 1, by omega, by go_num, hb4.trans (hS0.mono hb4.size)⟩
        case measure => simp [intOf]; omega
      · have hlt' : ¬ (i : Int) + 1 < (L.length : Int) := by omega
        go_wp2
        go_meet
        case rel => exact hb
  case rest =>
    have hB3 := hB2.trans (hcut.mono hB2.size)
    replace hx1 := hx1.below' hcut
    replace hx0 := hx0.below' hcut
    clear hcut hB2 hp2 hrd hm hokx hsm hsl
    go_wp2_with fail
    refine (DrawNewSnow_any _ _ _ _ hx1).mono ?_
    rintro e w4 ⟨yv, xs, a, b, fs, rfl, hxs, hsm, hxl, ha, hb, hb4⟩
    obtain ⟨A, cap, rfl, _, _⟩ := hxs.form
    have hB4 := hB3.trans (hb4.mono hB3.size)
    replace hx0 := hx0.below' hb4
    clear hx1 hB3 hb4
    go_wp2_with fail
    refine (NewSnow_any _ xs fs a b _ hxs).mono ?_
    rintro e w5 ⟨rfl, hb5⟩
    replace hxs := hxs.below' hb5
    replace hx0 := hx0.below' hb5
    have hB5 := hB4.trans (hb5.mono hB4.size)
    clear hB4 hb5
    by_cases hc : nsC xs a b = 0
    rotate_left
    · have hF := nsV_bad hc
      rw [hF]
      have e1 : (nsC xs a b != 0) = true := by simp [hc]
      generalize nsC xs a b = mc at *
      clear hc hF
      go_wp2
      go_ret
      exact ⟨rfl, hB5⟩
    have hab := (ns_zero hc).2.1
    rw [hc]
    have hn1 : -2000000000 ≤ b - a + 1 ∧ b - a + 1 ≤ 2000000000 := by omega
    have hn2 : -2000000000 ≤ b - a ∧ b - a ≤ 2000000000 := by omega
    go_wp2_with fail
    refine (b10At0_any _ xs0 fp0 _ _ hx0 (by omega)).mono ?_
    rintro e w' ⟨rfl, rfl⟩
    have hin := atB10_in (xs := xs0) (i := 0) (n := b - a + 1) (by omega)
    generalize atB10 xs0 0 (b - a + 1) = t at *
    obtain ⟨n1, n2, n3, n4, n5, n6, n7, n8⟩ := ns_law (m := a + t) hc (by omega) (by omega)
    clear hc
    have hat2 : -2000000000 ≤ a + t ∧ a + t ≤ 2000000000 := by omega
    go_wp2_with fail
    refine (NewSnow_any _ xs fs a _ _ hxs).mono ?_
    rintro e w6 ⟨rfl, hb6⟩
    rw [n1]
    replace hxs := hxs.below' hb6
    have hB6 := hB5.trans (hb6.mono hB5.size)
    clear hB5 hb6
    go_wp2_with fail
    refine (NewSnow_any _ xs fs _ b _ hxs).mono ?_
    rintro e w7 ⟨rfl, hb7⟩
    rw [n2]
    replace hxs := hxs.below' hb7
    have hB7 := hB6.trans (hb7.mono hB6.size)
    clear hB6 hb7
    go_wp2_with fail
    refine (NewSnow_any _ xs fs a a _ hxs).mono ?_
    rintro e w8 ⟨rfl, hb8⟩
    rw [n3, n7]
    have hB8 := hB7.trans (hb8.mono hB7.size)
    generalize nsV xs a b = A0 at *
    generalize nsV xs a (a + t) = A1 at *
    generalize nsV xs (a + t) b = A2 at *
    clear n1 n2 n3 n7 hB7 hb8
    go_wp2
    go_ret
    exact ⟨rfl, hB8⟩
end Go.Proofs.YtfgmikgghpflbaaGreatDoor

namespace Go.Proofs.YtfgmikgghpflbaaGreatDoor
open Go.RowKit Go.WideShapes Go.ChangeShapes Go.ChangeAt

set_option maxRecDepth 100000 in
theorem law_liftedL {F : FuncId} {fn : Func} {s : ChangeSpec} (laid : List (String × DataW Unit)) (os : Os) (started : os.Started) (H : Type) (enc : TypeId × Value → H)
    (hfn : Tryz.checked.prog.funcs[F]? = some fn) (noInit : Tryz.checked.prog.inits.idxOf? F = none)
    (witness : ∃ (w : World) (tape : Tape) (i : Input), w.os = os ∧ (w.forCall tape i).Shaped Tryz.checked.prog ∧ i.vars = [] ∧ Input.okWide Tryz.checked.prog (w.forCall tape i) .any w.heap.size F i ∧
      ((s.pre enc Tryz.checked.prog fn [] false (w.forCall tape i).memory i.args ∧ laidMetH Tryz.checked.prog laid (w.forCall tape i).memory) ∧ sizedMet enc Tryz.checked.prog fn (OpenSpec.ofChange s) false (w.forCall tape i).memory i.args) ∧ ({} : Assume).holds Tryz.checked.prog (lone (Frame.enter Tryz.checked.prog F i.args .normal) [] (w.forCall tape i)))
    (hs : s.vars = []) (hres : fn.resultTypes = #[4]) (hread : ∀ t ∈ fn.params.toList, Tryz.prog.readableRec t = true ∧ t < Tryz.prog.types.size)
    (hspec : ∀ ds : List (DataW H), ds.length = fn.params.toList.length → s.fn H ds = { results := [.lit (.bool true)], args := ds })
    (walk : ∀ (W : World) (args : Array Value) (ds : List (DataW H)) (p : List MemPlace), W.ShapedOpen Tryz.prog → laidMetH Tryz.prog laid W → (∀ (j : Nat) t v, fn.params[j]? = some t → args[j]? = some v → ∃ base, Value.okWide Tryz.prog W .any base t v) →
      DataW.TrodAll enc Tryz.prog W 0 (fun _ => true) true fn.params.toList args.toList ds p → W.noneFrozen p → Calls Tryz.prog F args W fun e W' => e = .returned (.bool true) ∧ Below W.heap.size W W') :
    ReturnsInHanded {} Tryz.checked os F .any (fun w args => (s.pre enc Tryz.checked.prog fn [] false w args ∧ laidMetH Tryz.checked.prog laid w) ∧ sizedMet enc Tryz.checked.prog fn (OpenSpec.ofChange s) false w args) (s.post enc Tryz.checked.prog fn false true false false) := by
  refine returnsInHanded_of_calls (C := Tryz.checked) Tryz.own started noInit witness ?_
  intro w tape i _ hsh _ hok hpre hholds
  obtain ⟨_, _, _, fn', hfn', _, _, _, _, hval⟩ := hok
  have e : fn' = fn := Option.some.inj (hfn'.symm.trans hfn)
  subst e
  obtain ⟨⟨⟨ds, gs, before, hw, hc⟩, hx⟩, hz⟩ := hpre
  have hW := DataW.Whole.of_heap (w' := w.forCall tape i) (by rfl) hw
  have hX : laidMetH Tryz.prog laid (w.forCall tape i) := laidMetH.of_heap (by rfl) hx
  generalize w.forCall tape i = W at *
  have hW' := hW
  obtain ⟨p, q, hA, hV, hpq, hfz, hnd⟩ := hW
  rw [hs] at hV
  obtain ⟨rfl, rfl⟩ := trodVars_none hV
  rw [List.append_nil] at hpq
  subst hpq
  refine (walk W i.args ds _ hsh hX (fun j t v h1 h2 => ⟨w.heap.size, hval j t v h1 h2⟩) hA hfz).mono fun e W' ⟨he, hb⟩ => ?_
  subst he
  have hsp : s.fn H (ds ++ []) = { results := [.lit (.bool true)], args := ds } := by
    rw [List.append_nil]; exact hspec ds (trodAll_len _ _ _ _ hA)
  have hlt := fun x hx => hW'.lt x hx
  refine ChangeSpec.post_blind (W := W) ?_
  refine post_of_below (pa := before) (pv := []) hW' (fun b sp hd => ?_) (fun sp h => ?_) (fun sp h => ?_) (by simp) hb ?_
  · rw [hsp, hres]; exact trodAll_mk1 (shut_bool Tryz.underlying4 _)
  · rw [hsp]; exact trodAll_below Tryz.laidOut hb _ _ _ _ hread hA hlt h
  · rw [hsp, hs]; rfl
  · rw [hres]; exact fun j t r h1 h2 => ok_one (f := fn') hres rfl (okWide_bool_mk Tryz.underlying4 _) j t r (by rw [hres]; exact h1) (by rw [hres]; exact h2)
end Go.Proofs.YtfgmikgghpflbaaGreatDoor

namespace Go.Proofs.YtfgmikgghpflbaaGreatDoor
noncomputable def doorWorld (os : Os) : World := (World.doorLaid Tryz.prog 72 os).setRow 2 (Go.Pinned.utf8FirstZ.map (fun z : Nat => Value.int .u8 (z : Int))).toArray
end Go.Proofs.YtfgmikgghpflbaaGreatDoor

namespace Go.Proofs.YtfgmikgghpflbaaGreatDoor
open Go.RowKit Go.WideShapes Go.ChangeShapes Go.ChangeAt Go.Deep

/-- Whatever the form's reader reads at type t reads by E. -/
def Opens {α : Type} (t : TypeId) (E : Cod α) : Prop :=
  ∀ {H : Type} {enc : TypeId × Value → H} {w : World} {n : Nat} {cs : List Value} {x : DataW H × List MemPlace},
    DataW.trod enc Tryz.prog w 0 (fun _ => true) true n t cs = some x → w.noneFrozen x.2 → ∃ y fp, E.rd w cs y fp

theorem opens_int {t : TypeId} (ht : Tryz.prog.underlying t = some (.int .i64)) : Opens t fInt.cod := by
  intro H enc w n cs x h _
  obtain ⟨k, rfl, rfl, wk⟩ := DataW.trod_int ht h
  refine ⟨k, [], rfl, ?_, rfl⟩
  exact bounds_i64 wk
theorem opens_str {t : TypeId} (ht : Tryz.prog.underlying t = some .string) : Opens t fStr.cod := by
  intro H enc w n cs x h _
  obtain ⟨s, rfl, rfl, hs⟩ := DataW.trod_string ht h
  exact ⟨s, [], rfl, by unfold maxLen at hs; exact hs, rfl⟩
theorem opens_bool {t : TypeId} (ht : Tryz.prog.underlying t = some .bool) : Opens t fBool.cod := by
  intro H enc w n cs x h _
  obtain ⟨s, rfl, rfl⟩ := DataW.trod_bool ht h
  exact ⟨s, [], rfl, trivial, rfl⟩

theorem add_none (b off x y : Nat) : ((⟨b, off, none⟩ : Addr).add x).add y = ⟨b, off + x + y, none⟩ := by
  unfold Addr.add
  by_cases hx : x = 0 <;> by_cases hy : y = 0 <;> simp [hx, hy]

theorem opens_slice {α : Type} {E : Cod α} {t e : TypeId} (ht : Tryz.prog.underlying t = some (.slice e)) (hn : Tryz.prog.cellsOf e = E.n) (he : Opens e E) : Opens t E.slice := by
  intro H enc w n cs x h hfz
  rcases open_slice ht h with ⟨rfl, rfl⟩ | ⟨a, len, cap, m, n', D, Pl, rfl, hb, hl, hm, hmm, hx, hi⟩
  · exact ⟨[], [], _, rfl, none, 0, rfl, by simp, by simp [maxLen], .inl ⟨rfl, rfl⟩⟩
  · simp only [if_true] at hmm
    subst hmm
    rcases Nat.eq_zero_or_pos len with h0 | h0
    · subst h0
      exact ⟨[], [], _, rfl, some a, m, rfl, by simp, hm, .inl ⟨rfl, rfl⟩⟩
    · rw [hn] at hi
      have hspot : a = ⟨a.block, a.off, none⟩ := by
        obtain ⟨cs', hc, _⟩ := hi 0 (by omega)
        obtain ⟨_, hcl, hat⟩ := World.cells?_some hc
        have h1 := hat 0 E.pos
        have hps := E.pos
        rw [List.getElem?_eq_getElem (by omega)] at h1
        have h2 : w.cell? a = some cs'[0] := by simpa [Addr.add] using h1
        have := World.cell?_spot h2
        cases a; simp_all
      have hel : ∀ i : Fin len, ∃ p : α × List Nat × List Value, (∀ j, j < E.n → w.cell? ⟨a.block, a.off + i.1 * E.n + j, none⟩ = p.2.2[j]?) ∧ (∀ j, j < E.n → w.frozen? ⟨a.block, a.off + i.1 * E.n + j, none⟩ = false) ∧ E.rd w p.2.2 p.1 p.2.1 := by
        intro ⟨i, hil⟩
        obtain ⟨cs', hc, htr⟩ := hi i (by omega)
        obtain ⟨_, hcl, hat⟩ := World.cells?_some hc
        have hsub : ∀ pl ∈ Pl i, pl ∈ x.2 := by
          intro pl hpl
          rw [hx]
          exact List.mem_append_right _ (List.mem_flatMap.2 ⟨i, by simp; omega, hpl⟩)
        obtain ⟨y, fp, hy⟩ := he htr (fun b off hmem => hfz b off (hsub _ hmem))
        refine ⟨⟨y, fp, cs'⟩, fun j hj => ?_, fun j hj => ?_, hy⟩
        · have := hat j hj
          rw [hspot, add_none] at this
          exact this
        · refine hfz _ _ ?_
          rw [hx]
          refine List.mem_append_left _ ?_
          unfold MemPlace.row
          refine List.mem_map.2 ⟨i * E.n + j, ?_, by rw [Nat.add_assoc]⟩
          rw [List.mem_range, hn]
          have : (i + 1) * E.n ≤ m * E.n := Nat.mul_le_mul_right _ (by omega)
          rw [Nat.succ_mul] at this
          omega
      obtain ⟨f, hf⟩ := Classical.axiomOfChoice hel
      have hblk : a.block < w.heap.size := by
        obtain ⟨h1, _, h3⟩ := hf ⟨0, h0⟩
        have h1 := h1 0 E.pos
        have h4 := E.len h3
        have hps := E.pos
        rw [List.getElem?_eq_getElem (by omega)] at h1
        exact block_lt_of_cell (a := ⟨a.block, _, none⟩) h1
      refine ⟨List.ofFn fun i => (f i).1, a.block :: (List.range len).flatMap fun i => if h : i < len then (f ⟨i, h⟩).2.1 else [], _, rfl, some a, m, by simp, by simpa using hl, hm,
        .inr ⟨a.block, a.off, _, by rw [← hspot], hblk, by rw [List.length_ofFn], fun i hil => ?_⟩⟩
      rw [List.length_ofFn] at hil
      obtain ⟨h1, h2, h3⟩ := hf ⟨i, hil⟩
      refine ⟨(f ⟨i, hil⟩).2.2, h1, h2, ?_⟩
      simpa [hil] using h3

/-- A struct of fields of one cell each. -/
theorem opens_fields {t : TypeId} {fs : Array Field} (ht : Tryz.prog.underlying t = some (.struct fs)) (hone : oneCellFields Tryz.prog fs = true) (hC : Tryz.prog.cellsOf t = fs.size)
    {H : Type} {enc : TypeId × Value → H} {w : World} {n : Nat} {cs : List Value} {x : DataW H × List MemPlace} (h : DataW.trod enc Tryz.prog w 0 (fun _ => true) true n t cs = some x) (hfz : w.noneFrozen x.2) :
    cs.length = fs.size ∧ ∀ (j : Nat) (f : Field), fs[j]? = some f → ∃ (v : Value) (m : Nat) (y : DataW H × List MemPlace), cs[j]? = some v ∧ DataW.trod enc Tryz.prog w 0 (fun _ => true) true m f.type [v] = some y ∧ w.noneFrozen y.2 := by
  obtain ⟨xs, n', rfl, hx, hl, hxl, hf⟩ := DataW.trod_struct ht h
  refine ⟨hl.trans hC, fun j f hj => ?_⟩
  have hjl : j < fs.size := (Array.getElem?_eq_some_iff.1 hj).1
  obtain ⟨ho, hk⟩ := hone_of hone j f hj
  have h1 := hf j f hj
  rw [ho, hk] at h1
  have hcl : j < cs.length := by rw [hl, hC]; exact hjl
  have e1 : (cs.drop j).take 1 = [cs[j]] := by
    rw [List.drop_eq_getElem_cons hcl]; rfl
  rw [e1, List.getElem?_eq_getElem (by omega)] at h1
  refine ⟨cs[j], n', xs[j], List.getElem?_eq_getElem hcl, h1, fun b off hm => hfz b off ?_⟩
  rw [hx]
  exact List.mem_flatMap.2 ⟨xs[j], List.getElem_mem _, hm⟩

/-- An argument that came in: its value reads. -/
theorem Opens.arg {α : Type} {t : TypeId} {E : Cod α} (ho : Opens t E) {H : Type} {enc : TypeId × Value → H} {w : World} {v : Value} {d : DataW H} {ps : List MemPlace}
    (h : DataW.Trod enc Tryz.prog w 0 (fun _ => true) true t v d ps) (hfz : w.noneFrozen ps) : ∃ y fp, E.rd w v.cells.toList y fp := by
  obtain ⟨n, hn⟩ := h
  exact ho hn hfz
theorem Opens.sl {α : Type} {t : TypeId} {E : Cod α} (ho : Opens t E.slice) {H : Type} {enc : TypeId × Value → H} {w : World} {v : Value} {d : DataW H} {ps : List MemPlace}
    (h : DataW.Trod enc Tryz.prog w 0 (fun _ => true) true t v d ps) (hfz : w.noneFrozen ps) {A : Option Addr} {len cap : Nat} (hv : v = .slice A len cap) : ∃ y fp, Sl E w v y fp := by
  obtain ⟨y, fp, u, hu, hs⟩ := ho.arg h hfz
  subst hv
  simp [Value.cells] at hu
  subst hu
  exact ⟨y, fp, hs⟩

end Go.Proofs.YtfgmikgghpflbaaGreatDoor

namespace Go.Proofs.YtfgmikgghpflbaaGreatDoor
open Go.RowKit Go.WideShapes Go.ChangeShapes Go.ChangeAt Go.Deep

set_option maxRecDepth 100000 in
set_option maxHeartbeats 400000 in
theorem opens_byte {t : TypeId} (ht : Tryz.prog.underlying t = some (.int .u8)) : Opens t fByte.cod := by
  intro H enc w n cs x h _
  obtain ⟨k, rfl, rfl, wk⟩ := DataW.trod_int ht h
  have hk : 0 ≤ k ∧ k ≤ 255 := by
    have h1 : IntKind.u8.min = 0 := by decide
    have h2 : IntKind.u8.max = 255 := by decide
    have := wk
    simp [Lit.wf, h1, h2] at this
    omega
  refine ⟨UInt8.ofNat k.toNat, [], ?_, trivial, rfl⟩
  show _ = [Value.int .u8 _]
  rw [UInt8.toNat_ofNat']
  congr 2
  omega
end Go.Proofs.YtfgmikgghpflbaaGreatDoor
