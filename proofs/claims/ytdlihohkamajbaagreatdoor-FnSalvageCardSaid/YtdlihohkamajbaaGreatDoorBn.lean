/- Contracts: the binary search over blocks, BlockNamed. Written by wip/gen/bn.py. -/
import Derived.Test.YtdlihohkamajbaaGreatDoorBv
import Derived.Test.YtdlihohkamajbaaGreatDoorBp
namespace Go.Proofs.YtdlihohkamajbaaGreatDoor
open Go.RowKit
set_option linter.unusedVariables false

theorem before_later {xs : List DBlock} (h : Ordered xs) {t : DBlock} {a b : Nat} (hab : a ≤ b) (hb : b < xs.length) (h0 : beforeB (xs[a]'(by omega)) t = false) : beforeB xs[b] t = false := by
  rcases Nat.lt_or_eq_of_le hab with h1 | rfl
  · cases hh : beforeB xs[b] t with
    | false => rfl
    | true => rw [beforeB_trans (h.lt' h1 hb) hh] at h0; cases h0
  · exact h0
set_option maxRecDepth 100000 in
set_option maxHeartbeats 4000000 in
theorem bsearch_any (v : Value) (xs : List DBlock) (fp : List Nat) (t : DBlock) (w : World) (hx : Sl fBlock.cod w v xs fp) (hor : Ordered xs) (hl : xs.length ≤ 1000000) :
    Calls Tryz.prog 78 #[v, .agg #[.string t.kind, .string t.name, .string t.text], .func (.func 55) #[] #[]] w fun e w' => e = .returned (.tuple #[.int .i64 (atB xs t), .bool (hasKey xs t)]) ∧ Below w.heap.size w w' := by
  obtain ⟨A, cap, rfl, hlen, hcap⟩ := hx.form
  have hpt := PBlock.box w t 52
  go_enter Tryz.func78, Tryz.ntmps78
  go_wp2
  refine at_world (fun W => Below w.heap.size w W ∧ PBlock W w.heap.size 0 t) ⟨(by repeat (first | exact Below.refl _ _ | assumption | refine Below.alloc ?_ (by first | omega | (simp <;> omega)) _ | refine Below.setCell ?_ (by first | (show _ ≤ _; omega) | (simp <;> omega)) _ | refine Below.drew ?_ | refine below_drewN ?_ _)), hpt⟩ ?_
  clear hpt
  rintro W0 ⟨hW0, hpt⟩
  go_loopw [9, 10] (fun i j wr => ∃ a b : Nat, a ≤ b ∧ b ≤ xs.length ∧ i = .int .i64 a ∧ j = .int .i64 b ∧ Hid (∀ m (h : m < xs.length), m < a → beforeB xs[m] t = true) ∧ Hid (∀ m (h : m < xs.length), b ≤ m → beforeB xs[m] t = false) ∧ Below w.heap.size w wr ∧ PBlock wr w.heap.size 0 t) (fun i j _ => (intOf j).toNat - (intOf i).toNat)
  case atStart => exact ⟨0, xs.length, Nat.zero_le _, Nat.le_refl _, rfl, rfl, fun m _ h => absurd h (Nat.not_lt_zero _), fun m h1 h2 => absurd h1 (by omega), hW0, hpt⟩
  case round =>
    obtain ⟨a, b, hab, hbn, rfl, rfl, HA, HB, hb, hp⟩ := hrel
    clear hpt hW0
    by_cases hlt : a < b
    · obtain ⟨m, hm⟩ : ∃ m, m = (a + b) / 2 := ⟨_, rfl⟩
      have em : ((a : Int) + (b : Int)) / 2 = (m : Int) := by omega
      have hmn : m < xs.length := by omega
      have hmb : m < b := by omega
      have ham : a ≤ m := by omega
      clear hm
      obtain ⟨b1, off, rfl, _, hok, hpm⟩ := PBlock.elem (hx.below' hb) hmn
      obtain ⟨c0, c1, c2⟩ := id hpm
      obtain ⟨d0, d1, d2⟩ := id hp
      go_wp2
      have gc0 := cell_regrown c0
      have gc1 := cell_regrown c1
      have gc2 := cell_regrown c2
      have gd0 := cell_regrown d0
      have gd1 := cell_regrown d1
      have gd2 := cell_regrown d2
      refine wp_region_mix (C := fun w' => ∃ p : Regrown, w' = Go.Sort.grow (redrawn wr p.d) p.os) [true, true, true, true, true, true, false, true] (by kernel_rfl) (by kernel_rfl) (by kernel_rfl) (fun _ _ d _ _ h => by cases d <;> exact h) (regrown_of_below (Below.drew (Below.refl _ _))) ?_
      have hS0 : Below wr.heap.size wr wr.drew := Below.drew (Below.refl _ _)
      refine wpMix_pure (by kernel_rfl) (fun K hK => ?_)
      go_big_quiet_op
      refine hK _ ?_; clear hK K
      refine wpMix_pure (by kernel_rfl) (fun K hK => ?_)
      go_big_quiet_op
      refine hK _ ?_; clear hK K
      refine wpMix_pure (by kernel_rfl) (fun K hK => ?_)
      go_big_quiet_op
      refine hK _ ?_; clear hK K
      refine wpMix_pure (by kernel_rfl) (fun K hK => ?_)
      go_big_quiet_op
      refine hK _ ?_; clear hK K
      refine wpMix_pure (by kernel_rfl) (fun K hK => ?_)
      go_big_quiet_op
      refine hK _ ?_; clear hK K
      refine wpMix_pure (by kernel_rfl) (fun K hK => ?_)
      go_big_quiet_op
      refine hK _ ?_; clear hK K
      refine wpMix_act (by kernel_rfl) (fun K hK => ?_)
      go_big_op
      refine (compareBlocks_any _ _ _).mono ?_
      rintro e wr1 ⟨rfl, hbr1⟩
      have hbr1S : Below wr.heap.size wr wr1 := hS0.trans (hbr1.mono hS0.size)
      refine hK _ _ (regrown_of_below hbr1S) ?_
      clear hK K
      by_cases hq7 : beforeB xs[m] t = true
      · skip
        have hcm : cmpB xs[m] t < 0 := by have := cmpB_lt xs[m] t; rw [hq7] at this; simpa using this
        have e14 : decide (cmpB xs[m] t < 0) = true := by simpa using hcm
        refine wpMix_pure (by kernel_rfl) (fun K hK => ?_)
        go_big_quiet_op
        refine hK _ ?_; clear hK K
        refine wpMix_nil ?_
        have HA2 : Hid (∀ i (h : i < xs.length), i < m + 1 → beforeB xs[i] t = true) := fun i h him => by
          rcases Nat.lt_or_eq_of_le (Nat.le_of_lt_succ him) with h1 | rfl
          · cases hh : beforeB xs[i] t with
            | true => rfl
            | false => rw [before_later hor (Nat.le_of_lt h1) hmn hh] at hq7; cases hq7
          · exact hq7
        clear HA
        go_wp2
        go_roundw
        case rel => exact ⟨m + 1, b, by omega, hbn, by go_num, rfl, HA2, HB, hb.trans (hbr1S.mono hb.size), hp.below' hbr1S⟩
        case measure => simp [intOf]; omega
      · skip
        have hbf : beforeB xs[m] t = false := by simpa using hq7
        have hcm : 0 ≤ cmpB xs[m] t := by have := cmpB_lt xs[m] t; rw [hbf] at this; simpa using this
        have e14 : decide (cmpB xs[m] t < 0) = false := by simp; omega
        refine wpMix_pure (by kernel_rfl) (fun K hK => ?_)
        go_big_quiet_op
        refine hK _ ?_; clear hK K
        refine wpMix_nil ?_
        have HB2 : Hid (∀ i (h : i < xs.length), m ≤ i → beforeB xs[i] t = false) := fun i h him => before_later hor him h hbf
        clear HB
        go_wp2
        go_roundw
        case rel => exact ⟨a, m, ham, by omega, rfl, by go_num, HA, HB2, hb.trans (hbr1S.mono hb.size), hp.below' hbr1S⟩
        case measure => simp [intOf]; omega
    · obtain rfl : b = a := by omega
      have HAT : Hid (atB xs t = b) := takeWhile_len _ xs b hbn HA.out (fun h => HB.out b h (Nat.le_refl _))
      obtain ⟨d0, d1, d2⟩ := id hp
      by_cases hlt2 : b < xs.length
      · obtain ⟨b1, off, rfl, _, hok, hpm⟩ := PBlock.elem (hx.below' hb) hlt2
        obtain ⟨c0, c1, c2⟩ := id hpm
        have HK : Hid (hasKey xs t = (cmpB xs[b] t == 0)) := by
          show hasKey xs t = _
          unfold hasKey
          rw [HAT.out, List.getElem?_eq_getElem hlt2]
          show keyB _ _ _ = _
          rw [keyB_cmp, Bool.eq_iff_iff]
          simp
        go_wp2
        have gc0 := cell_regrown c0
        have gc1 := cell_regrown c1
        have gc2 := cell_regrown c2
        have gd0 := cell_regrown d0
        have gd1 := cell_regrown d1
        have gd2 := cell_regrown d2
        refine wp_region_mix (C := fun w' => ∃ p : Regrown, w' = Go.Sort.grow (redrawn wr p.d) p.os) [true, true, true, true, true, true, true, true, true, true, true, false, true, true, true, true] (by kernel_rfl) (by kernel_rfl) (by kernel_rfl) (fun _ _ d _ _ h => by cases d <;> exact h) (regrown_of_below (Below.drew (Below.refl _ _))) ?_
        have hS0 : Below wr.heap.size wr wr.drew := Below.drew (Below.refl _ _)
        refine wpMix_pure (by kernel_rfl) (fun K hK => ?_)
        go_big_quiet_op
        refine hK _ ?_; clear hK K
        refine wpMix_pure (by kernel_rfl) (fun K hK => ?_)
        go_big_quiet_op
        refine hK _ ?_; clear hK K
        refine wpMix_pure (by kernel_rfl) (fun K hK => ?_)
        go_big_quiet_op
        refine hK _ ?_; clear hK K
        refine wpMix_pure (by kernel_rfl) (fun K hK => ?_)
        go_big_quiet_op
        refine hK _ ?_; clear hK K
        refine wpMix_pure (by kernel_rfl) (fun K hK => ?_)
        go_big_quiet_op
        refine hK _ ?_; clear hK K
        refine wpMix_pure (by kernel_rfl) (fun K hK => ?_)
        go_big_quiet_op
        refine hK _ ?_; clear hK K
        refine wpMix_pure (by kernel_rfl) (fun K hK => ?_)
        go_big_quiet_op
        refine hK _ ?_; clear hK K
        refine wpMix_pure (by kernel_rfl) (fun K hK => ?_)
        go_big_quiet_op
        refine hK _ ?_; clear hK K
        refine wpMix_pure (by kernel_rfl) (fun K hK => ?_)
        go_big_quiet_op
        refine hK _ ?_; clear hK K
        refine wpMix_pure (by kernel_rfl) (fun K hK => ?_)
        go_big_quiet_op
        refine hK _ ?_; clear hK K
        refine wpMix_pure (by kernel_rfl) (fun K hK => ?_)
        go_big_quiet_op
        refine hK _ ?_; clear hK K
        refine wpMix_act (by kernel_rfl) (fun K hK => ?_)
        go_big_op
        refine (compareBlocks_any _ _ _).mono ?_
        rintro e wr1 ⟨rfl, hbr1⟩
        have hbr1S : Below wr.heap.size wr wr1 := hS0.trans (hbr1.mono hS0.size)
        refine hK _ _ (regrown_of_below hbr1S) ?_
        clear hK K
        refine wpMix_pure (by kernel_rfl) (fun K hK => ?_)
        go_big_quiet_op
        refine hK _ ?_; clear hK K
        refine wpMix_pure (by kernel_rfl) (fun K hK => ?_)
        go_big_quiet_op
        refine hK _ ?_; clear hK K
        refine wpMix_pure (by kernel_rfl) (fun K hK => ?_)
        go_big_quiet_op
        refine hK _ ?_; clear hK K
        refine wpMix_pure (by kernel_rfl) (fun K hK => ?_)
        go_big_quiet_op
        refine hK _ ?_; clear hK K
        refine wpMix_nil ?_
        go_wp2
        go_ret2
        exact ⟨by rw [HAT.out, HK.out]; simp [*], hb.trans (hbr1S.mono hb.size)⟩
      · have HK : Hid (hasKey xs t = false) := by
          show hasKey xs t = _
          unfold hasKey
          rw [HAT.out, List.getElem?_eq_none (by omega)]
        go_wp2
        refine wp_region_mix (C := fun w' => ∃ p : Regrown, w' = Go.Sort.grow (redrawn wr p.d) p.os) [true, true, true, true, true, true, true, true, true, true, true, false, true, true, true, true] (by kernel_rfl) (by kernel_rfl) (by kernel_rfl) (fun _ _ d _ _ h => by cases d <;> exact h) (regrown_of_below (Below.drew (Below.refl _ _))) ?_
        have hS0 : Below wr.heap.size wr wr.drew := Below.drew (Below.refl _ _)
        refine wpMix_pure (by kernel_rfl) (fun K hK => ?_)
        go_big_quiet_op
        refine hK _ ?_; clear hK K
        refine wpMix_pure (by kernel_rfl) (fun K hK => ?_)
        go_big_quiet_op
        refine hK _ ?_; clear hK K
        refine wpMix_pure (by kernel_rfl) (fun K hK => ?_)
        go_big_quiet_op
        refine hK _ ?_; clear hK K
        refine wpMix_pure (by kernel_rfl) (fun K hK => ?_)
        go_big_quiet_op
        refine hK _ ?_; clear hK K
        refine wpMix_pure (by kernel_rfl) (fun K hK => ?_)
        go_big_quiet_op
        refine hK _ ?_; clear hK K
        refine wpMix_skip (by kernel_rfl) (fun K hK => ?_)
        simp only [Act.put, List.setIfInBounds_toArray, List.set_cons_zero, List.set_cons_succ]
        refine hK _ ?_; clear hK K
        refine wpMix_skip (by kernel_rfl) (fun K hK => ?_)
        simp only [Act.put, List.setIfInBounds_toArray, List.set_cons_zero, List.set_cons_succ]
        refine hK _ ?_; clear hK K
        refine wpMix_skip (by kernel_rfl) (fun K hK => ?_)
        simp only [Act.put, List.setIfInBounds_toArray, List.set_cons_zero, List.set_cons_succ]
        refine hK _ ?_; clear hK K
        refine wpMix_skip (by kernel_rfl) (fun K hK => ?_)
        simp only [Act.put, List.setIfInBounds_toArray, List.set_cons_zero, List.set_cons_succ]
        refine hK _ ?_; clear hK K
        refine wpMix_skip (by kernel_rfl) (fun K hK => ?_)
        simp only [Act.put, List.setIfInBounds_toArray, List.set_cons_zero, List.set_cons_succ]
        refine hK _ ?_; clear hK K
        refine wpMix_skip (by kernel_rfl) (fun K hK => ?_)
        simp only [Act.put, List.setIfInBounds_toArray, List.set_cons_zero, List.set_cons_succ]
        refine hK _ ?_; clear hK K
        refine wpMix_skip (by kernel_rfl) (fun K hK => ?_)
        simp only [Act.put, List.setIfInBounds_toArray, List.set_cons_zero, List.set_cons_succ]
        refine hK _ ?_; clear hK K
        refine wpMix_skip (by kernel_rfl) (fun K hK => ?_)
        simp only [Act.put, List.setIfInBounds_toArray, List.set_cons_zero, List.set_cons_succ]
        refine hK _ ?_; clear hK K
        refine wpMix_pure (by kernel_rfl) (fun K hK => ?_)
        go_big_quiet_op
        refine hK _ ?_; clear hK K
        refine wpMix_pure (by kernel_rfl) (fun K hK => ?_)
        go_big_quiet_op
        refine hK _ ?_; clear hK K
        refine wpMix_pure (by kernel_rfl) (fun K hK => ?_)
        go_big_quiet_op
        refine hK _ ?_; clear hK K
        refine wpMix_nil ?_
        go_wp2
        go_ret2
        exact ⟨by rw [HAT.out, HK.out]; simp [*], hb.trans (hS0.mono hb.size)⟩

def bnC (xs : List DBlock) (k n : ByteArray) : Int := if blocksB xs then (if hasKey xs ⟨k, n, ⟨#[]⟩⟩ then 0 else 3) else 1
def bnF (xs : List DBlock) (k n : ByteArray) : ByteArray := if blocksB xs && hasKey xs ⟨k, n, ⟨#[]⟩⟩ then (xs.getD (atB xs ⟨k, n, ⟨#[]⟩⟩) b0).text else ⟨#[]⟩
/-- Two results: a text and a code. -/
def SC (s : ByteArray) (c : Int) (w : World) (e : Ending) (w' : World) : Prop := e = .returned (.tuple #[.string s, .int .i64 c]) ∧ Below w.heap.size w w'

end Go.Proofs.YtdlihohkamajbaaGreatDoor
