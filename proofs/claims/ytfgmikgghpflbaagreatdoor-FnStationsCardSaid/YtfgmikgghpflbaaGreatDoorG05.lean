/- Parts of the proof: Qd, Oi, Ds, Oa, Rl, Ix, Law, LawS, Rn, Rw, Oj. -/
import Derived.Test.YtfgmikgghpflbaaGreatDoorG01
import Derived.Test.YtfgmikgghpflbaaGreatDoorG03
import Derived.Test.YtfgmikgghpflbaaGreatDoorG04
import Derived.Deep.RegionHeld
import Derived.Deep.CutRange
import Derived.Lib.CutLaws
import Derived.ProofKit
import Derived.ChangeSame
import Derived.HandedShaped
import Derived.Shelf.Vars
namespace Go.Proofs.YtfgmikgghpflbaaGreatDoor
open Go.RowKit
set_option linter.unusedVariables false

def absF (n : Int) : Int := max n (-n)
def drF (a b : Int) : Int := if absF b - absF (Int.tmod a b) ≤ absF (Int.tmod a b) then (if a < 0 ↔ b < 0 then Int.tdiv a b + 1 else Int.tdiv a b - 1) else Int.tdiv a b
theorem absF_le {n m : Int} : absF n ≤ m ↔ -m ≤ n ∧ n ≤ m := by unfold absF; omega
theorem tmod_parts {a b : Int} (hb : 0 < b) : ∃ q r, Int.tdiv a b = q ∧ Int.tmod a b = r ∧ a = q * b + r ∧ -b < r ∧ r < b ∧ (0 ≤ a → 0 ≤ r) ∧ (a < 0 → r ≤ 0) := by
  refine ⟨_, _, rfl, rfl, ?_, ?_, Int.tmod_lt_of_pos _ hb, fun h => Int.tmod_nonneg _ h, fun h => ?_⟩
  · have := Int.mul_tdiv_add_tmod a b
    rw [Int.mul_comm]; omega
  · rcases Int.lt_or_le a 0 with h | h
    · have h1 := Int.tmod_lt_of_pos (-a) hb
      rw [Int.neg_tmod] at h1; omega
    · have := Int.tmod_nonneg b h; omega
  · have h1 := Int.tmod_nonneg b (show (0 : Int) ≤ -a by omega)
    rw [Int.neg_tmod] at h1; omega
/-- The quotient is as near as can be. -/
theorem drF_near {a b : Int} (hb : 0 < b) : -b ≤ 2 * (drF a b * b - a) ∧ 2 * (drF a b * b - a) ≤ b := by
  obtain ⟨q, r, hq, hr, ha, h1, h2, h3, h4⟩ := tmod_parts (a := a) hb
  unfold drF
  rw [hq, hr]
  have e : absF b = b := by unfold absF; omega
  have hb2 : ¬ b < 0 := by omega
  rw [e]
  rcases Int.lt_or_le a 0 with hn | hn
  · have hr2 := h4 hn
    have e2 : absF r = -r := by unfold absF; omega
    rw [e2]
    split
    · rw [if_neg (fun h => hb2 (h.1 hn)), Int.sub_mul]; omega
    · omega
  · have hr2 := h3 hn
    have e2 : absF r = r := by unfold absF; omega
    rw [e2]
    split
    · rw [if_pos ⟨fun h => absurd h (by omega), fun h => absurd h hb2⟩, Int.add_mul]; omega
    · omega
theorem mul_lt_cancel {x y n : Int} (hn : 0 < n) (h : x * n < y * n) : x < y := Int.lt_of_mul_lt_mul_right h (by omega)
/-- A quotient of a sum that lies between lo * b and hi * b lies between lo and hi. -/
theorem drF_between {a b lo hi : Int} (hb : 0 < b) (h1 : lo * b ≤ a) (h2 : a ≤ hi * b) : lo ≤ drF a b ∧ drF a b ≤ hi := by
  obtain ⟨h3, h4⟩ := drF_near (a := a) hb
  constructor
  · refine Int.le_of_lt_add_one (mul_lt_cancel hb ?_)
    rw [Int.add_mul]; omega
  · refine Int.le_of_lt_add_one (mul_lt_cancel hb ?_)
    rw [Int.add_mul]; omega
theorem quo_bounds {a b q r : Int} (hb : 0 < b) (hab : a = q * b + r) (h1 : -b < r) (h2 : r < b) (h3 : 0 ≤ a → 0 ≤ r) (h4 : a < 0 → r ≤ 0) (ha : -1000000000000000000 ≤ a ∧ a ≤ 1000000000000000000) : -1000000000000000000 ≤ q ∧ q ≤ 1000000000000000000 := by
  constructor
  · refine Int.not_lt.1 (fun h => ?_)
    have : q * b ≤ (-1000000000000000001) * 1 := by
      have h5 : q * b ≤ q * 1 := Int.mul_le_mul_of_nonpos_left (by omega) (by omega)
      omega
    rcases Int.lt_or_le a 0 with h0 | h0
    · have := h4 h0
      have h6 : q * b + 0 ≤ q * b + 0 := Int.le_refl _
      omega
    · have h5 : q * b ≤ (-1) * b := Int.mul_le_mul_of_nonneg_right (by omega) (by omega)
      omega
  · refine Int.not_lt.1 (fun h => ?_)
    have h5 : q * 1 ≤ q * b := Int.mul_le_mul_of_nonneg_left (by omega) (by omega)
    rcases Int.lt_or_le a 0 with h0 | h0
    · have h6 : 1 * b ≤ q * b := Int.mul_le_mul_of_nonneg_right (by omega) (by omega)
      omega
    · have := h3 h0
      omega
set_option maxRecDepth 100000 in
set_option maxHeartbeats 1000000 in
theorem abs_any (n : Int) (w : World) (hn : -1000000000000000000 ≤ n ∧ n ≤ 1000000000000000000) :
    Calls Tryz.prog 149 #[.int .i64 n] w fun e w' => e = .returned (.int .i64 (absF n)) ∧ w = w' := by
  by_cases h : n < 0
  · have e1 : absF n = -n := by unfold absF; omega
    rw [e1]
    go_enter Tryz.func149, Tryz.ntmps149
    go_wp2
    go_ret
    first | exact ⟨rfl, rfl⟩ | exact ⟨ret_int (by omega), rfl⟩
  · have e1 : absF n = n := by unfold absF; omega
    rw [e1]
    go_enter Tryz.func149, Tryz.ntmps149
    go_wp2
    go_ret
    first | exact ⟨rfl, rfl⟩ | exact ⟨ret_int (by omega), rfl⟩
set_option maxRecDepth 100000 in
set_option maxHeartbeats 4000000 in
theorem divRound_any (a b : Int) (w : World) (ha : -1000000000000000000 ≤ a ∧ a ≤ 1000000000000000000) (hb : 0 < b ∧ b ≤ 1000000000000000000) :
    Calls Tryz.prog 87 #[.int .i64 a, .int .i64 b] w fun e w' => e = .returned (.int .i64 (drF a b)) ∧ Below w.heap.size w w' := by
  obtain ⟨q, r, hq, hr, hab, h1, h2, h3, h4⟩ := tmod_parts (a := a) hb.1
  have hqb : -1000000000000000000 ≤ q ∧ q ≤ 1000000000000000000 := quo_bounds hb.1 hab h1 h2 h3 h4 ha
  have eb : absF b = b := by unfold absF; omega
  have HF : Hid (drF a b = if b - absF r ≤ absF r then (if a < 0 ↔ b < 0 then q + 1 else q - 1) else q) := by show _ = _; unfold drF; rw [hq, hr, eb]
  have hab2 : 0 ≤ absF r ∧ absF r ≤ 1000000000000000000 := by unfold absF; omega
  have hrb : -1000000000000000000 ≤ r ∧ r ≤ 1000000000000000000 := by omega
  generalize drF a b = R at *
  have w1 : wrap64 q = q := by unfold wrap64; omega
  have w2 : wrap64 r = r := by unfold wrap64; omega
  clear hab h1 h2 h3 h4
  go_enter Tryz.func87, Tryz.ntmps87
  go_wp2
  refine wp_region_mix (C := fun w' => ∃ p : Regrown, w' = Go.Sort.grow (redrawn w p.d) p.os) [true, true, true, true, true, true, false, true, true] (by kernel_rfl) (by kernel_rfl) (by kernel_rfl) (fun _ _ d _ _ h => by cases d <;> exact h) (regrown_of_below (Below.drew (Below.refl _ _))) ?_
  have hS0 : Below (w.heap.size) w w.drew := Below.drew (Below.refl _ _)
  refine wpMix_pure (by kernel_rfl) (fun K hK => ?_); go_big_quiet_op; refine hK _ ?_; clear hK K
  refine wpMix_pure (by kernel_rfl) (fun K hK => ?_); go_big_quiet_op; refine hK _ ?_; clear hK K
  refine wpMix_pure (by kernel_rfl) (fun K hK => ?_); go_big_quiet_op; refine hK _ ?_; clear hK K
  refine wpMix_pure (by kernel_rfl) (fun K hK => ?_); go_big_quiet_op; refine hK _ ?_; clear hK K
  refine wpMix_pure (by kernel_rfl) (fun K hK => ?_); go_big_quiet_op; refine hK _ ?_; clear hK K
  refine wpMix_pure (by kernel_rfl) (fun K hK => ?_); go_big_quiet_op; refine hK _ ?_; clear hK K
  refine wpMix_act (by kernel_rfl) (fun K hK => ?_)
  go_big_op
  refine (abs_any _ _ (by omega)).mono ?_
  rintro e w' ⟨rfl, rfl⟩
  refine hK _ _ (regrown_of_below hS0) ?_
  clear hK K
  refine wpMix_pure (by kernel_rfl) (fun K hK => ?_); go_big_quiet_op; refine hK _ ?_; clear hK K
  refine wpMix_pure (by kernel_rfl) (fun K hK => ?_); go_big_quiet_op; refine hK _ ?_; clear hK K
  refine wpMix_nil ?_
  have hB := hS0
  go_wp2_with fail
  refine (abs_any _ _ (by omega)).mono ?_
  rintro e w' ⟨rfl, rfl⟩
  rw [eb]
  by_cases hc : b - absF r ≤ absF r
  · have HG := Lib.hid (HF.out.trans (if_pos hc))
    by_cases hn : a < 0
    · have e1 : (decide (a < 0) == decide (b < 0)) = false := by rw [decide_eq_true hn, decide_eq_false (show ¬ b < 0 by omega)]; rfl
      have e2 : (true == decide (b < 0)) = false := by rw [decide_eq_false (show ¬ b < 0 by omega)]; rfl
      have HX := Lib.hid (HG.out.trans (if_neg (fun h => by have := h.1 hn; omega)))
      go_wp2
      go_ret
      exact ⟨by rw [HX.out]; rfl, hB⟩
    · have HX := Lib.hid (HG.out.trans (if_pos ⟨fun h => absurd h hn, fun h => absurd h (by omega)⟩))
      have e1 : (decide (a < 0) == decide (b < 0)) = true := by rw [decide_eq_false hn, decide_eq_false (show ¬ b < 0 by omega)]; rfl
      go_wp2
      go_ret
      exact ⟨by rw [HX.out]; rfl, hB⟩
  · have HX := Lib.hid (HF.out.trans (if_neg hc))
    go_wp2
    go_ret
    exact ⟨by rw [HX.out]; rfl, hB⟩
set_option maxRecDepth 100000 in
set_option maxHeartbeats 1000000 in
theorem b10Abs_any (n : Int) (w : World) (hn : -1000000000000000000 ≤ n ∧ n ≤ 1000000000000000000) :
    Calls Tryz.prog 20 #[.int .i64 n] w fun e w' => e = .returned (.int .i64 (absF n)) ∧ w = w' := by
  by_cases h : n < 0
  · have e1 : absF n = -n := by unfold absF; omega
    rw [e1]
    go_enter Tryz.func20, Tryz.ntmps20
    go_wp2
    go_ret
    exact ⟨rfl, rfl⟩
  · have e1 : absF n = n := by unfold absF; omega
    rw [e1]
    go_enter Tryz.func20, Tryz.ntmps20
    go_wp2
    go_ret
    exact ⟨rfl, rfl⟩
set_option maxRecDepth 100000 in
set_option maxHeartbeats 1000000 in
theorem minS_any (a b : Int) (w : World) : Calls Tryz.prog 142 #[.int .i64 a, .int .i64 b] w fun e w' => e = .returned (.int .i64 (min a b)) ∧ w = w' := by
  by_cases h : a < b
  · have e : min a b = a := by omega
    rw [e]
    go_enter Tryz.func142, Tryz.ntmps142
    go_wp2
    go_ret
    exact ⟨rfl, rfl⟩
  · have e : min a b = b := by omega
    rw [e]
    go_enter Tryz.func142, Tryz.ntmps142
    go_wp2
    go_ret
    exact ⟨rfl, rfl⟩
set_option maxRecDepth 100000 in
set_option maxHeartbeats 1000000 in
theorem maxS_any (a b : Int) (w : World) : Calls Tryz.prog 101 #[.int .i64 a, .int .i64 b] w fun e w' => e = .returned (.int .i64 (max a b)) ∧ w = w' := by
  by_cases h : b < a
  · have e : max a b = a := by omega
    rw [e]
    go_enter Tryz.func101, Tryz.ntmps101
    go_wp2
    go_ret
    exact ⟨rfl, rfl⟩
  · have e : max a b = b := by omega
    rw [e]
    go_enter Tryz.func101, Tryz.ntmps101
    go_wp2
    go_ret
    exact ⟨rfl, rfl⟩
end Go.Proofs.YtfgmikgghpflbaaGreatDoor

namespace Go.Proofs.YtfgmikgghpflbaaGreatDoor
open Go.RowKit
set_option linter.unusedVariables false

def lineF (x0 y0 x1 y1 x : Int) : Int := y0 + drF ((y1 - y0) * (x - x0)) (x1 - x0)
theorem mul_in {a c b : Int} {m : Int} (hm : 0 ≤ m) (ha : -m ≤ a ∧ a ≤ m) (hc : 0 ≤ c) (hcb : c ≤ b) : -m * b ≤ a * c ∧ a * c ≤ m * b := by
  have h1 : a * c ≤ m * c := Int.mul_le_mul_of_nonneg_right ha.2 hc
  have h2 : -m * c ≤ a * c := Int.mul_le_mul_of_nonneg_right ha.1 hc
  have h3 : m * c ≤ m * b := Int.mul_le_mul_of_nonneg_left hcb hm
  have h4 : -m * c = -(m * c) := Int.neg_mul ..
  have h5 : -m * b = -(m * b) := Int.neg_mul ..
  omega
/-- A height on the line lies between the ends' heights. -/
theorem lineF_in {x0 y0 x1 y1 x : Int} (h0 : x0 < x) (h1 : x < x1) : min y0 y1 ≤ lineF x0 y0 x1 y1 x ∧ lineF x0 y0 x1 y1 x ≤ max y0 y1 := by
  unfold lineF
  have hb : 0 < x1 - x0 := by omega
  rcases Int.le_total y0 y1 with h | h
  · have h2 : (y1 - y0) * (x - x0) ≤ (y1 - y0) * (x1 - x0) := Int.mul_le_mul_of_nonneg_left (by omega) (by omega)
    have h3 : 0 ≤ (y1 - y0) * (x - x0) := Int.mul_nonneg (by omega) (by omega)
    obtain ⟨a, b⟩ := drF_between (a := (y1 - y0) * (x - x0)) (b := x1 - x0) (lo := 0) (hi := y1 - y0) hb (by omega) h2
    omega
  · have h2 : (y1 - y0) * (x1 - x0) ≤ (y1 - y0) * (x - x0) := Int.mul_le_mul_of_nonpos_left (by omega) (by omega)
    have h3 : (y1 - y0) * (x - x0) ≤ 0 := Int.mul_nonpos_of_nonpos_of_nonneg (by omega) (by omega)
    obtain ⟨a, b⟩ := drF_between (a := (y1 - y0) * (x - x0)) (b := x1 - x0) (lo := y1 - y0) (hi := 0) hb h2 (by omega)
    omega
set_option maxRecDepth 100000 in
set_option maxHeartbeats 4000000 in
theorem blend_any (x0 y0 x1 y1 x : Int) (w : World) (h0 : x0 < x) (h1 : x < x1) (hx : 0 ≤ x0 ∧ x1 ≤ 100000) (hy0 : 0 ≤ y0 ∧ y0 ≤ 2000) (hy1 : 0 ≤ y1 ∧ y1 ≤ 2000) :
    Calls Tryz.prog 122 #[.int .i64 x0, .int .i64 y0, .int .i64 x1, .int .i64 y1, .int .i64 x] w fun e w' => e = .returned (.int .i64 (lineF x0 y0 x1 y1 x)) ∧ Below w.heap.size w w' := by
  have hp := mul_in (a := y1 - y0) (c := x - x0) (b := 100000) (m := 2000) (by decide) (by omega) (by omega) (by omega)
  have hL := lineF_in (y0 := y0) (y1 := y1) h0 h1
  have HL := Lib.hid (show lineF x0 y0 x1 y1 x = y0 + drF ((y1 - y0) * (x - x0)) (x1 - x0) from rfl)
  have hd : -2000 ≤ drF ((y1 - y0) * (x - x0)) (x1 - x0) ∧ drF ((y1 - y0) * (x - x0)) (x1 - x0) ≤ 2000 := by have := HL.out; omega
  have hd2 : -9000 ≤ y0 + drF ((y1 - y0) * (x - x0)) (x1 - x0) ∧ y0 + drF ((y1 - y0) * (x - x0)) (x1 - x0) ≤ 9000 := by omega
  have n1 : ¬ x ≤ x0 := by omega
  have n2 : ¬ x1 ≤ x0 := by omega
  have n3 : ¬ x1 ≤ x := by omega
  clear hL
  generalize lineF x0 y0 x1 y1 x = R at *
  go_enter Tryz.func122, Tryz.ntmps122
  go_wp2_with fail
  refine (divRound_any _ _ _ (by omega) (by omega)).mono ?_
  rintro e w1 ⟨rfl, hb1⟩
  go_wp2
  go_ret
  exact ⟨by rw [HL.out]; rfl, hb1⟩
theorem obsB_parts {x : DObserved} (h : obsB x = true) : (0 ≤ x.hour ∧ x.hour ≤ 100000) ∧ (0 ≤ x.snow ∧ x.snow ≤ 2000) ∧ (-5000 ≤ x.degrees ∧ x.degrees ≤ 5000) ∧ (0 ≤ x.wind ∧ x.wind ≤ 10000) := by
  unfold obsB at h
  rw [Bool.and_eq_true, Bool.and_eq_true, Bool.and_eq_true, inB_true, inB_true, inB_true, inB_true] at h
  obtain ⟨⟨⟨h1, h2⟩, h3⟩, h4⟩ := h
  exact ⟨h1, h2, h3, h4⟩
def saC (xs : List DObserved) (h : Int) : Int := if obssB xs then (if inB h 0 100000 then (if hasObserved xs h then 0 else if atObserved xs h = 0 then 3 else if atObserved xs h = xs.length then 3 else 0) else 2) else 1
def saF (xs : List DObserved) (h : Int) : Int := if saC xs h = 0 then (if hasObserved xs h then (xs.getD (atObserved xs h) obs0).snow else lineF (xs.getD (atObserved xs h - 1) obs0).hour (xs.getD (atObserved xs h - 1) obs0).snow (xs.getD (atObserved xs h) obs0).hour (xs.getD (atObserved xs h) obs0).snow h) else 0
theorem sa_bad {xs : List DObserved} {h c : Int} (hc : saC xs h = c) (h0 : c ≠ 0) : saC xs h = c ∧ saF xs h = 0 := ⟨hc, by unfold saF; rw [if_neg (by rw [hc]; exact h0)]⟩
/-- Where the search ends: all before are earlier, and the one there, if any, is not. -/
theorem posF_spec {α : Type} (p : α → Bool) (xs : List α) : (∀ m (h : m < xs.length), m < posF p xs → p xs[m] = true) ∧ (∀ h : posF p xs < xs.length, p xs[posF p xs] = false) := by
  unfold posF
  induction xs with
  | nil => exact ⟨fun m h => absurd h (Nat.not_lt_zero _), fun h => absurd h (Nat.not_lt_zero _)⟩
  | cons x xs ih =>
    cases hp : p x with
    | false =>
      have e : (x :: xs).takeWhile p = [] := by rw [List.takeWhile_cons, hp]; rfl
      rw [e]
      exact ⟨fun m h hm => absurd hm (Nat.not_lt_zero _), fun h => hp⟩
    | true =>
      have e : (x :: xs).takeWhile p = x :: xs.takeWhile p := by rw [List.takeWhile_cons, hp]; rfl
      simp only [e, List.length_cons]
      refine ⟨fun m h hm => ?_, fun h => ?_⟩
      · cases m with
        | zero => exact hp
        | succ m => exact ih.1 m (by simpa using h) (by omega)
      · have := ih.2 (by omega)
        simpa using this
theorem at_before {xs : List DObserved} {h : Int} {m : Nat} (hm : m < xs.length) (hlt : m < atObserved xs h) : xs[m].hour < h := by
  have := (posF_spec (fun y : DObserved => decide (cmI y.hour h < 0)) xs).1 m hm hlt
  exact cmI_lt.1 (of_decide_eq_true this)
theorem at_after {xs : List DObserved} {h : Int} (hl : atObserved xs h < xs.length) : h ≤ xs[atObserved xs h].hour := by
  have := (posF_spec (fun y : DObserved => decide (cmI y.hour h < 0)) xs).2 hl
  have h2 := of_decide_eq_false this
  rw [cmI_lt] at h2; exact Int.not_lt.1 h2
theorem has_is {xs : List DObserved} {h : Int} (hh : hasObserved xs h = true) : ∃ hl : atObserved xs h < xs.length, xs[atObserved xs h].hour = h := by
  unfold hasObserved at hh
  split at hh
  · rename_i y hy
    obtain ⟨hl, rfl⟩ := List.getElem?_eq_some_iff.1 hy
    exact ⟨hl, cmI_zero.1 (by simpa using hh)⟩
  · cases hh
theorem has_not {xs : List DObserved} {h : Int} (hh : hasObserved xs h = false) (hl : atObserved xs h < xs.length) : xs[atObserved xs h].hour ≠ h := by
  unfold hasObserved at hh
  rw [List.getElem?_eq_getElem hl] at hh
  intro e
  have : (cmI (xs[atObserved xs h]).hour h == 0) = false := hh
  rw [beq_eq_false_iff_ne] at this
  exact this (cmI_zero.2 e)
set_option maxRecDepth 100000 in
set_option maxHeartbeats 8000000 in
theorem SnowAt_any (v : Value) (xs : List DObserved) (fp : List Nat) (h : Int) (w : World) (hx : Sl fObserved.cod w v xs fp) :
    Calls Tryz.prog 34 #[v, .int .i64 h] w fun e w' => e = .returned (.tuple #[.int .i64 (saF xs h), .int .i64 (saC xs h)]) ∧ Below w.heap.size w w' := by
  obtain ⟨A, cap, rfl, hlen, hcap⟩ := hx.form
  go_enter Tryz.func34, Tryz.ntmps34
  go_wp2_with fail
  refine (ValidObserved_any _ xs fp _ hx).mono ?_
  rintro e w1 ⟨rfl, hb1⟩
  have hx1 := hx.below' hb1
  clear hx
  cases hv : obssB xs
  · have HE := Lib.hid (sa_bad (show saC xs h = 1 by unfold saC; rw [hv]; rfl) (by decide))
    go_wp2
    go_ret2
    exact ⟨by rw [HE.out.1, HE.out.2]; rfl, hb1⟩
  have hlen2 := obssB_len hv
  go_wp2_with fail
  refine (hourOkV_any _ _).mono ?_
  rintro e w' ⟨rfl, rfl⟩
  cases hi : inB h 0 100000
  · have HE := Lib.hid (sa_bad (show saC xs h = 2 by unfold saC; rw [hv, hi]; rfl) (by decide))
    go_wp2
    go_ret2
    exact ⟨by rw [HE.out.1, HE.out.2]; rfl, hb1⟩
  go_wp2_with fail
  refine (bsearchObserved_any _ xs fp h _ hx1 (obs_back hv h) (by omega)).mono ?_
  rintro e w2 ⟨rfl, hb2⟩
  have hx2 := hx1.below' hb2
  have hB2 := hb1.trans (hb2.mono hb1.size)
  clear hx1 hb1 hb2
  have hle : atObserved xs h ≤ xs.length := posF_le _ _
  cases hh : hasObserved xs h
  rotate_left
  · obtain ⟨hl, _⟩ := has_is hh
    have hC : saC xs h = 0 := by unfold saC; rw [hv, hi, hh]; rfl
    have HF : Hid (saF xs h = xs[atObserved xs h].snow) := by show _ = _; unfold saF; rw [if_pos hC, hh, getD_of_lt hl]; rfl
    have HC := Lib.hid hC
    clear hC hh hi hv
    generalize atObserved xs h = k at *
    obtain ⟨b, off, rfl, _, hok, hp⟩ := PObserved.elem hx2 hl
    obtain ⟨c0, c1, c2, c3⟩ := id hp
    go_wp2
    go_ret2
    exact ⟨by rw [HF.out, HC.out]; rfl, hB2⟩
  by_cases h0 : atObserved xs h = 0
  · have HE := Lib.hid (sa_bad (show saC xs h = 3 by unfold saC; rw [hv, hi, hh, if_pos h0]; rfl) (by decide))
    rw [h0]
    clear h0 hh hi hv
    go_wp2
    go_ret2
    exact ⟨by rw [HE.out.1, HE.out.2]; rfl, hB2⟩
  by_cases hn : atObserved xs h = xs.length
  · have HE := Lib.hid (sa_bad (show saC xs h = 3 by unfold saC; rw [hv, hi, hh, if_neg h0, if_pos hn]; rfl) (by decide))
    have e0 : ((xs.length : Int) == 0) = false := by rw [beq_eq_false_iff_ne]; omega
    rw [hn]
    clear h0 hh hi hv hn
    go_wp2
    go_ret2
    exact ⟨by rw [HE.out.1, HE.out.2]; rfl, hB2⟩
  have hC : saC xs h = 0 := by unfold saC; rw [hv, hi, hh, if_neg h0, if_neg hn]; rfl
  have hl : atObserved xs h < xs.length := by omega
  have hl1 : atObserved xs h - 1 < xs.length := by omega
  have hlo := at_before (h := h) hl1 (by omega)
  have hhi := at_after hl
  have hne := has_not hh hl
  have HF : Hid (saF xs h = lineF xs[atObserved xs h - 1].hour xs[atObserved xs h - 1].snow xs[atObserved xs h].hour xs[atObserved xs h].snow h) := by
    show _ = _
    unfold saF; rw [if_pos hC, hh, getD_of_lt hl, getD_of_lt hl1]; rfl
  have HC := Lib.hid hC
  obtain ⟨ph0, ps0, _, _⟩ := obsB_parts (obssB_one hv hl1)
  obtain ⟨ph1, ps1, _, _⟩ := obsB_parts (obssB_one hv hl)
  have hhi2 : h < xs[atObserved xs h].hour := by omega
  clear hC hh hi hv hne hhi
  generalize hkk : atObserved xs h = k0 at *
  obtain ⟨k, rfl⟩ : ∃ k, k0 = k + 1 := ⟨k0 - 1, by omega⟩
  have hl2 : k < xs.length := by omega
  replace hlo : (xs[k]'hl2).hour < h := hlo
  replace HF : Hid (saF xs h = lineF (xs[k]'hl2).hour (xs[k]'hl2).snow xs[k + 1].hour xs[k + 1].snow h) := HF
  replace ph0 : 0 ≤ (xs[k]'hl2).hour ∧ (xs[k]'hl2).hour ≤ 100000 := ph0
  replace ps0 : 0 ≤ (xs[k]'hl2).snow ∧ (xs[k]'hl2).snow ≤ 2000 := ps0
  clear hkk h0
  have e1 : (((k + 1 : Nat) : Int) == 0) = false := by rw [beq_eq_false_iff_ne]; omega
  have e2 : (((k + 1 : Nat) : Int) == (xs.length : Int)) = false := by rw [beq_eq_false_iff_ne]; omega
  have e3 : ((k : Int) + 1 == 0) = false := by rw [beq_eq_false_iff_ne]; omega
  have e4 : ((k : Int) + 1 == (xs.length : Int)) = false := by rw [beq_eq_false_iff_ne]; omega
  obtain ⟨b, off, rfl, _, hok, hp⟩ := PObserved.elem hx2 hl
  obtain ⟨b', off', hA, _, hok', hp'⟩ := PObserved.elem hx2 hl2
  injection hA with hA
  injection hA with hA1 hA2 _
  subst hA1 hA2
  obtain ⟨c0, c1, c2, c3⟩ := id hp
  obtain ⟨d0, d1, d2, d3⟩ := id hp'
  generalize xs[k + 1] = y at *
  generalize xs[k] = x at *
  clear hn hle
  go_wp2
  have gc0 := cell_regrown c0
  have gc1 := cell_regrown c1
  have gc2 := cell_regrown c2
  have gc3 := cell_regrown c3
  have gd0 := cell_regrown d0
  have gd1 := cell_regrown d1
  have gd2 := cell_regrown d2
  have gd3 := cell_regrown d3
  refine wp_region_fork (C := fun w' => ∃ p : Regrown, w' = Go.Sort.grow (redrawn w2 p.d) p.os) [0, 1, 2, 3, 4, 5, 6, 7, 8] 9 [10, 11, 12] [false, false, false] 10 [9, 11, 12] [false, false, false] (by kernel_rfl) (by kernel_rfl) (by kernel_rfl) (fun _ _ d _ _ h => by cases d <;> exact h) (regrown_of_below (Below.drew (Below.refl _ _))) ?_
  simp only [List.map_cons, List.map_nil, List.getD_cons_zero, List.getD_cons_succ]
  have hS0 : Below (w2.heap.size) w2 w2.drew := Below.drew (Below.refl _ _)
  refine wpFork_pure (by kernel_rfl) (fun K hK => ?_)
  go_big_quiet_op
  refine hK _ ?_; clear hK K
  refine wpFork_pure (by kernel_rfl) (fun K hK => ?_)
  go_big_quiet_op
  refine hK _ ?_; clear hK K
  refine wpFork_pure (by kernel_rfl) (fun K hK => ?_)
  go_big_quiet_op
  refine hK _ ?_; clear hK K
  refine wpFork_pure (by kernel_rfl) (fun K hK => ?_)
  go_big_quiet_op
  refine hK _ ?_; clear hK K
  refine wpFork_pure (by kernel_rfl) (fun K hK => ?_)
  go_big_quiet_op
  refine hK _ ?_; clear hK K
  refine wpFork_pure (by kernel_rfl) (fun K hK => ?_)
  go_big_quiet_op
  refine hK _ ?_; clear hK K
  refine wpFork_pure (by kernel_rfl) (fun K hK => ?_)
  go_big_quiet_op
  refine hK _ ?_; clear hK K
  refine wpFork_pure (by kernel_rfl) (fun K hK => ?_)
  go_big_quiet_op
  refine hK _ ?_; clear hK K
  refine wpFork_pure (by kernel_rfl) (fun K hK => ?_)
  go_big_quiet_op
  refine hK _ ?_; clear hK K
  refine wpFork_split ?_ ?_
  · skip
    refine wpMix_act (by kernel_rfl) (fun K hK => ?_)
    go_big_op
    refine hK _ _ (regrown_of_below (by first | exact hS0.alloc hS0.size _ | exact Below.drew ((Below.refl _ _).alloc (Nat.le_refl _) _) | exact (Below.drew (Below.refl _ _)).alloc (Nat.le_refl _) _ | exact Below.drew (((Below.refl _ _).alloc (Nat.le_refl _) _).alloc (by simp) _))) ?_
    clear hK K
    refine wpMix_act (by kernel_rfl) (fun K hK => ?_)
    go_big_op
    refine hK _ _ (regrown_of_below (by first | exact hS0.alloc hS0.size _ | exact Below.drew ((Below.refl _ _).alloc (Nat.le_refl _) _) | exact (Below.drew (Below.refl _ _)).alloc (Nat.le_refl _) _ | exact Below.drew (((Below.refl _ _).alloc (Nat.le_refl _) _).alloc (by simp) _))) ?_
    clear hK K
    refine wpMix_act (by kernel_rfl) (fun K hK => ?_)
    go_big_op
    refine hK _ _ (regrown_of_below (by first | exact hS0.alloc hS0.size _ | exact Below.drew ((Below.refl _ _).alloc (Nat.le_refl _) _) | exact (Below.drew (Below.refl _ _)).alloc (Nat.le_refl _) _ | exact Below.drew (((Below.refl _ _).alloc (Nat.le_refl _) _).alloc (by simp) _))) ?_
    clear hK K
    refine wpMix_act (by kernel_rfl) (fun K hK => ?_)
    go_big_op
    refine hK _ _ (regrown_of_below (by first | exact hS0.alloc hS0.size _ | exact Below.drew ((Below.refl _ _).alloc (Nat.le_refl _) _) | exact (Below.drew (Below.refl _ _)).alloc (Nat.le_refl _) _ | exact Below.drew (((Below.refl _ _).alloc (Nat.le_refl _) _).alloc (by simp) _))) ?_
    clear hK K
    refine wpMix_nil ?_
    go_wp2_with fail
    refine (blend_any _ _ _ _ _ _ hlo hhi2 (by omega) ps0 ps1).mono ?_
    rintro e w3 ⟨rfl, hb3⟩
    have hb4 : Below w2.heap.size w2 w3 := Below.trans (by repeat (first | exact Below.refl _ _ | assumption | refine Below.alloc ?_ (by first | omega | (simp <;> omega)) _ | refine Below.setCell ?_ (by first | (show _ ≤ _; omega) | (simp <;> omega)) _ | refine Below.drew ?_ | refine below_drewN ?_ _)) (hb3.mono (by simp; omega))
    go_wp2
    go_ret2
    exact ⟨by rw [HF.out, HC.out]; rfl, hB2.trans (hb4.mono hB2.size)⟩
  · skip
    refine wpMix_act (by kernel_rfl) (fun K hK => ?_)
    go_big_op
    refine hK _ _ (regrown_of_below (by first | exact hS0.alloc hS0.size _ | exact Below.drew ((Below.refl _ _).alloc (Nat.le_refl _) _) | exact (Below.drew (Below.refl _ _)).alloc (Nat.le_refl _) _ | exact Below.drew (((Below.refl _ _).alloc (Nat.le_refl _) _).alloc (by simp) _))) ?_
    clear hK K
    refine wpMix_act (by kernel_rfl) (fun K hK => ?_)
    go_big_op
    refine hK _ _ (regrown_of_below (by first | exact hS0.alloc hS0.size _ | exact Below.drew ((Below.refl _ _).alloc (Nat.le_refl _) _) | exact (Below.drew (Below.refl _ _)).alloc (Nat.le_refl _) _ | exact Below.drew (((Below.refl _ _).alloc (Nat.le_refl _) _).alloc (by simp) _))) ?_
    clear hK K
    refine wpMix_act (by kernel_rfl) (fun K hK => ?_)
    go_big_op
    refine hK _ _ (regrown_of_below (by first | exact hS0.alloc hS0.size _ | exact Below.drew ((Below.refl _ _).alloc (Nat.le_refl _) _) | exact (Below.drew (Below.refl _ _)).alloc (Nat.le_refl _) _ | exact Below.drew (((Below.refl _ _).alloc (Nat.le_refl _) _).alloc (by simp) _))) ?_
    clear hK K
    refine wpMix_act (by kernel_rfl) (fun K hK => ?_)
    go_big_op
    refine hK _ _ (regrown_of_below (by first | exact hS0.alloc hS0.size _ | exact Below.drew ((Below.refl _ _).alloc (Nat.le_refl _) _) | exact (Below.drew (Below.refl _ _)).alloc (Nat.le_refl _) _ | exact Below.drew (((Below.refl _ _).alloc (Nat.le_refl _) _).alloc (by simp) _))) ?_
    clear hK K
    refine wpMix_nil ?_
    go_wp2_with fail
    refine (blend_any _ _ _ _ _ _ hlo hhi2 (by omega) ps0 ps1).mono ?_
    rintro e w3 ⟨rfl, hb3⟩
    have hb4 : Below w2.heap.size w2 w3 := Below.trans (by repeat (first | exact Below.refl _ _ | assumption | refine Below.alloc ?_ (by first | omega | (simp <;> omega)) _ | refine Below.setCell ?_ (by first | (show _ ≤ _; omega) | (simp <;> omega)) _ | refine Below.drew ?_ | refine below_drewN ?_ _)) (hb3.mono (by simp; omega))
    go_wp2
    go_ret2
    exact ⟨by rw [HF.out, HC.out]; rfl, hB2.trans (hb4.mono hB2.size)⟩

end Go.Proofs.YtfgmikgghpflbaaGreatDoor

namespace Go.Proofs.YtfgmikgghpflbaaGreatDoor
open Go.RowKit
set_option linter.unusedVariables false

/-- The source at block g: no more than n bytes have been drawn. -/
def SrcD (n : Nat) (g : Nat) (w : World) : Prop := ∃ (v : Value) (xs : List UInt8) (fp : List Nat) (k : Nat) (seed : Int), w.cell? ⟨g, 0, none⟩ = some v ∧ w.cell? ⟨g, 1, none⟩ = some (.int .i64 k) ∧ w.cell? ⟨g, 2, none⟩ = some (.int .u64 seed) ∧
  w.frozen? ⟨g, 1, none⟩ = false ∧ w.frozen? ⟨g, 2, none⟩ = false ∧ k ≤ n ∧ Sl fByte.cod w v xs fp ∧ (∀ b ∈ fp, b < g)
theorem Only.cell {fp : List Nat} {w w' : World} (h : Only fp w w') {p : Addr} (hp : p.block < w.heap.size) (hn : p.block ∉ fp) : w'.cell? p = w.cell? p := World.cell?_of_block (w := w) (h.block p.block hp hn)
theorem Only.frozen {fp : List Nat} {w w' : World} (h : Only fp w w') {p : Addr} (hp : p.block < w.heap.size) (hn : p.block ∉ fp) : w'.frozen? p = w.frozen? p := World.frozen?_of_block (w := w) (h.block p.block hp hn)
theorem Only.drewN {fp : List Nat} {w w' : World} (h : Only fp w w') (n : Nat) : Only fp w (w'.drewN n) := h.trans (.of_below (below_drewN (Below.refl _ _) n))
theorem SrcD.mono {n m g : Nat} {w : World} (h : SrcD n g w) (hm : n ≤ m) : SrcD m g w := by
  obtain ⟨v, xs, fp, k, seed, h0, h1, h2, h3, h4, h5, h6, h7⟩ := h
  exact ⟨v, xs, fp, k, seed, h0, h1, h2, h3, h4, by omega, h6, h7⟩
theorem SrcD.lt {n g : Nat} {w : World} (h : SrcD n g w) : g < w.heap.size := by
  obtain ⟨v, xs, fp, k, seed, h0, _⟩ := h
  exact block_lt_of_cell h0
theorem SrcD.below {n g : Nat} {w w' : World} (h : SrcD n g w) (hb : Below w.heap.size w w') : SrcD n g w' := by
  have hg := h.lt
  obtain ⟨v, xs, fp, k, seed, h0, h1, h2, h3, h4, h5, h6, h7⟩ := h
  exact ⟨v, xs, fp, k, seed, (hb.cell (p := ⟨g, 0, none⟩) hg).trans h0, (hb.cell (p := ⟨g, 1, none⟩) hg).trans h1, (hb.cell (p := ⟨g, 2, none⟩) hg).trans h2, (hb.frozen (p := ⟨g, 1, none⟩) hg).trans h3, (hb.frozen (p := ⟨g, 2, none⟩) hg).trans h4, h5, h6.below' hb, h7⟩
theorem SrcD.belowB {n g B : Nat} {w w' : World} (h : SrcD n g w) (hb : Below B w w') (hB : g < B) : SrcD n g w' := by
  obtain ⟨v, xs, fp, k, seed, h0, h1, h2, h3, h4, h5, h6, h7⟩ := h
  exact ⟨v, xs, fp, k, seed, (hb.cell (p := ⟨g, 0, none⟩) hB).trans h0, (hb.cell (p := ⟨g, 1, none⟩) hB).trans h1, (hb.cell (p := ⟨g, 2, none⟩) hB).trans h2, (hb.frozen (p := ⟨g, 1, none⟩) hB).trans h3, (hb.frozen (p := ⟨g, 2, none⟩) hB).trans h4, h5, h6.below hb (fun b hm => by have := h7 b hm; omega), h7⟩
theorem Only.then {fp : List Nat} {a b c : World} (h : Only fp a b) (k : Below a.heap.size b c) : Only fp a c :=
  ⟨k.os.trans h.os, k.tape.trans h.tape, k.output.trans h.output, Nat.le_trans h.size k.size, fun i hi hn => (k.block i hi).trans (h.block i hi hn)⟩
theorem Only.put {fp : List Nat} {a b : World} (h : Only fp a b) {p : Addr} (hp : a.heap.size ≤ p.block) (v : Value) : Only fp a (b.setCell p v) :=
  h.then ((Below.refl _ _).setCell hp v)
theorem Only.new {fp : List Nat} {a b : World} (h : Only fp a b) (o : Obj) : Only fp a (b.alloc o) := h.then ((Below.refl _ _).alloc h.size o)
theorem Only.later {fp : List Nat} {a b c : World} (h : Below a.heap.size a b) (k : Only fp b c) : Only fp a c :=
  (Only.of_below h).trans k
theorem Only.lift {g : Nat} {a b c : World} (h : Only [g] a b) (k : Only [g] b c) : Only [g] a c := h.trans k
theorem Own.only {α : Type} {E : Flat α} {w w' : World} {base : Nat} {e : TypeId} {v : Value} {L : List α} {fp : List Nat} (h : Own E w base e v L) (hb : Only fp w w') (hn : ∀ g ∈ fp, g < base) : Own E w' base e v L := by
  obtain ⟨h1, h2⟩ := h
  refine ⟨h1, ?_⟩
  rcases h2 with h2 | ⟨g, cap, cur, hv, hg, hh, r⟩
  · exact .inl h2
  · have hgl : g < w.heap.size := by
      rcases Nat.lt_or_ge g w.heap.size with h | h
      · exact h
      · rw [Array.getElem?_eq_none h] at hh; cases hh
    exact .inr ⟨g, cap, cur, hv, hg, by rw [hb.block g hgl (fun hm => by have := hn g hm; omega)]; exact hh, r⟩
theorem w64_inD (n : Int) (h : -9223372036854775808 ≤ n ∧ n ≤ 9223372036854775807) : wrap64 n = n := by unfold wrap64; omega
theorem and255 (x : Int) : 0 ≤ bits .and .u64 x 255 ∧ bits .and .u64 x 255 ≤ 255 := by
  have h : bits .and .u64 x 255 = IntKind.u64.wrap ((BitVec.ofInt 64 x &&& BitVec.ofInt 64 255).toNat : Int) := rfl
  rw [h, BitVec.toNat_and, show (BitVec.ofInt 64 255).toNat = 255 from by decide]
  have h1 : (BitVec.ofInt 64 x).toNat &&& 255 ≤ 255 := Nat.and_le_right
  generalize (BitVec.ofInt 64 x).toNat &&& 255 = m at *
  simp [IntKind.wrap, IntKind.bits, IntKind.signed]
  omega
def SrcAt (v : Value) (xs : List UInt8) (fp : List Nat) (k : Nat) (seed : Int) (n g : Nat) (w : World) : Prop := w.cell? ⟨g, 0, none⟩ = some v ∧ w.cell? ⟨g, 1, none⟩ = some (.int .i64 k) ∧ w.cell? ⟨g, 2, none⟩ = some (.int .u64 seed) ∧
  w.frozen? ⟨g, 1, none⟩ = false ∧ w.frozen? ⟨g, 2, none⟩ = false ∧ k ≤ n ∧ Sl fByte.cod w v xs fp ∧ (∀ b ∈ fp, b < g)
theorem src_step {v : Value} {xs : List UInt8} {fp : List Nat} {k n g : Nat} {seed : Int} {w : World} (h : SrcAt v xs fp k seed n g w) (i j : Nat) (s2 : Int) :
    SrcD (n + 1) g ((((w.drewN i).setCell ⟨g, 1, none⟩ (.int .i64 ((k : Int) + 1))).setCell ⟨g, 2, none⟩ (.int .u64 s2)).drewN j) := by
  obtain ⟨c0, c1, c2, z1, z2, hk, hsl, hne⟩ := h
  have hO : Only [g] w ((((w.drewN i).setCell ⟨g, 1, none⟩ (.int .i64 ((k : Int) + 1))).setCell ⟨g, 2, none⟩ (.int .u64 s2)).drewN j) := ((((Only.refl [g] w).drewN _).set 1 _).set 2 _).drewN _
  have d0 : (w.drewN i).cell? ⟨g, 0, none⟩ = some v := c0
  have d1 : (w.drewN i).cell? ⟨g, 1, none⟩ = some (.int .i64 k) := c1
  have d2 : (w.drewN i).cell? ⟨g, 2, none⟩ = some (.int .u64 seed) := c2
  have y1 : (w.drewN i).frozen? ⟨g, 1, none⟩ = false := z1
  have y2 : (w.drewN i).frozen? ⟨g, 2, none⟩ = false := z2
  refine ⟨v, xs, fp, k + 1, s2, ?_, ?_, ?_, ?_, ?_, by omega, hsl.only hO (fun b hb => by have := hne b hb; simp; omega), hne⟩
  · show World.cell? (World.setCell _ _ _) _ = _
    rw [World.cell?_setCell_other _ _ _ _ (by simp), World.cell?_setCell_other _ _ _ _ (by simp)]; exact d0
  · show World.cell? (World.setCell _ _ _) _ = _
    rw [World.cell?_setCell_other _ _ _ _ (by simp)]
    exact World.cell?_setCell_same _ _ _ d1
  · show World.cell? (World.setCell _ _ _) _ = _
    exact World.cell?_setCell_same _ _ _ ((World.cell?_setCell_other _ _ _ _ (by simp)).trans d2)
  · show World.frozen? (World.setCell _ _ _) _ = _
    rw [frozen?_setCell, frozen?_setCell]; exact y1
  · show World.frozen? (World.setCell _ _ _) _ = _
    rw [frozen?_setCell, frozen?_setCell]; exact y2
set_option maxRecDepth 100000 in
set_option maxHeartbeats 2000000 in
theorem next_any (n g : Nat) (w : World) (hs : SrcD n g w) (hn : n ≤ 1000000000000) :
    Calls Tryz.prog 186 #[.pointer (some ⟨g, 0, none⟩)] w fun e w' => ∃ r : Int, e = .returned (.int .i64 r) ∧ (0 ≤ r ∧ r ≤ 255) ∧ SrcD (n + 1) g w' ∧ Only [g] w w' := by
  have hg := hs.lt
  obtain ⟨v, xs, fp, k, seed, c0, c1, c2, z1, z2, hk, hsl, hne⟩ := hs
  obtain ⟨A, cap, rfl, hle, hca⟩ := hsl.form
  have hlen : xs.length ≤ 9223372036854775807 := by unfold maxLen at *; omega
  by_cases hat : k < xs.length
  · obtain ⟨b, off, rfl, hbm, _, hc, _⟩ := hsl.cell1 rfl hat rfl
    have hx := xs[k].toNat_lt
    go_enter Tryz.func186, Tryz.ntmps186
    go_wp2
    go_quiet (fail)
    go_wp2
    go_quiet (fail)
    go_wp2
    go_quiet (fail)
    go_wp2
    go_ret
    have hw : wrap64 (xs[k].toNat : Int) = xs[k].toNat := w64_inD _ (by omega)
    refine ⟨_, rfl, by first | (rw [hw]; omega) | omega, src_step ⟨c0, c1, c2, z1, z2, hk, hsl, hne⟩ _ _ _, ?_⟩
    exact ((((Only.refl [g] w).drewN _).set 1 _).set 2 _).drewN _
  · go_enter Tryz.func186, Tryz.ntmps186
    go_wp2
    go_quiet (fail)
    go_wp2
    go_quiet (fail)
    go_wp2
    go_ret
    have hw := and255 (IntKind.u64.wrap (IntKind.u64.wrap (IntKind.u64.wrap (seed * 6364136223846793005)) + 1442695040888963407) / 1099511627776)
    generalize bits BinOp.and IntKind.u64 (IntKind.u64.wrap (IntKind.u64.wrap (IntKind.u64.wrap (seed * 6364136223846793005)) + 1442695040888963407) / 1099511627776) 255 = r at *
    have hw2 : wrap64 r = r := w64_inD _ (by omega)
    refine ⟨_, rfl, by rw [hw2]; exact hw, src_step ⟨c0, c1, c2, z1, z2, hk, hsl, hne⟩ _ _ _, ?_⟩
    exact ((((Only.refl [g] w).drewN _).set 1 _).set 2 _).drewN _
set_option maxRecDepth 100000 in
set_option maxHeartbeats 2000000 in
theorem pick_any (n g : Nat) (m : Int) (w : World) (hs : SrcD n g w) (hn : n ≤ 999999999000) (hm : m ≤ 1000000000) :
    Calls Tryz.prog 100 #[.pointer (some ⟨g, 0, none⟩), .int .i64 m] w fun e w' => ∃ r : Int, e = .returned (.int .i64 r) ∧ (0 ≤ r ∧ (1 ≤ m → r < m) ∧ (m ≤ 1 → r = 0)) ∧ SrcD (n + 2) g w' ∧ Only [g] w w' := by
  by_cases h1 : m ≤ 1
  · go_enter Tryz.func100, Tryz.ntmps100
    go_wp2
    go_ret
    exact ⟨0, rfl, ⟨by omega, fun h => by omega, fun _ => rfl⟩, hs.mono (by omega), Only.refl _ _⟩
  · go_enter Tryz.func100, Tryz.ntmps100
    go_wp2_with fail
    refine (next_any n g _ hs (by omega)).mono ?_
    rintro e w1 ⟨x, rfl, hx, hs1, ho1⟩
    by_cases h2 : 200 < m
    · go_wp2_with fail
      refine (next_any (n + 1) g _ hs1 (by omega)).mono ?_
      rintro e w2 ⟨y, rfl, hy, hs2, ho2⟩
      have e1 : 0 ≤ Int.tmod (x * 256 + y) m := Int.tmod_nonneg _ (by omega)
      have e2 : Int.tmod (x * 256 + y) m < m := Int.tmod_lt_of_pos _ (by omega)
      have e3 : wrap64 (x * 256) = x * 256 := w64_inD _ (by omega)
      have e4 : wrap64 (x * 256 + y) = x * 256 + y := w64_inD _ (by omega)
      have e5 : wrap64 (Int.tmod (x * 256 + y) m) = Int.tmod (x * 256 + y) m := w64_inD _ (by omega)
      go_wp2
      go_ret
      refine ⟨_, rfl, ?_, hs2, ho1.trans ho2⟩
      first | exact ⟨e1, fun _ => e2, fun h => by omega⟩ | exact ⟨Int.emod_nonneg _ (by omega), fun _ => Int.emod_lt_of_pos _ (by omega), fun h => by omega⟩ | (simp only [e3, e4, e5]; exact ⟨e1, fun _ => e2, fun h => by omega⟩) | skip
    · have e1 : 0 ≤ Int.tmod x m := Int.tmod_nonneg _ (by omega)
      have e2 : Int.tmod x m < m := Int.tmod_lt_of_pos _ (by omega)
      have e5 : wrap64 (Int.tmod x m) = Int.tmod x m := w64_inD _ (by omega)
      go_wp2
      go_ret
      refine ⟨_, rfl, ?_, hs1.mono (by omega), ho1⟩
      first | exact ⟨e1, fun _ => e2, fun h => by omega⟩ | exact ⟨Int.emod_nonneg _ (by omega), fun _ => Int.emod_lt_of_pos _ (by omega), fun h => by omega⟩ | (simp only [e5]; exact ⟨e1, fun _ => e2, fun h => by omega⟩) | skip
set_option maxRecDepth 100000 in
set_option maxHeartbeats 2000000 in
theorem one_any (n g : Nat) (m : Int) (w : World) (hs : SrcD n g w) (hn : n ≤ 999999999000) (hm : m ≤ 1000000000) :
    Calls Tryz.prog 102 #[.pointer (some ⟨g, 0, none⟩), .int .i64 m] w fun e w' => ∃ r : Bool, e = .returned (.bool r) ∧ SrcD (n + 2) g w' ∧ Only [g] w w' := by
  go_enter Tryz.func102, Tryz.ntmps102
  go_wp2_with fail
  refine (pick_any n g m _ hs hn hm).mono ?_
  rintro e w1 ⟨x, rfl, hx, hs1, ho1⟩
  go_wp2
  go_ret
  exact ⟨_, rfl, hs1, ho1⟩
set_option maxRecDepth 100000 in
set_option maxHeartbeats 2000000 in
theorem text_any (n g : Nat) (v : Value) (xs : List ByteArray) (fp : List Nat) (w : World) (hs : SrcD n g w) (hn : n ≤ 999999999000) (hx : Sl fStr.cod w v xs fp) (hg : g ∉ fp) (h0 : 0 < xs.length) (h1 : xs.length ≤ 1000) :
    Calls Tryz.prog 110 #[.pointer (some ⟨g, 0, none⟩), v] w fun e w' => ∃ t ∈ xs, e = .returned (.string t) ∧ SrcD (n + 2) g w' ∧ Only [g] w w' := by
  obtain ⟨A, cap, rfl, hle, hca⟩ := hx.form
  go_enter Tryz.func110, Tryz.ntmps110
  go_wp2_with fail
  refine (pick_any n g _ _ hs hn (by omega)).mono ?_
  rintro e w1 ⟨r, rfl, ⟨hr0, hr1, _⟩, hs1, ho1⟩
  have hr2 := hr1 (by omega)
  obtain ⟨k, rfl⟩ : ∃ k : Nat, r = k := ⟨r.toNat, by omega⟩
  have hk : k < xs.length := by omega
  obtain ⟨b, off, rfl, _, _, hc, _⟩ := (hx.only ho1 (fun b hb => by simp; intro e; subst e; exact hg hb)).cell1 rfl hk rfl
  go_wp2
  go_ret
  exact ⟨_, List.getElem_mem hk, rfl, hs1, ho1⟩
set_option maxRecDepth 100000 in
set_option maxHeartbeats 2000000 in
theorem among_any (n g : Nat) (v : Value) (xs : List Int) (fp : List Nat) (w : World) (hs : SrcD n g w) (hn : n ≤ 999999999000) (hx : Sl fInt.cod w v xs fp) (hg : g ∉ fp) (h0 : 0 < xs.length) (h1 : xs.length ≤ 1000) :
    Calls Tryz.prog 96 #[.pointer (some ⟨g, 0, none⟩), v] w fun e w' => ∃ t ∈ xs, e = .returned (.int .i64 t) ∧ SrcD (n + 2) g w' ∧ Only [g] w w' := by
  obtain ⟨A, cap, rfl, hle, hca⟩ := hx.form
  go_enter Tryz.func96, Tryz.ntmps96
  go_wp2_with fail
  refine (pick_any n g _ _ hs hn (by omega)).mono ?_
  rintro e w1 ⟨r, rfl, ⟨hr0, hr1, _⟩, hs1, ho1⟩
  have hr2 := hr1 (by omega)
  obtain ⟨k, rfl⟩ : ∃ k : Nat, r = k := ⟨r.toNat, by omega⟩
  have hk : k < xs.length := by omega
  obtain ⟨b, off, rfl, _, _, hc, _⟩ := (hx.only ho1 (fun b hb => by simp; intro e; subst e; exact hg hb)).cell1 rfl hk rfl
  go_wp2
  go_ret
  exact ⟨_, List.getElem_mem hk, rfl, hs1, ho1⟩
set_option maxRecDepth 100000 in
set_option maxHeartbeats 2000000 in
theorem l00From_any (v : Value) (xs : List UInt8) (fp : List Nat) (w : World) (hx : Sl fByte.cod w v xs fp) :
    Calls Tryz.prog 76 #[v] w fun e w' => e = .returned (.pointer (some ⟨w.heap.size, 0, none⟩)) ∧ SrcD 0 w.heap.size w' ∧ Below w.heap.size w w' := by
  obtain ⟨A, cap, rfl, hlen, hcap⟩ := hx.form
  have hB : ∀ T, Below w.heap.size w (w.alloc (.cells #[.slice A xs.length cap, .int .i64 0, .int .u64 0] T)) := fun T => (Below.refl _ _).alloc (Nat.le_refl _) _
  have hlt := hx.lt
  go_enter Tryz.func76, Tryz.ntmps76
  go_wp2
  go_ret
  exact ⟨rfl, ⟨_, xs, fp, 0, 0, by simp, by simp, by simp, World.frozen?_alloc_at _ _ _ _ rfl, World.frozen?_alloc_at _ _ _ _ rfl, Nat.le_refl _, hx.below' (hB _), hlt⟩, hB _⟩
theorem slLit (V : World) (T : TypeId) (xs : List ByteArray) (cs : Array Value) (hcs : cs = (xs.flatMap fStr.enc).toArray) (hok : ∀ x ∈ xs, x.size ≤ 1000) (hne : 0 < xs.length) (hm : xs.length ≤ 1000) (k m : Nat) (hk : k = V.heap.size) (hn : m = xs.length) :
    Sl fStr.cod (V.alloc (.cells cs T)) (.slice (some ⟨k, 0, none⟩) m m) xs [k] := by
  subst hk hn
  exact Sl.lit2 (E := fStr) V xs T cs hcs (fun x hx => by have := hok x hx; show _ ≤ _; omega) hne (by omega)
theorem slLitI (V : World) (T : TypeId) (xs : List Int) (cs : Array Value) (hcs : cs = (xs.flatMap fInt.enc).toArray) (hok : ∀ x ∈ xs, -9223372036854775808 ≤ x ∧ x ≤ 9223372036854775807) (hne : 0 < xs.length) (hm : xs.length ≤ 1000) (k m : Nat) (hk : k = V.heap.size) (hn : m = xs.length) :
    Sl fInt.cod (V.alloc (.cells cs T)) (.slice (some ⟨k, 0, none⟩) m m) xs [k] := by
  subst hk hn
  exact Sl.lit2 (E := fInt) V xs T cs hcs hok hne (by omega)

end Go.Proofs.YtfgmikgghpflbaaGreatDoor

namespace Go.Proofs.YtfgmikgghpflbaaGreatDoor
open Go.RowKit
set_option linter.unusedVariables false

theorem hit_cellX {w : World} {p : Addr} {x : Value} (h : (w.cell? p).isSome = true) : (w.setCell p x).cell? p = some x := by
  obtain ⟨v, hv⟩ := Option.isSome_iff_exists.1 h
  exact World.cell?_setCell_same w p x hv
def agObserved (x : DObserved) : Value := .agg #[.int .i64 x.hour, .int .i64 x.snow, .int .i64 x.degrees, .int .i64 x.wind]
/-- A drawn Observed: small numbers and short texts. -/
def SmObserved (x : DObserved) : Prop := (-1000000000 ≤ x.hour ∧ x.hour ≤ 1000000000) ∧ (-1000000000 ≤ x.snow ∧ x.snow ≤ 1000000000) ∧ (-1000000000 ≤ x.degrees ∧ x.degrees ≤ 1000000000) ∧ (-1000000000 ≤ x.wind ∧ x.wind ≤ 1000000000)
theorem SmObserved.ok {x : DObserved} (h : SmObserved x) : fObserved.ok x := by
  unfold SmObserved at h
  exact ⟨by show _ ∧ _; omega, by show _ ∧ _; omega, by show _ ∧ _; omega, by show _ ∧ _; omega⟩
structure BxObserved (w : World) (g : Nat) : Prop where
  d0 : w.cell? ⟨g, 0, none⟩ = some (.int .i64 0)
  d1 : w.cell? ⟨g, 1, none⟩ = some (.int .i64 0)
  d2 : w.cell? ⟨g, 2, none⟩ = some (.int .i64 0)
  d3 : w.cell? ⟨g, 3, none⟩ = some (.int .i64 0)
  z0 : w.frozen? ⟨g, 0, none⟩ = false
  z1 : w.frozen? ⟨g, 1, none⟩ = false
  z2 : w.frozen? ⟨g, 2, none⟩ = false
  z3 : w.frozen? ⟨g, 3, none⟩ = false
theorem BxObserved.new (w : World) (T : TypeId) : BxObserved (w.alloc (.cells #[.int .i64 0, .int .i64 0, .int .i64 0, .int .i64 0] T)) w.heap.size := by
  constructor <;> simp
theorem BxObserved.keep {w w' : World} {g : Nat} (h : BxObserved w g) (hk : w'.heap[g]? = w.heap[g]?) : BxObserved w' g := by
  have kc : ∀ j, w'.cell? ⟨g, j, none⟩ = w.cell? ⟨g, j, none⟩ := fun j => World.cell?_of_block (w := w) (a := ⟨g, j, none⟩) hk
  have kf : ∀ j, w'.frozen? ⟨g, j, none⟩ = w.frozen? ⟨g, j, none⟩ := fun j => World.frozen?_of_block (w := w) (a := ⟨g, j, none⟩) hk
  exact ⟨(kc _).trans h.d0, (kc _).trans h.d1, (kc _).trans h.d2, (kc _).trans h.d3, (kf _).trans h.z0, (kf _).trans h.z1, (kf _).trans h.z2, (kf _).trans h.z3⟩
theorem BxObserved.lt {w : World} {g : Nat} (h : BxObserved w g) : g < w.heap.size := block_lt_of_cell h.d0
theorem BxObserved.belowB {w w' : World} {g B : Nat} (h : BxObserved w g) (hb : Below B w w') (hg : g < B) : BxObserved w' g := h.keep (hb.block g hg)
theorem BxObserved.far {V : World} {b g j : Nat} {v : Value} (h : BxObserved V b) (hne : b ≠ g) : BxObserved (V.setCell ⟨g, j, none⟩ v) b := by
  have k : ∀ i, (V.setCell ⟨g, j, none⟩ v).cell? ⟨b, i, none⟩ = V.cell? ⟨b, i, none⟩ := fun i => World.cell?_setCell_far V ⟨g, j, none⟩ ⟨b, i, none⟩ v (fun e => hne e.symm)
  have f : ∀ i, (V.setCell ⟨g, j, none⟩ v).frozen? ⟨b, i, none⟩ = V.frozen? ⟨b, i, none⟩ := fun i => frozen?_setCell _ _ _ _
  exact ⟨(k _).trans h.d0, (k _).trans h.d1, (k _).trans h.d2, (k _).trans h.d3, (f _).trans h.z0, (f _).trans h.z1, (f _).trans h.z2, (f _).trans h.z3⟩
/-- A draw under way: the source g, the result's box r, the struct x at b; behind w0 all but g is as it was. -/
structure DrObserved (n g r b : Nat) (x : DObserved) (w0 w : World) : Prop where
  src : SrcD n g w
  only : Only [g] w0 w
  box : BxObserved w r
  pg : PObserved w b 0 x
  zf : ∀ j, w.frozen? ⟨b, j, none⟩ = false
  l0 : g < w0.heap.size
  l1 : w0.heap.size ≤ r
  l2 : w0.heap.size ≤ b
  l3 : r ≠ b
theorem DrObserved.next {n m g r b : Nat} {x : DObserved} {w0 w w' : World} (h : DrObserved n g r b x w0 w) (ho : Only [g] w w') (hs : SrcD m g w') : DrObserved m g r b x w0 w' := by
  have l0 := h.l0; have l1 := h.l1; have l2 := h.l2; have lb := h.pg.lt; have lr := h.box.lt
  have hbb : w'.heap[b]? = w.heap[b]? := ho.block b lb (by simp; omega)
  have kc : ∀ j, w'.cell? ⟨b, j, none⟩ = w.cell? ⟨b, j, none⟩ := fun j => World.cell?_of_block (w := w) (a := ⟨b, j, none⟩) hbb
  have kf : ∀ j, w'.frozen? ⟨b, j, none⟩ = w.frozen? ⟨b, j, none⟩ := fun j => World.frozen?_of_block (w := w) (a := ⟨b, j, none⟩) hbb
  exact ⟨hs, h.only.trans ho, h.box.keep (ho.block r lr (by simp; omega)), ⟨(kc _).trans h.pg.c0, (kc _).trans h.pg.c1, (kc _).trans h.pg.c2, (kc _).trans h.pg.c3⟩, fun j => (kf j).trans (h.zf j), l0, l1, l2, h.l3⟩
theorem DrObserved.grow {n g r b : Nat} {x : DObserved} {w0 w w' : World} (h : DrObserved n g r b x w0 w) (hb : Below w.heap.size w w') : DrObserved n g r b x w0 w' := h.next (Only.of_below hb) (h.src.below hb)
theorem DrObserved.mono {n m g r b : Nat} {x : DObserved} {w0 w : World} (h : DrObserved n g r b x w0 w) (hm : n ≤ m) : DrObserved m g r b x w0 w := ⟨h.src.mono hm, h.only, h.box, h.pg, h.zf, h.l0, h.l1, h.l2, h.l3⟩
theorem DrObserved.fin {n g r b : Nat} {x : DObserved} {w0 w w' : World} (h : DrObserved n g r b x w0 w) (hb : Below w0.heap.size w w') : SrcD n g w' ∧ Only [g] w0 w' :=
  ⟨h.src.belowB hb h.l0, h.only.then hb⟩
theorem DrObserved.fb {n g r b : Nat} {x : DObserved} {w0 w : World} (h : DrObserved n g r b x w0 w) (j : Nat) (v : Value) {w' : World} (hb : Below w0.heap.size w w') : Below w0.heap.size w (w'.setCell ⟨r, j, none⟩ v) := hb.setCell (p := ⟨r, j, none⟩) h.l1 v
theorem PObserved.keepB {w w' : World} {b : Nat} {x : DObserved} (h : PObserved w b 0 x) (hk : w'.heap[b]? = w.heap[b]?) : PObserved w' b 0 x := by
  have kc : ∀ j, w'.cell? ⟨b, j, none⟩ = w.cell? ⟨b, j, none⟩ := fun j => World.cell?_of_block (w := w) (a := ⟨b, j, none⟩) hk
  exact ⟨(kc _).trans h.c0, (kc _).trans h.c1, (kc _).trans h.c2, (kc _).trans h.c3⟩
theorem PObserved.vset0 {V : World} {g : Nat} {x : DObserved} (h : PObserved V g 0 x) (c : Int) : PObserved (V.setCell ⟨g, 0, none⟩ (.int .i64 c)) g 0 ⟨c, x.snow, x.degrees, x.wind⟩ := by
  have nk : ∀ j, j ≠ 0 → (⟨g, 0, none⟩ : Addr) ≠ ⟨g, j, none⟩ := fun j hj e => by injection e with _ e _; exact hj e.symm
  have k : ∀ j, j ≠ 0 → (V.setCell ⟨g, 0, none⟩ (.int .i64 c)).cell? ⟨g, j, none⟩ = V.cell? ⟨g, j, none⟩ := fun j hj => World.cell?_setCell_other _ _ _ _ (nk j hj)
  exact ⟨hit_cellX (by rw [h.c0]; rfl), (k _ (by decide)).trans h.c1, (k _ (by decide)).trans h.c2, (k _ (by decide)).trans h.c3⟩
theorem DrObserved.set0 {n g r b : Nat} {x : DObserved} {w0 V : World} (h : DrObserved n g r b x w0 V) (c : Int) : DrObserved n g r b ⟨c, x.snow, x.degrees, x.wind⟩ w0 (V.setCell ⟨b, 0, none⟩ (.int .i64 c)) := by
  have hb : Below w0.heap.size V (V.setCell ⟨b, 0, none⟩ (.int .i64 c)) := (Below.refl _ _).setCell (p := ⟨b, 0, none⟩) h.l2 _
  exact ⟨h.src.belowB hb h.l0, h.only.then hb, h.box.far h.l3, h.pg.vset0 c, fun j => (frozen?_setCell _ _ _ _).trans (h.zf j), h.l0, h.l1, h.l2, h.l3⟩
theorem PObserved.vset1 {V : World} {g : Nat} {x : DObserved} (h : PObserved V g 0 x) (c : Int) : PObserved (V.setCell ⟨g, 1, none⟩ (.int .i64 c)) g 0 ⟨x.hour, c, x.degrees, x.wind⟩ := by
  have nk : ∀ j, j ≠ 1 → (⟨g, 1, none⟩ : Addr) ≠ ⟨g, j, none⟩ := fun j hj e => by injection e with _ e _; exact hj e.symm
  have k : ∀ j, j ≠ 1 → (V.setCell ⟨g, 1, none⟩ (.int .i64 c)).cell? ⟨g, j, none⟩ = V.cell? ⟨g, j, none⟩ := fun j hj => World.cell?_setCell_other _ _ _ _ (nk j hj)
  exact ⟨(k _ (by decide)).trans h.c0, hit_cellX (by have := h.c1; rw [show (0 + 1 : Nat) = 1 from rfl] at this; rw [this]; rfl), (k _ (by decide)).trans h.c2, (k _ (by decide)).trans h.c3⟩
theorem DrObserved.set1 {n g r b : Nat} {x : DObserved} {w0 V : World} (h : DrObserved n g r b x w0 V) (c : Int) : DrObserved n g r b ⟨x.hour, c, x.degrees, x.wind⟩ w0 (V.setCell ⟨b, 1, none⟩ (.int .i64 c)) := by
  have hb : Below w0.heap.size V (V.setCell ⟨b, 1, none⟩ (.int .i64 c)) := (Below.refl _ _).setCell (p := ⟨b, 1, none⟩) h.l2 _
  exact ⟨h.src.belowB hb h.l0, h.only.then hb, h.box.far h.l3, h.pg.vset1 c, fun j => (frozen?_setCell _ _ _ _).trans (h.zf j), h.l0, h.l1, h.l2, h.l3⟩
theorem PObserved.vset2 {V : World} {g : Nat} {x : DObserved} (h : PObserved V g 0 x) (c : Int) : PObserved (V.setCell ⟨g, 2, none⟩ (.int .i64 c)) g 0 ⟨x.hour, x.snow, c, x.wind⟩ := by
  have nk : ∀ j, j ≠ 2 → (⟨g, 2, none⟩ : Addr) ≠ ⟨g, j, none⟩ := fun j hj e => by injection e with _ e _; exact hj e.symm
  have k : ∀ j, j ≠ 2 → (V.setCell ⟨g, 2, none⟩ (.int .i64 c)).cell? ⟨g, j, none⟩ = V.cell? ⟨g, j, none⟩ := fun j hj => World.cell?_setCell_other _ _ _ _ (nk j hj)
  exact ⟨(k _ (by decide)).trans h.c0, (k _ (by decide)).trans h.c1, hit_cellX (by have := h.c2; rw [show (0 + 2 : Nat) = 2 from rfl] at this; rw [this]; rfl), (k _ (by decide)).trans h.c3⟩
theorem DrObserved.set2 {n g r b : Nat} {x : DObserved} {w0 V : World} (h : DrObserved n g r b x w0 V) (c : Int) : DrObserved n g r b ⟨x.hour, x.snow, c, x.wind⟩ w0 (V.setCell ⟨b, 2, none⟩ (.int .i64 c)) := by
  have hb : Below w0.heap.size V (V.setCell ⟨b, 2, none⟩ (.int .i64 c)) := (Below.refl _ _).setCell (p := ⟨b, 2, none⟩) h.l2 _
  exact ⟨h.src.belowB hb h.l0, h.only.then hb, h.box.far h.l3, h.pg.vset2 c, fun j => (frozen?_setCell _ _ _ _).trans (h.zf j), h.l0, h.l1, h.l2, h.l3⟩
theorem PObserved.vset3 {V : World} {g : Nat} {x : DObserved} (h : PObserved V g 0 x) (c : Int) : PObserved (V.setCell ⟨g, 3, none⟩ (.int .i64 c)) g 0 ⟨x.hour, x.snow, x.degrees, c⟩ := by
  have nk : ∀ j, j ≠ 3 → (⟨g, 3, none⟩ : Addr) ≠ ⟨g, j, none⟩ := fun j hj e => by injection e with _ e _; exact hj e.symm
  have k : ∀ j, j ≠ 3 → (V.setCell ⟨g, 3, none⟩ (.int .i64 c)).cell? ⟨g, j, none⟩ = V.cell? ⟨g, j, none⟩ := fun j hj => World.cell?_setCell_other _ _ _ _ (nk j hj)
  exact ⟨(k _ (by decide)).trans h.c0, (k _ (by decide)).trans h.c1, (k _ (by decide)).trans h.c2, hit_cellX (by have := h.c3; rw [show (0 + 3 : Nat) = 3 from rfl] at this; rw [this]; rfl)⟩
theorem DrObserved.set3 {n g r b : Nat} {x : DObserved} {w0 V : World} (h : DrObserved n g r b x w0 V) (c : Int) : DrObserved n g r b ⟨x.hour, x.snow, x.degrees, c⟩ w0 (V.setCell ⟨b, 3, none⟩ (.int .i64 c)) := by
  have hb : Below w0.heap.size V (V.setCell ⟨b, 3, none⟩ (.int .i64 c)) := (Below.refl _ _).setCell (p := ⟨b, 3, none⟩) h.l2 _
  exact ⟨h.src.belowB hb h.l0, h.only.then hb, h.box.far h.l3, h.pg.vset3 c, fun j => (frozen?_setCell _ _ _ _).trans (h.zf j), h.l0, h.l1, h.l2, h.l3⟩
set_option maxRecDepth 100000 in
set_option maxHeartbeats 4000000 in
theorem l04DrawOne_any (n g : Nat) (w : World) (hs : SrcD n g w) (hn : n ≤ 999999980000) :
    Calls Tryz.prog 115 #[.pointer (some ⟨g, 0, none⟩)] w fun e w' => ∃ x : DObserved, e = .returned (agObserved x) ∧ SmObserved x ∧ SrcD (n + 20) g w' ∧ Only [g] w w' := by
  have hg := hs.lt
  go_enter Tryz.func115, Tryz.ntmps115
  have hB0 : Below w.heap.size w (w.alloc (.cells #[.int .i64 0, .int .i64 0, .int .i64 0, .int .i64 0] 66)) := (Below.refl _ _).alloc (Nat.le_refl _) _
  go_wp2_with fail
  refine (pick_any _ g 40 _ (hs.below hB0) (by omega) (by omega)).mono ?_
  rintro e w1 ⟨a, rfl, ⟨a0, a1, _⟩, hs1, ho1⟩
  replace a1 := a1 (by omega)
  have hbx1 : BxObserved w1 w.heap.size := (BxObserved.new w _).keep (ho1.block w.heap.size (by simp) (by simp; omega))
  have hr1 : w.heap.size < w1.heap.size := by have := ho1.size; simp at this; omega
  have hO1 : Only [g] w w1 := Only.later hB0 ho1
  clear hB0 ho1
  go_wp2_with fail
  refine (pick_any _ g 40 _ hs1 (by omega) (by omega)).mono ?_
  rintro e w2 ⟨s, rfl, ⟨s0, s1, _⟩, hs2, ho2⟩
  replace s1 := s1 (by omega)
  have hbx2 : BxObserved w2 w.heap.size := hbx1.keep (ho2.block w.heap.size hbx1.lt (by simp; omega))
  have hr2 : w.heap.size < w2.heap.size := hbx2.lt
  have hO2 : Only [g] w w2 := hO1.trans ho2
  clear hbx1 hr1 hO1 hs1 ho2
  have e1 : wrap64 (5 * s) = 5 * s := w64_inD _ (by omega)
  have hBA : Below w2.heap.size w2 (w2.alloc (.cells #[.int .i64 a, .int .i64 (5 * s), .int .i64 0, .int .i64 0] 66)) := (Below.refl _ _).alloc (Nat.le_refl _) _
  have hD : DrObserved (n + 2 + 2) g w.heap.size w2.heap.size ⟨a, 5 * s, 0, 0⟩ w (w2.alloc (.cells #[.int .i64 a, .int .i64 (5 * s), .int .i64 0, .int .i64 0] 66)) := ⟨hs2.below hBA, hO2.then (hBA.mono hO2.size), hbx2.belowB hBA hr2, PObserved.box w2 ⟨a, 5 * s, 0, 0⟩ _, fun j => World.frozen?_alloc_at _ _ _ _ rfl, hg, Nat.le_refl _, Nat.le_of_lt hr2, Nat.ne_of_lt hr2⟩
  clear hBA hbx2 hs2 hO2
  go_upto_region 2 with fail
  refine at_world (fun W => DrObserved (n + 2 + 2) g w.heap.size w2.heap.size ⟨a, 5 * s, 0, 0⟩ w W) hD ?_
  clear hD
  have hbl : w.heap.size ≤ w2.heap.size := Nat.le_of_lt hr2
  clear hr2
  generalize w2.heap.size = b at *
  intro V0 hD
  go_wp2_with fail
  refine (pick_any _ g 40 _ hD.src (by omega) (by omega)).mono ?_
  rintro e V2 ⟨d, rfl, ⟨d0, d1, _⟩, hsN, hoN⟩
  replace d1 := d1 (by omega)
  replace hD := hD.next hoN hsN
  clear hsN hoN
  have c2 : V2.cell? ⟨b, 2, none⟩ = some (.int .i64 0) := hD.pg.c2
  have z2 := hD.zf 2
  have e5 : wrap64 (50 * d) = 50 * d := w64_inD _ (by omega)
  have e6 : wrap64 (50 * d - 1500) = 50 * d - 1500 := w64_inD _ (by omega)
  replace hD := hD.set2 (50 * d - 1500)
  go_wp2_with fail
  generalize V2.setCell ⟨b, 2, none⟩ (.int .i64 (50 * d - 1500)) = V3 at *
  refine (pick_any _ g 20 _ hD.src (by omega) (by omega)).mono ?_
  rintro e V4 ⟨h, rfl, ⟨h0, h1, _⟩, hsN, hoN⟩
  replace h1 := h1 (by omega)
  replace hD := hD.next hoN hsN
  clear hsN hoN c2 z2
  have c3 : V4.cell? ⟨b, 3, none⟩ = some (.int .i64 0) := hD.pg.c3
  have z3_ := hD.zf 3
  have e7 : wrap64 (100 * h) = 100 * h := w64_inD _ (by omega)
  replace hD := hD.set3 (100 * h)
  have hDz := hD
  obtain ⟨d0, d1, d2, d3, z0, z1, z2, z3⟩ := hDz.box
  obtain ⟨x0, x1, x2, x3⟩ := id hDz.pg
  go_wp2
  exact bodyPost_ret (v := agObserved ⟨a, 5 * s, 50 * d - 1500, 100 * h⟩) (by simp [agObserved, results, hit_cellX, d0, d1, d2, d3, Tryz.results115, go_sem]) rfl ⟨_, rfl, by unfold SmObserved; simp only; omega, ((hDz.fin (by (repeat (refine Below.setCell ?_ hDz.l1 _)); exact Below.refl _ _)).1).mono (by omega), (hDz.fin (by (repeat (refine Below.setCell ?_ hDz.l1 _)); exact Below.refl _ _)).2⟩
set_option maxRecDepth 100000 in
set_option maxHeartbeats 4000000 in
theorem l04Bend_any (n g : Nat) (y : DObserved) (w : World) (hs : SrcD n g w) (hn : n ≤ 999999980000) (hy : SmObserved y) :
    Calls Tryz.prog 114 #[.pointer (some ⟨g, 0, none⟩), agObserved y] w fun e w' => ∃ x : DObserved, e = .returned (agObserved x) ∧ SmObserved x ∧ SrcD (n + 20) g w' ∧ Only [g] w w' := by
  have hg := hs.lt
  have hB0 : Below w.heap.size w (w.alloc (.cells #[.int .i64 y.hour, .int .i64 y.snow, .int .i64 y.degrees, .int .i64 y.wind] 66)) := (Below.refl _ _).alloc (Nat.le_refl _) _
  have hB1 : Below (w.heap.size + 1) (w.alloc (.cells #[.int .i64 y.hour, .int .i64 y.snow, .int .i64 y.degrees, .int .i64 y.wind] 66)) ((w.alloc (.cells #[.int .i64 y.hour, .int .i64 y.snow, .int .i64 y.degrees, .int .i64 y.wind] 66)).alloc (.cells #[.int .i64 0, .int .i64 0, .int .i64 0, .int .i64 0] 66)) := (Below.refl _ _).alloc (by simp) _
  have hD : DrObserved n g (w.heap.size + 1) w.heap.size y w ((w.alloc (.cells #[.int .i64 y.hour, .int .i64 y.snow, .int .i64 y.degrees, .int .i64 y.wind] 66)).alloc (.cells #[.int .i64 0, .int .i64 0, .int .i64 0, .int .i64 0] 66)) := by
    refine ⟨hs.below (hB0.trans (hB1.mono (Nat.le_succ _))), Only.of_below (hB0.trans (hB1.mono (Nat.le_succ _))), ?_, (PObserved.box w y _).below hB1 (Nat.lt_succ_self _), fun j => ?_, hg, Nat.le_succ _, Nat.le_refl _, by omega⟩
    · have h := BxObserved.new (w.alloc (.cells #[.int .i64 y.hour, .int .i64 y.snow, .int .i64 y.degrees, .int .i64 y.wind] 66)) 66
      rw [World.size_alloc] at h; exact h
    · rw [hB1.frozen (p := ⟨w.heap.size, j, none⟩) (Nat.lt_succ_self _)]; exact World.frozen?_alloc_at _ _ _ _ rfl
  clear hB0 hB1
  unfold agObserved
  go_enter Tryz.func114, Tryz.ntmps114
  go_upto_region 1 with fail
  refine at_world (fun W => DrObserved n g (w.heap.size + 1) w.heap.size y w W) hD ?_
  clear hD hs
  generalize w.heap.size + 1 = r at *
  generalize hbw : w.heap.size = b at *
  intro V0 hD
  clear hbw hg
  go_wp2_with fail
  refine (pick_any _ g 18 _ hD.src (by omega) (by omega)).mono ?_
  rintro e V1 ⟨q, rfl, ⟨q0, q1, _⟩, hsN, hoN⟩
  replace hD := hD.next hoN hsN
  clear hsN hoN V0
  by_cases h0 : q = 0
  · subst h0
    have hBL : Below V1.heap.size V1 (V1.alloc (.cells #[.int .i64 (-1), .int .i64 0, .int .i64 100000, .int .i64 100001] 2)) := (Below.refl _ _).alloc (Nat.le_refl _) _
    have hgl := hD.src.lt
    go_wp2_with fail
    refine (among_any _ g _ [-1, 0, 100000, 100001] [V1.heap.size] _ (hD.src.below hBL) (by omega) (slLitI V1 2 [-1, 0, 100000, 100001] _ rfl (by decide) (by decide) (by decide) _ _ rfl rfl) (by simp; omega) (by decide) (by decide)).mono ?_
    rintro e V2 ⟨t, ht, rfl, hsN, hoN⟩
    replace hD := (hD.grow hBL).next hoN hsN
    have htb : -1000000000 ≤ t ∧ t ≤ 1000000000 := by simp at ht; omega
    clear hsN hoN hBL hgl ht
    have cK : V2.cell? ⟨b, 0, none⟩ = some (.int .i64 y.hour) := hD.pg.c0
    have zK := hD.zf 0
    replace hD := hD.set0 t
    have hDz := hD
    obtain ⟨d0, d1, d2, d3, z0, z1, z2, z3⟩ := hDz.box
    obtain ⟨x0, x1, x2, x3⟩ := id hDz.pg
    go_wp2
    exact bodyPost_ret (v := agObserved ⟨t, y.snow, y.degrees, y.wind⟩) (by simp [agObserved, results, hit_cellX, d0, d1, d2, d3, Tryz.results114, go_sem]) rfl ⟨_, rfl, by unfold SmObserved at *; simp only; omega, ((hDz.fin (by (repeat (refine Below.setCell ?_ hDz.l1 _)); exact Below.refl _ _)).1).mono (by omega), (hDz.fin (by (repeat (refine Below.setCell ?_ hDz.l1 _)); exact Below.refl _ _)).2⟩
  · have e0 : (q == 0) = false := by rw [beq_eq_false_iff_ne]; exact h0
    by_cases h1 : q = 1
    · subst h1
      have hBL : Below V1.heap.size V1 (V1.alloc (.cells #[.int .i64 (-1), .int .i64 0, .int .i64 2000, .int .i64 2001] 2)) := (Below.refl _ _).alloc (Nat.le_refl _) _
      have hgl := hD.src.lt
      go_wp2_with fail
      refine (among_any _ g _ [-1, 0, 2000, 2001] [V1.heap.size] _ (hD.src.below hBL) (by omega) (slLitI V1 2 [-1, 0, 2000, 2001] _ rfl (by decide) (by decide) (by decide) _ _ rfl rfl) (by simp; omega) (by decide) (by decide)).mono ?_
      rintro e V2 ⟨t, ht, rfl, hsN, hoN⟩
      replace hD := (hD.grow hBL).next hoN hsN
      have htb : -1000000000 ≤ t ∧ t ≤ 1000000000 := by simp at ht; omega
      clear hsN hoN hBL hgl ht
      have cK : V2.cell? ⟨b, 1, none⟩ = some (.int .i64 y.snow) := hD.pg.c1
      have zK := hD.zf 1
      replace hD := hD.set1 t
      have hDz := hD
      obtain ⟨d0, d1, d2, d3, z0, z1, z2, z3⟩ := hDz.box
      obtain ⟨x0, x1, x2, x3⟩ := id hDz.pg
      go_wp2
      exact bodyPost_ret (v := agObserved ⟨y.hour, t, y.degrees, y.wind⟩) (by simp [agObserved, results, hit_cellX, d0, d1, d2, d3, Tryz.results114, go_sem]) rfl ⟨_, rfl, by unfold SmObserved at *; simp only; omega, ((hDz.fin (by (repeat (refine Below.setCell ?_ hDz.l1 _)); exact Below.refl _ _)).1).mono (by omega), (hDz.fin (by (repeat (refine Below.setCell ?_ hDz.l1 _)); exact Below.refl _ _)).2⟩
    · have e1 : (q == 1) = false := by rw [beq_eq_false_iff_ne]; exact h1
      by_cases h2 : q = 2
      · subst h2
        have hBL : Below V1.heap.size V1 (V1.alloc (.cells #[.int .i64 (-5001), .int .i64 (-5000), .int .i64 5000, .int .i64 5001] 2)) := (Below.refl _ _).alloc (Nat.le_refl _) _
        have hgl := hD.src.lt
        go_wp2_with fail
        refine (among_any _ g _ [-5001, -5000, 5000, 5001] [V1.heap.size] _ (hD.src.below hBL) (by omega) (slLitI V1 2 [-5001, -5000, 5000, 5001] _ rfl (by decide) (by decide) (by decide) _ _ rfl rfl) (by simp; omega) (by decide) (by decide)).mono ?_
        rintro e V2 ⟨t, ht, rfl, hsN, hoN⟩
        replace hD := (hD.grow hBL).next hoN hsN
        have htb : -1000000000 ≤ t ∧ t ≤ 1000000000 := by simp at ht; omega
        clear hsN hoN hBL hgl ht
        have cK : V2.cell? ⟨b, 2, none⟩ = some (.int .i64 y.degrees) := hD.pg.c2
        have zK := hD.zf 2
        replace hD := hD.set2 t
        have hDz := hD
        obtain ⟨d0, d1, d2, d3, z0, z1, z2, z3⟩ := hDz.box
        obtain ⟨x0, x1, x2, x3⟩ := id hDz.pg
        go_wp2
        exact bodyPost_ret (v := agObserved ⟨y.hour, y.snow, t, y.wind⟩) (by simp [agObserved, results, hit_cellX, d0, d1, d2, d3, Tryz.results114, go_sem]) rfl ⟨_, rfl, by unfold SmObserved at *; simp only; omega, ((hDz.fin (by (repeat (refine Below.setCell ?_ hDz.l1 _)); exact Below.refl _ _)).1).mono (by omega), (hDz.fin (by (repeat (refine Below.setCell ?_ hDz.l1 _)); exact Below.refl _ _)).2⟩
      · have e2 : (q == 2) = false := by rw [beq_eq_false_iff_ne]; exact h2
        by_cases h3 : q = 3
        · subst h3
          have hBL : Below V1.heap.size V1 (V1.alloc (.cells #[.int .i64 (-1), .int .i64 0, .int .i64 10000, .int .i64 10001] 2)) := (Below.refl _ _).alloc (Nat.le_refl _) _
          have hgl := hD.src.lt
          go_wp2_with fail
          refine (among_any _ g _ [-1, 0, 10000, 10001] [V1.heap.size] _ (hD.src.below hBL) (by omega) (slLitI V1 2 [-1, 0, 10000, 10001] _ rfl (by decide) (by decide) (by decide) _ _ rfl rfl) (by simp; omega) (by decide) (by decide)).mono ?_
          rintro e V2 ⟨t, ht, rfl, hsN, hoN⟩
          replace hD := (hD.grow hBL).next hoN hsN
          have htb : -1000000000 ≤ t ∧ t ≤ 1000000000 := by simp at ht; omega
          clear hsN hoN hBL hgl ht
          have cK : V2.cell? ⟨b, 3, none⟩ = some (.int .i64 y.wind) := hD.pg.c3
          have zK := hD.zf 3
          replace hD := hD.set3 t
          have hDz := hD
          obtain ⟨d0, d1, d2, d3, z0, z1, z2, z3⟩ := hDz.box
          obtain ⟨x0, x1, x2, x3⟩ := id hDz.pg
          go_wp2
          exact bodyPost_ret (v := agObserved ⟨y.hour, y.snow, y.degrees, t⟩) (by simp [agObserved, results, hit_cellX, d0, d1, d2, d3, Tryz.results114, go_sem]) rfl ⟨_, rfl, by unfold SmObserved at *; simp only; omega, ((hDz.fin (by (repeat (refine Below.setCell ?_ hDz.l1 _)); exact Below.refl _ _)).1).mono (by omega), (hDz.fin (by (repeat (refine Below.setCell ?_ hDz.l1 _)); exact Below.refl _ _)).2⟩
        · have e3 : (q == 3) = false := by rw [beq_eq_false_iff_ne]; exact h3
          have hDz := hD
          obtain ⟨d0, d1, d2, d3, z0, z1, z2, z3⟩ := hDz.box
          obtain ⟨x0, x1, x2, x3⟩ := id hDz.pg
          go_wp2
          exact bodyPost_ret (v := agObserved y) (by simp [agObserved, results, hit_cellX, d0, d1, d2, d3, Tryz.results114, go_sem]) rfl ⟨_, rfl, hy, ((hDz.fin (by (repeat (refine Below.setCell ?_ hDz.l1 _)); exact Below.refl _ _)).1).mono (by omega), (hDz.fin (by (repeat (refine Below.setCell ?_ hDz.l1 _)); exact Below.refl _ _)).2⟩

end Go.Proofs.YtfgmikgghpflbaaGreatDoor

namespace Go.Proofs.YtfgmikgghpflbaaGreatDoor
open Go.RowKit
set_option linter.unusedVariables false

/-- Pieces without the byte, joined, are divided again. -/
theorem splL_app (c : UInt8) : ∀ (x l : List UInt8), (∀ b ∈ x, b ≠ c) → splL c (x ++ c :: l) = x :: splL c l
  | [], l, _ => by show (if c = c then [] :: splL c l else _) = _; rw [if_pos rfl]
  | b :: x, l, h => by
    have ih := splL_app c x l (fun y hy => h y (by simp [hy]))
    show (if b = c then [] :: splL c (x ++ c :: l) else match splL c (x ++ c :: l) with | [] => [[b]] | q :: r => (b :: q) :: r) = _
    rw [if_neg (h b (by simp)), ih]
theorem spl_joinX : ∀ (L : List (List UInt8)), L ≠ [] → (∀ x ∈ L, ∀ b ∈ x, b ≠ 44) → splL 44 (joinX L) = L
  | [], h, _ => absurd rfl h
  | [x], _, h => by rw [joinX_one]; exact splL_none (h x (by simp))
  | x :: y :: r, _, h => by
    have e : joinX (x :: y :: r) = x ++ 44 :: joinX (y :: r) := by simp [joinX]
    rw [e, splL_app 44 x _ (h x (by simp)), spl_joinX (y :: r) (by simp) (fun z hz => h z (by simp [hz]))]
theorem joinX_cat (P : List (List UInt8)) (q : List UInt8) : joinX (P ++ [q]) = (P.flatMap fun p => p ++ [44]) ++ q := by
  induction P with
  | nil => simp [joinX]
  | cons a P ih =>
    cases P with
    | nil => simp [joinX]
    | cons b P =>
      have e : joinX (a :: b :: P ++ [q]) = a ++ 44 :: joinX (b :: P ++ [q]) := by simp [joinX]
      rw [e, ih]; simp
theorem joinX_spl (l : List UInt8) : joinX (splL 44 l) = l := by
  obtain ⟨P, q, h⟩ : ∃ P q, splL 44 l = P ++ [q] := ⟨_, _, (List.dropLast_concat_getLast (splL_ne 44 l)).symm⟩
  rw [h, joinX_cat, splL_join 44 l P q h]
open Go.Lib in
theorem splitK_more (c : UInt8) : ∀ (l : List UInt8) (k : Nat), (splL c l).length ≤ k + 1 → splitK [c] 0 k l = splL c l
  | [], k, _ => by
    have h : index ([] : List UInt8) [c] = -1 := rfl
    cases k with
    | zero => rfl
    | succ k => rw [splitK, h]; rfl
  | b :: l, k, hk => by
    have hi := index_one c b l
    unfold splL at hk ⊢
    by_cases e : b = c
    · rw [if_pos e] at hi hk ⊢
      obtain ⟨j, rfl⟩ : ∃ j, k = j + 1 := ⟨k - 1, by have := splL_ne c l; have h2 : 0 < (splL c l).length := List.length_pos_iff.2 this; rw [List.length_cons] at hk; omega⟩
      rw [splitK, hi]
      have ih := splitK_more c l j (by rw [List.length_cons] at hk; omega)
      simp [ih]
    · rw [if_neg e] at hi hk ⊢
      have hk2 : (splL c l).length ≤ k + 1 := by
        cases hs : splL c l with
        | nil => simp
        | cons q r => rw [hs] at hk; simpa using hk
      have ih := splitK_more c l k hk2
      cases k with
      | zero =>
        have ih' : [l] = splL c l := ih
        rw [← ih']; rfl
      | succ k =>
        rcases index_spec l [c] with ⟨h1, _⟩ | ⟨i, h1, _⟩
        · rw [h1] at hi
          have hm : index (b :: l) [c] = -1 := hi
          rw [splitK, h1] at ih
          have ih' : [l] = splL c l := ih
          rw [splitK, hm, ← ih']; rfl
        · have hm : index (b :: l) [c] = ((i + 1 : Nat) : Int) := by
            rw [hi, h1, if_neg (by rw [beq_iff_eq]; omega)]; omega
          rw [splitK, h1, if_neg (by rw [beq_iff_eq]; omega)] at ih
          rw [splitK, hm, if_neg (by rw [beq_iff_eq]; omega), ← ih]
          simp
def inR (n : Int) : Bool := inB n (-1000000000000) 1000000000000
def pieceB (p : ByteArray) : Bool := numOk p && inR (numV p)
def minusS : ByteArray := ⟨#[45]⟩
/-- The list that a text is of. -/
def rlF (s : ByteArray) : Option (List Int) := if s = minusS then some [] else if decide ((splS 44 s).length ≤ 64) && (splS 44 s).all pieceB then some ((splS 44 s).map numV) else none
theorem num_parts {p : ByteArray} (h : numOk p = true) : Lib.itoa (numV p) = p.data.toList ∧ numL p.data.toList = some (numV p) := by
  unfold numOk at h
  cases hn : numL p.data.toList with
  | none => rw [hn] at h; cases h
  | some v =>
    have hv := (num_some hn).2
    rw [hv]
    exact ⟨(numL_back hn).1, rfl⟩
theorem itoa_bytes (v : Int) : ∀ b ∈ Lib.itoa v, b ≠ 44 ∧ b ≠ 32 := by
  have hd : ∀ u, ∀ b ∈ dig u, b ≠ 44 ∧ b ≠ 32 := fun u b hb => by
    have := List.all_eq_true.1 (dig_all u) b hb
    unfold digB at this
    simp only [Bool.and_eq_true, decide_eq_true_eq] at this
    constructor <;> (intro e; subst e; revert this; decide)
  intro b hb
  by_cases h0 : v = 0
  · subst h0; rw [itoa_zeroL] at hb; simp at hb; subst hb; decide
  · rw [itoa_ne h0, List.mem_append] at hb
    rcases hb with hb | hb
    · split at hb
      · simp at hb; subst hb; decide
      · cases hb
    · exact hd _ b hb
theorem listS_data {xs : List Int} (h : xs ≠ []) : (listS xs).data.toList = joinX (xs.map Lib.itoa) := by unfold listS; rw [if_neg h]
theorem splS_list {xs : List Int} (h : xs ≠ []) : splS 44 (listS xs) = xs.map decS := by
  refine (splS_of ?_).symm
  rw [listS_data h, spl_joinX _ (by simpa using h) (fun x hx b hb => by
    obtain ⟨v, _, rfl⟩ := List.mem_map.1 hx
    exact (itoa_bytes v b hb).1), List.map_map]
  congr 1
theorem numOk_dec {v : Int} (h : inR v = true) : numOk (decS v) = true ∧ numV (decS v) = v := by
  have hb : v.natAbs < 10 ^ 18 := by
    unfold inR inB at h
    simp only [Bool.and_eq_true, decide_eq_true_eq] at h
    have : (10 : Nat) ^ 18 = 1000000000000000000 := by decide
    omega
  exact num_some (by rw [show (decS v).data.toList = Lib.itoa v from by unfold decS; simp]; exact numL_itoa v hb)
/-- A text that is a list's text is read as that list. -/
theorem rlF_list {xs : List Int} (h : fitsL xs = true) : rlF (listS xs) = some xs := by
  unfold fitsL at h
  simp only [Bool.and_eq_true, decide_eq_true_eq] at h
  unfold rlF
  by_cases hn : xs = []
  · subst hn; rfl
  · have hm : ¬ listS xs = minusS := by
      intro e
      have hs := splS_list hn
      rw [e, show splS 44 minusS = [minusS] from rfl] at hs
      cases xs with
      | nil => exact hn rfl
      | cons x r =>
        rw [List.map_cons] at hs
        injection hs with h1 _
        have h2 := congrArg (fun s : ByteArray => s.data.toList) h1
        have h3 : ([45] : List UInt8) = Lib.itoa x := by simpa [decS, minusS] using h2
        by_cases h0 : x = 0
        · subst h0; rw [itoa_zeroL] at h3; cases h3
        · have h4 := dig_first x.natAbs (by omega)
          obtain ⟨c, r', h5⟩ := h4
          have h6 := List.all_eq_true.1 (dig_all x.natAbs) c (by rw [h5]; simp)
          rw [itoa_ne h0, h5] at h3
          split at h3
          · simp at h3
          · simp at h3; rw [← h3.1] at h6; revert h6; decide
    rw [if_neg hm, splS_list hn, List.length_map, decide_eq_true h.1, List.map_map]
    have ha : (xs.map decS).all pieceB = true := by
      rw [List.all_eq_true]
      intro y hy
      obtain ⟨v, hv, rfl⟩ := List.mem_map.1 hy
      have hr : inR v = true := List.all_eq_true.1 h.2 v hv
      obtain ⟨h1, h2⟩ := numOk_dec hr
      unfold pieceB; rw [h1, h2, hr]; rfl
    rw [ha, if_pos (by rfl)]
    congr 1
    have : (xs.map (numV ∘ decS)) = xs.map id := List.map_congr_left (fun v hv => (numOk_dec (List.all_eq_true.1 h.2 v hv)).2)
    rw [this, List.map_id]
/-- What is read spells the text. -/
theorem rlF_text {s : ByteArray} {xs : List Int} (h : rlF s = some xs) : fitsL xs = true ∧ listS xs = s := by
  unfold rlF at h
  split at h
  · rename_i hm
    injection h with h
    subst h
    exact ⟨rfl, by rw [hm]; rfl⟩
  · split at h
    · rename_i hc
      simp only [Bool.and_eq_true, decide_eq_true_eq] at hc
      injection h with h
      have hall := List.all_eq_true.1 hc.2
      subst h
      constructor
      · unfold fitsL
        rw [List.length_map, decide_eq_true hc.1, Bool.true_and, List.all_eq_true]
        intro y hy
        obtain ⟨p, hp, rfl⟩ := List.mem_map.1 hy
        have := hall p hp
        unfold pieceB at this
        simp only [Bool.and_eq_true] at this
        exact this.2
      · have hne : (splS 44 s).map numV ≠ [] := by
          have := splS_data 44 s
          intro e
          have h2 : splS 44 s = [] := by simpa using e
          rw [h2] at this
          exact splL_ne 44 _ this.symm
        refine data_inj ?_
        rw [listS_data hne, List.map_map]
        have : (splS 44 s).map (Lib.itoa ∘ numV) = (splS 44 s).map (fun x : ByteArray => x.data.toList) := List.map_congr_left (fun p hp => by
          have := hall p hp
          unfold pieceB at this
          simp only [Bool.and_eq_true] at this
          exact (num_parts this.1).1)
        rw [this, splS_data, joinX_spl]
    · cases h
theorem splS_len (c : UInt8) (s : ByteArray) : (splS c s).length ≤ s.size + 1 := by
  have hl : ∀ l : List UInt8, (splL c l).length ≤ l.length + 1 := by
    intro l
    induction l with
    | nil => simp [splL]
    | cons b l ih =>
      unfold splL
      split
      · rw [List.length_cons, List.length_cons]; omega
      · cases hs : splL c l with
        | nil => simp
        | cons q r => rw [hs] at ih; rw [List.length_cons] at ih ⊢; rw [List.length_cons]; omega
  unfold splS; rw [List.length_map]
  have := hl s.data.toList
  rwa [dataL_len] at this
/-- The pieces that SplitN(s, ",", 65) gives. -/
def cutN (s : ByteArray) : List ByteArray := Lib.splitB ⟨#[44]⟩ 0 (min 65 (s.size + 1) - 1) s
theorem cutN_data (s : ByteArray) : (cutN s).map (fun x : ByteArray => x.data.toList) = Lib.splitK [44] 0 (min 65 (s.size + 1) - 1) s.data.toList := Lib.splitB_data ⟨#[44]⟩ 0 _ s
theorem cutN_few {s : ByteArray} (h : (splS 44 s).length ≤ 64) : cutN s = splS 44 s := by
  refine splS_of ?_
  have h2 := splS_len 44 s
  have h3 : (splL 44 s.data.toList).length = (splS 44 s).length := by unfold splS; rw [List.length_map]
  rw [cutN_data]
  exact splitK_more 44 s.data.toList _ (by omega)
theorem splitB_len (sep : ByteArray) : ∀ (k : Nat) (s : ByteArray), (Lib.splitB sep 0 k s).length ≤ k + 1 ∧ ∀ x ∈ Lib.splitB sep 0 k s, x.size ≤ s.size
  | 0, s => ⟨by rw [Lib.splitB_zero]; simp, by intro x hx; rw [Lib.splitB_zero, List.mem_singleton] at hx; subst hx; omega⟩
  | k + 1, s => by
    unfold Lib.splitB
    split
    · exact ⟨by simp, by intro x hx; rw [List.mem_singleton] at hx; subst hx; omega⟩
    · obtain ⟨h1, h2⟩ := splitB_len sep k (s.extract ((Lib.indexB s sep).toNat + sep.size) s.size)
      refine ⟨by rw [List.length_cons]; omega, ?_⟩
      intro x hx
      rcases List.mem_cons.1 hx with rfl | hx
      · rw [ByteArray.size_extract]; omega
      · have := h2 x hx
        rw [ByteArray.size_extract] at this
        omega
theorem cutN_len (s : ByteArray) : (cutN s).length ≤ 65 := by have := (splitB_len ⟨#[44]⟩ (min 65 (s.size + 1) - 1) s).1; unfold cutN; omega
theorem cutN_size (s : ByteArray) : ∀ x ∈ cutN s, x.size ≤ s.size := (splitB_len ⟨#[44]⟩ _ s).2
theorem cutN_empty : cutN ⟨#[]⟩ = [⟨#[]⟩] := rfl
theorem rlF_bad {s : ByteArray} {k : Nat} (hm : ¬ s = minusS) (hk : k < (cutN s).length) (h : numOk (cutN s)[k] = false) : rlF s = none := by
  unfold rlF; rw [if_neg hm]
  split
  · rename_i hc
    simp only [Bool.and_eq_true, decide_eq_true_eq] at hc
    have e := cutN_few hc.1
    have := List.all_eq_true.1 hc.2 (cutN s)[k] (by rw [← e]; exact List.getElem_mem hk)
    unfold pieceB at this
    rw [h] at this; cases this
  · rfl
theorem rlF_end {s : ByteArray} (hm : ¬ s = minusS) (hall : ∀ x ∈ cutN s, numOk x = true) : (listT ((cutN s).map numV) = s → rlF s = some ((cutN s).map numV)) ∧ (¬ listT ((cutN s).map numV) = s → rlF s = none) := by
  constructor
  · intro h
    unfold listT at h
    split at h
    · rename_i hf
      have := rlF_list hf
      rw [h] at this
      exact this
    · subst h
      have := hall ⟨#[]⟩ (by rw [cutN_empty]; simp)
      exact absurd this (by decide)
  · intro h
    cases hr : rlF s with
    | none => rfl
    | some xs =>
      obtain ⟨h1, h2⟩ := rlF_text hr
      have hlen : (splS 44 s).length ≤ 64 ∧ xs = (splS 44 s).map numV := by
        unfold rlF at hr
        rw [if_neg hm] at hr
        split at hr
        · rename_i hc
          simp only [Bool.and_eq_true, decide_eq_true_eq] at hc
          injection hr with hr
          exact ⟨hc.1, hr.symm⟩
        · cases hr
      refine absurd ?_ h
      rw [cutN_few hlen.1, ← hlen.2]
      unfold listT; rw [if_pos h1, h2]
def RlR (w : World) (s : ByteArray) (e : Ending) (w' : World) : Prop := ∃ v, e = .returned (.tuple #[v, .bool (rlF s).isSome]) ∧ New fInt.cod w v ((rlF s).getD []) w'
theorem RlR.none_ {w w' : World} {s : ByteArray} (h : rlF s = none) (hb : Below w.heap.size w w') : RlR w s (.returned (.tuple #[.slice none 0 0, .bool false])) w' := ⟨_, by rw [h]; rfl, by rw [h]; exact New.nil hb⟩
theorem RlR.some_ {w w' : World} {s : ByteArray} {v : Value} {xs : List Int} (h : rlF s = some xs) (hn : New fInt.cod w v xs w') : RlR w s (.returned (.tuple #[v, .bool true])) w' := ⟨_, by rw [h]; rfl, by rw [h]; exact hn⟩
theorem infoIntR : (Tryz.prog.info? 2).map (fun i => (i.zero, i.size, i.bytes)) = some (some (.int .i64 0), 1, 8) := by kernel_rfl
theorem numV_ok (p : ByteArray) : fInt.ok (numV p) := by
  unfold numV
  cases h : numL p.data.toList with
  | none => show _ ∧ _; simp
  | some v =>
    have := (numL_back h).2.1
    have e : (10 : Nat) ^ 18 = 1000000000000000000 := by decide
    show _ ∧ _
    simp only [Option.getD_some]
    omega
theorem numVs_ok (L : List ByteArray) : ∀ x ∈ L.map numV, fInt.ok x := by
  intro x hx; obtain ⟨p, _, rfl⟩ := List.mem_map.1 hx; exact numV_ok p
theorem spl_sizeR (c : UInt8) (s : ByteArray) : ∀ x ∈ splS c s, x.size ≤ s.size := by
  intro x hx
  obtain ⟨P, q, h1, h2⟩ := splS_cut c s
  have h3 := congrArg List.length h2
  rw [List.length_append, dataL_len, dataL_len] at h3
  rw [h1, List.mem_append] at hx
  rcases hx with hx | hx
  · obtain ⟨A, B, e⟩ := List.append_of_mem hx
    rw [e, List.flatMap_append, List.flatMap_cons, List.length_append, List.length_append, List.length_append, dataL_len] at h3
    omega
  · rw [List.mem_singleton] at hx; subst hx; omega
theorem cutN_any (s : ByteArray) (m : Int) (w : World) (hs : s.size ≤ 1048576) (hm : w.cell? ⟨0, 0, none⟩ = some (.int .i64 m)) :
    Calls Tryz.prog 222 #[.string s, .string ⟨#[44]⟩, .int .i64 65] w fun e w' => ∃ v fp, e = .returned v ∧ Sl fStr.cod w' v (cutN s) fp ∧ Below w.heap.size w w' := by
  have hlen := cutN_len s
  have hsz := cutN_size s
  have hl2 := (splitB_len ⟨#[44]⟩ (min 65 (s.size + 1) - 1) s).1
  refine (Tryz.strings_SplitN s ⟨#[44]⟩ 65 m w (by omega) hm (Nat.le_refl 1) (by decide) (by decide)).mono ?_
  rintro e w' ⟨rfl, rfl⟩
  refine ⟨_, [w.heap.size], rfl, ?_, (Below.refl _ _).alloc (Nat.le_refl _) _⟩
  have hpos : 0 < (cutN s).length := by
    unfold cutN
    cases hk : (min 65 (s.size + 1) - 1) with
    | zero => rw [Lib.splitB_zero]; simp
    | succ k => unfold Lib.splitB; split <;> simp
  refine Sl.of_cells (by show (cutN s).length ≤ _; unfold cutN at hpos ⊢; omega) (by omega) (by simp) (fun j hj => ⟨?_, ?_⟩) (fun x hx => by have := hsz x hx; show x.size ≤ 9223372036854775807; omega) hpos
  · have e1 : (cutN s).flatMap fStr.enc = (cutN s).map Value.string := by
      generalize cutN s = L
      induction L with
      | nil => rfl
      | cons x L ih => rw [List.flatMap_cons, List.map_cons, ih]; rfl
    have hj2 : j < (cutN s).length := by
      have h : j < ((cutN s).flatMap fStr.enc).length := hj
      rw [e1, List.length_map] at h; exact h
    rw [World.cell?_alloc_at _ _ _ _ rfl]
    show (Lib.cellsOf (cutN s) (min 65 (s.size + 1)))[0 + j]? = ((cutN s).flatMap fStr.enc)[j]?
    rw [e1, Nat.zero_add]
    unfold Lib.cellsOf
    rw [List.getElem?_toArray, List.getElem?_append_left (by rw [List.length_map]; exact hj2)]
  · rw [World.frozen?_alloc_at _ _ _ _ rfl]
set_option maxRecDepth 100000 in
set_option maxHeartbeats 4000000 in
theorem implReadList_any (s : ByteArray) (m : Int) (w : World) (hs : s.size ≤ 1048576) (hm9 : w.cell? ⟨0, 0, none⟩ = some (.int .i64 m)) (ht : RdTabs w) :
    Calls Tryz.prog 182 #[.string s] w fun e w' => RlR w s e w' := by
  obtain ⟨i0, hi, hz0, hz1, hz2⟩ := info_parts infoIntR
  by_cases hm : s = minusS
  · have e1 : (s.toList == [45]) = true := by rw [hm, beq_iff_eq]; unfold minusS; simp [ByteArray.toList_eq]
    have HR := Lib.hid (show rlF s = some [] from by unfold rlF; rw [if_pos hm])
    clear hm
    go_enter Tryz.func182, Tryz.ntmps182
    go_wp2
    go_ret2
    exact RlR.some_ HR.out (New.nil (Below.refl _ _))
  · have e1 : (s.toList == [45]) = false := by
      rw [beq_eq_false_iff_ne]; intro e
      exact hm (bytes_toList_inj (e.trans (by unfold minusS; simp [ByteArray.toList_eq])))
    have hsz := cutN_size s
    have hl65 := cutN_len s
    have HBAD : Hid (∀ k (hk : k < (cutN s).length), numOk (cutN s)[k] = false → rlF s = none) := fun k hk h => rlF_bad hm hk h
    have HEND : Hid ((∀ x ∈ cutN s, numOk x = true) → (listT ((cutN s).map numV) = s → rlF s = some ((cutN s).map numV)) ∧ (¬ listT ((cutN s).map numV) = s → rlF s = none)) := fun h => rlF_end hm h
    clear hm
    go_enter Tryz.func182, Tryz.ntmps182
    go_wp2_with fail
    refine (cutN_any s m _ hs hm9).mono ?_
    rintro e w1 ⟨v1, fp1, rfl, hsl, hb1⟩
    have ht1 := ht.below hb1
    generalize cutN s = P at *
    obtain ⟨A, cap, rfl, hle, hca⟩ := hsl.form
    go_wp2
    go_loopw [4, 14] (fun v i wr => ∃ k : Nat, k ≤ P.length ∧ i = .int .i64 k ∧ Hid ((P.take k).all numOk = true) ∧ Own fInt wr w1.heap.size 2 v ((P.map numV).take k) ∧ Below w1.heap.size w1 wr) (fun _ i _ => P.length - (intOf i).toNat)
    case atStart => exact ⟨0, Nat.zero_le _, rfl, rfl, Own.nil fInt _ _ _, Below.refl _ _⟩
    case round =>
      obtain ⟨k, hk, rfl, HA, ho, hb⟩ := hrel
      by_cases hlt : k < P.length
      · obtain ⟨b, off, rfl, _, _, hc, _⟩ := (hsl.below' hb).cell1 rfl hlt rfl
        have hps := hsz P[k] (List.getElem_mem hlt)
        have hkl : ((P.map numV).take k).length ≤ 65 := by rw [List.length_take, List.length_map]; omega
        go_wp2_with fail
        refine (ReadDecimal_any P[k] _ (by omega) (ht1.below hb)).mono ?_
        rintro e w2 ⟨rfl, hb2⟩
        have hB2 := hb.trans (hb2.mono hb.size)
        cases hn : numOk P[k]
        · have HN := Lib.hid (HBAD.out k hlt hn)
          clear ho hn
          go_wp2
          go_ret2
          exact RlR.none_ HN.out (hb1.trans (hB2.mono hb1.size))
        · have HA2 : Hid ((P.take (k + 1)).all numOk = true) := by
            show _ = _
            rw [List.take_succ_eq_append_getElem hlt, List.all_append, HA.out]; simp [hn]
          have HST : Hid ((P.map numV).take (k + 1) = (P.map numV).take k ++ [numV P[k]]) := by show _ = _; rw [List.take_succ_eq_append_getElem (by rw [List.length_map]; exact hlt), List.getElem_map]
          have ho3 : w2.ownsRow w1.heap.size 2 1 u4 ((P.map numV).take k).length (((P.map numV).take k).flatMap fInt.enc) := ho.below hb2
          have hs2 := hB2.size
          clear ho hn
          go_wp2_with (at_builtin; refine wpList_append_one rfl _ _ 37 rfl w1.heap.size 2 i0 (.int .i64 0) 1 8 Tryz.underlying37 hi hz0 hz1 hz2 rfl (by decide) u4 ((P.map numV).take k).length _ rfl ho3 [.int .i64 (numV P[k])] rfl (by intro u hu; rw [List.mem_singleton] at hu; subst hu; rfl) rfl (by omega) (by decide) hs2 ?_)
          intro v' u hown hbu _ _
          have hbu' := hB2.trans hbu
          have ho4 : Own fInt u w1.heap.size 2 v' ((P.map numV).take (k + 1)) := by rw [HST.out]; exact Own.push _ (by rw [List.length_take, List.length_map]; omega) hown
          clear hown
          go_wp2
          go_roundw
          case rel => exact ⟨k + 1, by omega, by go_num, HA2, ho4, hbu'⟩
          case measure => simp [intOf]; omega
      · obtain rfl : k = P.length := by omega
        rw [← List.length_map (f := numV), List.take_length] at ho
        have hall : ∀ x ∈ P, numOk x = true := by
          have h := HA.out
          rw [List.take_length] at h
          exact List.all_eq_true.1 h
        obtain ⟨hE1, hE2⟩ := HEND.out hall
        have hoks := numVs_ok P
        obtain ⟨fpy, hsy, hlo, hnd⟩ := Sl.of_own (n := (P.map numV).length) rfl ho hoks
        have hls := listT_size hoks (by rw [List.length_map]; omega)
        clear hall
        go_wp2_with fail
        refine (ListText_any _ (P.map numV) fpy _ hsy (ht1.below hb).tab).mono ?_
        rintro e w2 ⟨rfl, hb2⟩
        have hB2 := hb.trans (hb2.mono hb.size)
        by_cases hq : listT (P.map numV) = s
        · have HY := Lib.hid (hE1 hq)
          have e2 : ((listT (P.map numV)).toList == s.toList) = true := eqS_true.2 hq
          have hnew := ((ho.below hb2).new hB2 hoks).later hb1
          clear hE1 hE2 hq hsy ho
          go_wp2
          go_ret2
          exact RlR.some_ HY.out hnew
        · have HN := Lib.hid (hE2 hq)
          have e2 : ((listT (P.map numV)).toList == s.toList) = false := bytes_beq_false hq
          clear hE1 hE2 hq hsy ho
          go_wp2
          go_ret2
          exact RlR.none_ HN.out (hb1.trans (hB2.mono hb1.size))

end Go.Proofs.YtfgmikgghpflbaaGreatDoor

namespace Go.Proofs.YtfgmikgghpflbaaGreatDoor
open Go.RowKit
set_option linter.unusedVariables false

def ixL (c : UInt8) : List UInt8 → Nat
  | [] => 0
  | b :: l => if b = c then 0 else ixL c l + 1
theorem ixL_cons (c b : UInt8) (l : List UInt8) : ixL c (b :: l) = if b = c then 0 else ixL c l + 1 := rfl
theorem ixL_le (c : UInt8) : ∀ l, ixL c l ≤ l.length
  | [] => Nat.le_refl _
  | b :: l => by
    rw [ixL_cons]; split
    · simp
    · have := ixL_le c l; simp; omega
theorem ixL_index (c : UInt8) : ∀ l, Lib.index l [c] = if ixL c l < l.length then (ixL c l : Int) else -1
  | [] => rfl
  | b :: l => by
    rw [index_one, ixL_index c l, ixL_cons]
    by_cases e : b = c
    · rw [if_pos e, if_pos e, if_pos (by simp)]; rfl
    · rw [if_neg e, if_neg e]
      by_cases h : ixL c l < l.length
      · rw [if_pos h, if_neg (by rw [beq_iff_eq]; omega), if_pos (by simp; omega)]; push_cast; rfl
      · rw [if_neg h, if_pos (by decide), if_neg (by simp; omega)]
theorem ixL_hit {c : UInt8} {l : List UInt8} {k : Nat} (hk : k < l.length) (h : l[k] = c) : ixL c (l.drop k) = 0 := by
  rw [List.drop_eq_getElem_cons hk, ixL_cons, if_pos h]
theorem ixL_no {c : UInt8} {l : List UInt8} {k : Nat} (hk : k < l.length) (h : l[k] ≠ c) : ixL c (l.drop k) = ixL c (l.drop (k + 1)) + 1 := by
  rw [List.drop_eq_getElem_cons hk, ixL_cons, if_neg h]
theorem ixL_end {c : UInt8} {l : List UInt8} {k : Nat} (hk : l.length ≤ k) : ixL c (l.drop k) = 0 := by
  rw [List.drop_of_length_le hk]; rfl
theorem indexB_one (c : UInt8) (s : ByteArray) : Lib.indexB s ⟨#[c]⟩ = if ixL c s.data.toList < s.size then (ixL c s.data.toList : Int) else -1 := by
  have h := ixL_index c s.data.toList
  have h2 : s.data.toList.length = s.size := by simp
  rw [h2] at h
  exact h

end Go.Proofs.YtfgmikgghpflbaaGreatDoor

namespace Go.Proofs.YtfgmikgghpflbaaGreatDoor
open Go.RowKit Go.WideShapes Go.ChangeShapes Go.ChangeAt

theorem Tryz.own : ownKnob Tryz.prog.godebug = none := by kernel_rfl
theorem Tryz.laidOut : laidOutB Tryz.prog = true := by kernel_rfl

section
variable {H : Type} {enc : TypeId × Value → H} {P : Program}
theorem post_of_below {f : Func} {s : ChangeSpec} {apart fresh handsOn again : Bool} {W W' : World} {args : Array Value} {v : Value} {ds gs : List (DataW H)} {before pa pv : List MemPlace}
    (hW : DataW.Whole enc P f.params.toList s.vars apart W args.toList ds gs before)
    (hres : ∀ (b : Nat) (sp : Nat → Bool) (hd : Bool), DataW.TrodAll enc P W' b sp hd f.resultTypes.toList (v.resultList f.resultTypes.size) (s.fn H (ds ++ gs)).results [])
    (hargs : ∀ sp : Nat → Bool, (∀ p ∈ before, sp p.block = true) → DataW.TrodAll enc P W' 0 sp true f.params.toList args.toList (s.fn H (ds ++ gs)).args pa)
    (hvars : ∀ sp : Nat → Bool, (∀ p ∈ before, sp p.block = true) → DataW.TrodVars enc P W' sp s.vars (s.fn H (ds ++ gs)).vars pv)
    (hps : before = pa ++ pv) (hb : Below W.heap.size W W')
    (hok : ∀ (j : Nat) (t : TypeId) (r : Value), f.resultTypes[j]? = some t → (v.resultList f.resultTypes.size)[j]? = some r → Value.okWide P W' .any 0 t r) :
    s.post enc P f apart fresh handsOn again W args v W' := by
  have hlt : ∀ p ∈ before, p.block < W.heap.size := fun p hp => hW.lt p hp
  have hold : ∀ p ∈ before, (fun b => decide (b < W.heap.size)) p.block = true := fun p hp => by simpa using hlt p hp
  refine ⟨ds, gs, before, [], pa, pv, hW, hres _ _ _, hargs _ hold, hvars _ hold, World.keptBut_mono (fun p hp => ⟨hp, ?_⟩) (hb.frame (· ∈ before)), fun _ => ?_⟩
  · rw [hps, List.mem_append] at hp
    exact Or.inr hp
  · obtain ⟨_, _, _, _, _, hz, hn⟩ := hW
    refine ⟨hok, _, _, ([] ++ pa) ++ pv, ⟨[] ++ pa, pv, trodAll_append (hargs _ (fun _ _ => rfl)) (hres _ _ _), hvars _ (fun _ _ => rfl), rfl, ?_, ?_⟩, ?_⟩
    · intro b off hp
      have hin : MemPlace.cell b off ∈ before := by rw [hps]; simpa using hp
      rw [hb.frozen (hlt _ hin)]
      exact hz b off hin
    · intro ha
      have := hn ha
      rw [hps] at this
      simpa using this
    · intro p hp _
      rw [hps]
      simpa using hp
end

theorem trodAll_below {H : Type} {enc : TypeId × Value → H} {P : Program} (hl : laidOutB P = true) {W W' : World} (hb : Below W.heap.size W W') {sp : Nat → Bool} :
    ∀ (ts : List TypeId) (vs : List Value) (ds : List (DataW H)) (ps : List MemPlace), (∀ t ∈ ts, P.readableRec t = true ∧ t < P.types.size) → DataW.TrodAll enc P W 0 (fun _ => true) true ts vs ds ps → (∀ x ∈ ps, x.block < W.heap.size) → (∀ x ∈ ps, sp x.block = true) → DataW.TrodAll enc P W' 0 sp true ts vs ds ps
  | [], [], [], ps, _, h, _, _ => h
  | t :: ts, v :: vs, d :: ds, ps, hr, h, hlt, hsp => by
    obtain ⟨p, q, h1, h2, rfl⟩ := h
    obtain ⟨r1, r2⟩ := hr t (by simp)
    exact ⟨p, q, WideElems.Trod_stays hl r1 r2 h1 (fun x hx => hb.same (hlt x (by simp [hx]))) (fun x hx => hsp x (by simp [hx])), trodAll_below hl hb ts vs ds q (fun t ht => hr t (by simp [ht])) h2 (fun x hx => hlt x (by simp [hx])) (fun x hx => hsp x (by simp [hx])), rfl⟩
  | [], _ :: _, _, _, _, h, _, _ => by cases h
  | [], [], _ :: _, _, _, h, _, _ => by cases h
  | _ :: _, [], _, _, _, h, _, _ => by cases h
  | _ :: _, _ :: _, [], _, _, h, _, _ => by cases h

theorem trodAll_len {H : Type} {enc : TypeId × Value → H} {P : Program} {W : World} {b : Nat} {sp : Nat → Bool} {hd : Bool} : ∀ (ts : List TypeId) (vs : List Value) (ds : List (DataW H)) (ps : List MemPlace), DataW.TrodAll enc P W b sp hd ts vs ds ps → ds.length = ts.length
  | [], [], [], _, _ => rfl
  | _ :: ts, _ :: vs, _ :: ds, _, h => by obtain ⟨p, q, h1, h2, rfl⟩ := h; simp [trodAll_len ts vs ds q h2]
  | [], _ :: _, _, _, h => by cases h
  | [], [], _ :: _, _, h => by cases h
  | _ :: _, [], _, _, h => by cases h
  | _ :: _, _ :: _, [], _, h => by cases h

set_option maxRecDepth 100000 in
theorem law_lifted {F : FuncId} {fn : Func} {s : ChangeSpec} (os : Os) (started : os.Started) (H : Type) (enc : TypeId × Value → H)
    (hfn : Tryz.checked.prog.funcs[F]? = some fn) (noInit : Tryz.checked.prog.inits.idxOf? F = none)
    (witness : ∃ (w : World) (tape : Tape) (i : Input), w.os = os ∧ (w.forCall tape i).Shaped Tryz.checked.prog ∧ i.vars = [] ∧ Input.okWide Tryz.checked.prog (w.forCall tape i) .any w.heap.size F i ∧
      s.pre6 enc Tryz.checked.prog fn [] false (w.forCall tape i).memory i.args ∧ ({} : Assume).holds Tryz.checked.prog (lone (Frame.enter Tryz.checked.prog F i.args .normal) [] (w.forCall tape i)))
    (hs : s.vars = []) (hres : fn.resultTypes = #[4]) (hread : ∀ t ∈ fn.params.toList, Tryz.prog.readableRec t = true ∧ t < Tryz.prog.types.size)
    (hspec : ∀ ds : List (DataW H), ds.length = fn.params.toList.length → s.fn H ds = { results := [.lit (.bool true)], args := ds })
    (walk : ∀ (W : World) (args : Array Value) (ds : List (DataW H)) (p : List MemPlace), (∀ (j : Nat) t v, fn.params[j]? = some t → args[j]? = some v → ∃ base, Value.okWide Tryz.prog W .any base t v) →
      DataW.TrodAll enc Tryz.prog W 0 (fun _ => true) true fn.params.toList args.toList ds p → W.noneFrozen p → Calls Tryz.prog F args W fun e W' => e = .returned (.bool true) ∧ Below W.heap.size W W') :
    ReturnsInHanded {} Tryz.checked os F .any (s.pre6 enc Tryz.checked.prog fn [] false) (s.post enc Tryz.checked.prog fn false true false false) := by
  refine returnsInHanded_of_change (C := Tryz.checked) Tryz.own started noInit hfn witness ?_
  intro W base args ds gs before hval hW hcnd _
  have hW' := hW
  obtain ⟨p, q, hA, hV, hpq, hfz, hnd⟩ := hW
  rw [hs] at hV
  obtain ⟨rfl, rfl⟩ := trodVars_none hV
  rw [List.append_nil] at hpq
  subst hpq
  refine (walk W args ds _ (fun j t v h1 h2 => ⟨base, hval j t v h1 h2⟩) hA hfz).mono fun e W' ⟨he, hb⟩ => ?_
  subst he
  have hsp : s.fn H (ds ++ []) = { results := [.lit (.bool true)], args := ds } := by
    rw [List.append_nil]; exact hspec ds (trodAll_len _ _ _ _ hA)
  have hlt := fun x hx => hW'.lt x hx
  refine ⟨_, rfl, post_of_below (pa := before) (pv := []) hW' (fun b sp hd => ?_) (fun sp h => ?_) (fun sp h => ?_) (by simp) hb ?_⟩
  · rw [hsp, hres]; exact trodAll_mk1 (shut_bool Tryz.underlying4 _)
  · rw [hsp]; exact trodAll_below Tryz.laidOut hb _ _ _ _ hread hA hlt h
  · rw [hsp, hs]; rfl
  · rw [hres]; exact fun j t r h1 h2 => ok_one (f := fn) hres rfl (okWide_bool_mk Tryz.underlying4 _) j t r (by rw [hres]; exact h1) (by rw [hres]; exact h2)

end Go.Proofs.YtfgmikgghpflbaaGreatDoor

namespace Go.Proofs.YtfgmikgghpflbaaGreatDoor
open Go.RowKit Go.WideShapes Go.ChangeShapes Go.ChangeAt

set_option maxRecDepth 100000 in
theorem law_liftedS {F : FuncId} {fn : Func} {s : ChangeSpec} (os : Os) (started : os.Started) (H : Type) (enc : TypeId × Value → H)
    (hfn : Tryz.checked.prog.funcs[F]? = some fn) (noInit : Tryz.checked.prog.inits.idxOf? F = none)
    (witness : ∃ (w : World) (tape : Tape) (i : Input), w.os = os ∧ (w.forCall tape i).Shaped Tryz.checked.prog ∧ i.vars = [] ∧ Input.okWide Tryz.checked.prog (w.forCall tape i) .any w.heap.size F i ∧
      s.pre6 enc Tryz.checked.prog fn [] false (w.forCall tape i).memory i.args ∧ ({} : Assume).holds Tryz.checked.prog (lone (Frame.enter Tryz.checked.prog F i.args .normal) [] (w.forCall tape i)))
    (hs : s.vars = []) (hres : fn.resultTypes = #[4]) (hread : ∀ t ∈ fn.params.toList, Tryz.prog.readableRec t = true ∧ t < Tryz.prog.types.size)
    (hspec : ∀ ds : List (DataW H), ds.length = fn.params.toList.length → s.fn H ds = { results := [.lit (.bool true)], args := ds })
    (walk : ∀ (W : World) (args : Array Value) (ds : List (DataW H)) (p : List MemPlace), W.ShapedOpen Tryz.prog → (∀ (j : Nat) t v, fn.params[j]? = some t → args[j]? = some v → ∃ base, Value.okWide Tryz.prog W .any base t v) →
      DataW.TrodAll enc Tryz.prog W 0 (fun _ => true) true fn.params.toList args.toList ds p → W.noneFrozen p → Calls Tryz.prog F args W fun e W' => e = .returned (.bool true) ∧ Below W.heap.size W W') :
    ReturnsInHanded {} Tryz.checked os F .any (s.pre6 enc Tryz.checked.prog fn [] false) (s.post enc Tryz.checked.prog fn false true false false) := by
  refine returnsInHanded_of_change_shaped (C := Tryz.checked) Tryz.own started noInit hfn witness ?_
  intro W base args ds gs before hval hW hcnd _ hsh _
  have hW' := hW
  obtain ⟨p, q, hA, hV, hpq, hfz, hnd⟩ := hW
  rw [hs] at hV
  obtain ⟨rfl, rfl⟩ := trodVars_none hV
  rw [List.append_nil] at hpq
  subst hpq
  refine (walk W args ds _ hsh (fun j t v h1 h2 => ⟨base, hval j t v h1 h2⟩) hA hfz).mono fun e W' ⟨he, hb⟩ => ?_
  subst he
  have hsp : s.fn H (ds ++ []) = { results := [.lit (.bool true)], args := ds } := by
    rw [List.append_nil]; exact hspec ds (trodAll_len _ _ _ _ hA)
  have hlt := fun x hx => hW'.lt x hx
  refine ⟨_, rfl, post_of_below (pa := before) (pv := []) hW' (fun b sp hd => ?_) (fun sp h => ?_) (fun sp h => ?_) (by simp) hb ?_⟩
  · rw [hsp, hres]; exact trodAll_mk1 (shut_bool Tryz.underlying4 _)
  · rw [hsp]; exact trodAll_below Tryz.laidOut hb _ _ _ _ hread hA hlt h
  · rw [hsp, hs]; rfl
  · rw [hres]; exact fun j t r h1 h2 => ok_one (f := fn) hres rfl (okWide_bool_mk Tryz.underlying4 _) j t r (by rw [hres]; exact h1) (by rw [hres]; exact h2)

/-- A variable of the library's own holds some number. -/
theorem maxLen_cell {w : World} (h : w.ShapedOpen Tryz.prog) : ∃ m, w.cell? ⟨0, 0, none⟩ = some (.int .i64 m) :=
  Go.Proofs.cell_of_shapedOpen_int (zero := #[.int .i64 0]) (t := 3) h (of_decide_eq_true (by kernel_rfl)) (by kernel_rfl) rfl (by kernel_rfl) (by kernel_rfl) Tryz.underlying3
theorem cell_below {w w' : World} {a : Addr} {v : Value} (h : Below w.heap.size w w') (c : w.cell? a = some v) : w'.cell? a = some v := (h.cell (block_lt_of_cell c)).trans c
end Go.Proofs.YtfgmikgghpflbaaGreatDoor

namespace Go.Proofs.YtfgmikgghpflbaaGreatDoor
open Go.RowKit
set_option linter.unusedVariables false

def oneK (k : Nat) (b : ByteArray) : Bool := match rlF b with | some xs => decide (xs.length = k) | none => false
def numK (k : Nat) (b : ByteArray) : List Int := match rlF b with | some xs => if xs.length = k then xs else List.replicate k 0 | none => List.replicate k 0
theorem oneK_some {k : Nat} {b : ByteArray} {xs : List Int} (h : rlF b = some xs) : oneK k b = decide (xs.length = k) := by unfold oneK; rw [h]
theorem oneK_none {k : Nat} {b : ByteArray} (h : rlF b = none) : oneK k b = false := by unfold oneK; rw [h]
theorem numK_some {k : Nat} {b : ByteArray} {xs : List Int} (h : rlF b = some xs) (hl : xs.length = k) : numK k b = xs := by unfold numK; rw [h]; exact if_pos hl
theorem oneK_yes {k : Nat} {b : ByteArray} (h : oneK k b = true) : rlF b = some (numK k b) ∧ (numK k b).length = k := by
  cases hr : rlF b with
  | none => rw [oneK_none hr] at h; cases h
  | some xs =>
    rw [oneK_some hr] at h
    have hl : xs.length = k := of_decide_eq_true h
    rw [numK_some hr hl]
    exact ⟨rfl, hl⟩
theorem oneK_no {k : Nat} {b : ByteArray} (h : oneK k b = false) : numK k b = List.replicate k 0 := by
  cases hr : rlF b with
  | none => unfold numK; rw [hr]
  | some xs =>
    rw [oneK_some hr] at h
    have hl : ¬ xs.length = k := of_decide_eq_false h
    unfold numK; rw [hr]; exact if_neg hl
theorem numK_len (k : Nat) (b : ByteArray) : (numK k b).length = k := by
  cases h : oneK k b
  · rw [oneK_no h]; simp
  · exact (oneK_yes h).2
theorem numK_ok {k : Nat} {b : ByteArray} : ∀ x ∈ numK k b, fInt.ok x := by
  cases h : oneK k b
  · rw [oneK_no h]; intro x hx
    have := List.eq_of_mem_replicate hx
    subst this; show _ ∧ _; simp
  · have h1 := (rlF_text (oneK_yes h).1).1
    intro x hx
    unfold fitsL at h1
    simp only [Bool.and_eq_true] at h1
    have := inB_true.1 (List.all_eq_true.1 h1.2 x hx)
    show _ ∧ _
    omega
theorem name_noblank {x : ByteArray} (h : nameB x = true) : ∀ b ∈ x.data.toList, b ≠ 32 := by
  intro b hb e
  subst e
  unfold nameB at h
  simp only [Bool.and_eq_true] at h
  have ha : allNm x.data.toList = true := by first | exact h.2 | exact h.1.2 | exact h.1.1.2 | exact h.1.1.1
  unfold allNm at ha
  have := List.all_eq_true.1 ha 32 hb
  revert this; decide
theorem joinX_bytes : ∀ (L : List (List UInt8)), (∀ x ∈ L, ∀ b ∈ x, b ≠ 32) → ∀ b ∈ joinX L, b ≠ 32
  | [], _, b, hb => by simp [joinX] at hb
  | x :: r, h, b, hb => by
    unfold joinX at hb
    rw [List.mem_append, List.mem_flatMap] at hb
    rcases hb with hb | ⟨y, hy, hb⟩
    · exact h x (by simp) b hb
    · rcases List.mem_cons.1 hb with rfl | hb
      · decide
      · exact h y (by simp [hy]) b hb
theorem listS_noblank (xs : List Int) : ∀ b ∈ (listS xs).data.toList, b ≠ 32 := by
  by_cases h : xs = []
  · subst h; intro b hb; have : b = 45 := by simpa [listS] using hb
    subst this; decide
  · rw [listS_data h]
    exact joinX_bytes _ (fun y hy b hb => by obtain ⟨v, _, rfl⟩ := List.mem_map.1 hy; exact (itoa_bytes v b hb).2)
/-- A list of numbers that was read has the text that it was read from. -/
theorem numK_text {k : Nat} {b : ByteArray} (h : oneK k b = true) : listT (numK k b) = b ∧ ∀ y ∈ b.data.toList, y ≠ 32 := by
  obtain ⟨h1, h2⟩ := rlF_text (oneK_yes h).1
  have e : listT (numK k b) = b := by unfold listT; rw [if_pos h1, h2]
  exact ⟨e, fun y hy => listS_noblank (numK k b) y (by rw [h2]; exact hy)⟩
theorem ixL_split (c : UInt8) : ∀ l : List UInt8, ixL c l < l.length → l = l.take (ixL c l) ++ c :: l.drop (ixL c l + 1) ∧ ∀ b ∈ l.take (ixL c l), b ≠ c
  | [], h => by simp at h
  | b :: l, h => by
    rw [ixL_cons] at h ⊢
    by_cases e : b = c
    · rw [if_pos e]; subst e; exact ⟨rfl, by simp⟩
    · rw [if_neg e] at h ⊢
      obtain ⟨h1, h2⟩ := ixL_split c l (by simpa using h)
      refine ⟨?_, ?_⟩
      · rw [List.take_succ_cons, List.drop_succ_cons, List.cons_append, ← h1]
      · intro x hx
        rw [List.take_succ_cons] at hx
        rcases List.mem_cons.1 hx with rfl | hx
        · exact e
        · exact h2 x hx
theorem ixL_free (c : UInt8) : ∀ l : List UInt8, ¬ ixL c l < l.length → ∀ b ∈ l, b ≠ c
  | [], _ => by simp
  | b :: l, h => by
    rw [ixL_cons] at h
    by_cases e : b = c
    · rw [if_pos e] at h; simp at h
    · rw [if_neg e] at h
      intro x hx
      rcases List.mem_cons.1 hx with rfl | hx
      · exact e
      · exact ixL_free c l (by simpa using h) x hx
theorem cut_cases (l : List UInt8) : ((∀ b ∈ l, b ≠ 32) ∧ Lib.cut l [32] = (l, [], false)) ∨ ∃ x y, l = x ++ 32 :: y ∧ (∀ b ∈ x, b ≠ 32) ∧ Lib.cut l [32] = (x, y, true) := by
  have hi := ixL_index 32 l
  by_cases h : ixL 32 l < l.length
  · obtain ⟨h1, h2⟩ := ixL_split 32 l h
    refine .inr ⟨_, _, h1, h2, ?_⟩
    rw [if_pos h] at hi
    unfold Lib.cut
    rw [hi, if_pos (by omega)]
    rfl
  · refine .inl ⟨ixL_free 32 l h, ?_⟩
    rw [if_neg h] at hi
    unfold Lib.cut
    rw [hi, if_neg (by omega)]
def cA (s : ByteArray) : ByteArray := ⟨(Lib.cut s.data.toList [32]).1.toArray⟩
def cZ (s : ByteArray) : ByteArray := ⟨(Lib.cut s.data.toList [32]).2.1.toArray⟩
theorem cAZ_size (s : ByteArray) : (cA s).size ≤ s.size ∧ (cZ s).size ≤ s.size := by
  have hl : s.data.toList.length = s.size := by simp
  have e1 : (cA s).size = (Lib.cut s.data.toList [32]).1.length := mkL_size _
  have e2 : (cZ s).size = (Lib.cut s.data.toList [32]).2.1.length := mkL_size _
  rw [e1, e2]
  rcases cut_cases s.data.toList with ⟨_, h⟩ | ⟨x, y, hxy, _, h⟩
  · rw [h, ← hl]; exact ⟨Nat.le_refl _, Nat.zero_le _⟩
  · rw [h]
    have := congrArg List.length hxy
    rw [hl, List.length_append, List.length_cons] at this
    show x.length ≤ _ ∧ y.length ≤ _
    omega
/-- A name and a list of numbers behind the first blank. -/
theorem words_of {s : ByteArray} {k : Nat} (h : oneK k (cZ s) = true) : splS 32 s = [cA s, cZ s] ∧ cA s ++ ⟨#[32]⟩ ++ cZ s = s := by
  rcases cut_cases s.data.toList with ⟨_, hc⟩ | ⟨x, y, hxy, hx, hc⟩
  · exfalso
    have : cZ s = ⟨#[]⟩ := by unfold cZ; rw [hc]
    rw [this] at h
    rw [oneK_none (show rlF ⟨#[]⟩ = none from rfl)] at h
    cases h
  · have hA : (cA s).data.toList = x := by unfold cA; rw [hc]
    have hZ : (cZ s).data.toList = y := by unfold cZ; rw [hc]
    have hy := (numK_text h).2
    rw [hZ] at hy
    constructor
    · refine (splS_of ?_).symm
      rw [List.map_cons, List.map_cons, List.map_nil, hA, hZ, hxy, splL_app 32 x y hx, splL_none hy]
    · refine data_inj ?_
      rw [Go.Joins.data_append, Go.Joins.data_append, hA, hZ, hxy]; simp
theorem words_back {s a b : ByteArray} (h : splS 32 s = [a, b]) : cA s = a ∧ cZ s = b := by
  have hd := splS_data 32 s
  rw [h] at hd
  rcases cut_cases s.data.toList with ⟨hn, hc⟩ | ⟨x, y, hxy, hx, hc⟩
  · rw [splL_none hn] at hd; exact absurd (congrArg List.length hd) (by simp)
  · rw [hxy, splL_app 32 x y hx, List.map_cons, List.map_cons, List.map_nil] at hd
    obtain ⟨h1, h2⟩ := List.cons.inj hd
    have h3 := splL_join 32 y [] b.data.toList h2.symm
    have hA : (cA s).data.toList = x := by unfold cA; rw [hc]
    have hZ : (cZ s).data.toList = y := by unfold cZ; rw [hc]
    exact ⟨data_inj (by rw [hA, h1]), data_inj (by rw [hZ, ← h3]; simp)⟩
theorem words_few {s : ByteArray} {k : Nat} (h : ¬ (splS 32 s).length = 2) : oneK k (cZ s) = false := by
  cases hk : oneK k (cZ s) with
  | false => rfl
  | true => rw [(words_of hk).1] at h; exact absurd rfl h
theorem words4 {s a b c d : ByteArray} (h : splS 32 s = [a, b, c, d]) : a ++ ⟨#[32]⟩ ++ b ++ ⟨#[32]⟩ ++ c ++ ⟨#[32]⟩ ++ d = s := by
  have hd := splS_data 32 s
  rw [h] at hd
  have hj := splL_join 32 s.data.toList [a.data.toList, b.data.toList, c.data.toList] d.data.toList hd.symm
  refine data_inj ?_
  rw [Go.Joins.data_append, Go.Joins.data_append, Go.Joins.data_append, Go.Joins.data_append, Go.Joins.data_append, Go.Joins.data_append, ← hj]; simp
theorem made2 (v : Value) : madeCells #[v] 2 = #[v, v] := by
  unfold madeCells
  rw [show Array.range 2 = #[0, 1] from by decide]
  simp [Nat.mod_one]
theorem made3R (v : Value) : madeCells #[v] 3 = #[v, v, v] := by
  unfold madeCells
  rw [show Array.range 3 = #[0, 1, 2] from by decide]
  simp [Nat.mod_one]
theorem splitN_any (s : ByteArray) (c : UInt8) (m : Int) (w : World) (hs : s.size ≤ 1048576) (hm : w.cell? ⟨0, 0, none⟩ = some (.int .i64 m)) :
    Calls Tryz.prog 137 #[.string s, .string ⟨#[c]⟩] w fun e w' => OwnRT fStr 9 w (splS c s) e w' := by
  refine (Tryz.strings_Split s ⟨#[c]⟩ m w (by omega) hm (Nat.le_refl 1)).mono ?_
  rintro e w' ⟨rfl, rfl⟩
  have hl := Lib.splitB_all ⟨#[c]⟩ (Nat.le_refl 1) 0 _ s rfl
  rw [splS_split] at hl ⊢
  rw [← hl]
  have hb0 : Below w.heap.size w (w.alloc (.cells ((splS c s).map Value.string).toArray 9)) := (Below.refl _ _).alloc (Nat.le_refl _) _
  refine ⟨_, rfl, ?_, hb0⟩
  have hll : (splS c s).length ≤ s.size + 1 := by
    have h1 := Lib.countB_le ⟨#[c]⟩ (Nat.le_refl 1) s.size s (Nat.le_refl _)
    omega
  have h := World.ownsRow_lit (e := 9) (size := 1) (base := w.heap.size) w ((splS c s).map Value.string).toArray (splS c s).length (Nat.le_refl _) (by unfold maxLen; omega) (by simp)
  have e1 : (splS c s).map Value.string = (splS c s).flatMap fStr.enc := by
    generalize splS c s = L
    induction L with
    | nil => rfl
    | cons x L ih => rw [List.map_cons, List.flatMap_cons, ih]; rfl
  rw [show ((splS c s).map Value.string).toArray.toList = (splS c s).flatMap fStr.enc from by simpa using e1] at h
  exact h
theorem New.drewR {α : Type} {E : Cod α} {w w' : World} {v : Value} {xs : List α} (h : New E w v xs w') : New E w v xs w'.drew := by
  obtain ⟨⟨fp, h1, h2, h3⟩, hb⟩ := h
  exact ⟨⟨fp, h1.below' (Below.drew (Below.refl _ _)), h2, h3⟩, Below.drew hb⟩
def wiA (s : ByteArray) : ByteArray := if oneK 2 (cZ s) then cA s else ⟨#[]⟩
set_option maxRecDepth 100000 in
set_option maxHeartbeats 4000000 in
theorem readWithId_any (s : ByteArray) (m : Int) (w : World) (hs : s.size ≤ 1048576) (hm : w.cell? ⟨0, 0, none⟩ = some (.int .i64 m)) (ht : RdTabs w) :
    Calls Tryz.prog 81 #[.string s, .int .i64 2] w fun e w' => ∃ v, e = .returned (.tuple #[.string (wiA s), v, .bool (oneK 2 (cZ s))]) ∧ New fInt.cod w v (numK 2 (cZ s)) w' := by
  obtain ⟨i0, hi, hz0, hz1, hz2⟩ := info_parts infoIntR
  have hmk : ∀ W : World, (Instr.makeSlice 37 (.int .i64 2) (.int .i64 2)).run Tryz.prog W = .ok (.slice (some ⟨W.heap.size, 0, none⟩) 2 2) (W.alloc (.cells (madeCells (Value.int .i64 0).cells (2 * i0.size)) 2)) := fun W => run_make_rowN (P := Tryz.prog) 37 2 i0 _ Tryz.underlying37 hi hz0 .i64 .i64 2 2 (Nat.le_refl _) (by rw [hz2]; decide) (by decide) W
  rw [hz1] at hmk
  have hzero : ∀ W : World, Own fInt (W.alloc (.cells (madeCells #[Value.int .i64 0] 2) 2)) W.heap.size 2 (.slice (some ⟨W.heap.size, 0, none⟩) 2 2) [0, 0] := fun W => by
    rw [made2]
    exact World.ownsRow_lit (e := 2) (size := 1) W #[Value.int .i64 0, .int .i64 0] 2 (Nat.le_refl _) (by decide) rfl
  have hsz := (cAZ_size s).2
  have hsA := (cAZ_size s).1
  have hcut : Calls Tryz.prog 181 #[.string s, .string ⟨#[32]⟩] w fun e w' => e = .returned (.tuple #[.string (cA s), .string (cZ s), .bool (Lib.cut s.data.toList [32]).2.2]) ∧ ∃ n, w' = w.drewN n := Tryz.strings_Cut s ⟨#[32]⟩ m w (by omega) hm
  have hWA : wiA s = if oneK 2 (cZ s) then cA s else ⟨#[]⟩ := rfl
  generalize (Lib.cut s.data.toList [32]).2.2 = fnd at *
  generalize cA s = sa at *
  generalize cZ s = sz at *
  generalize wiA s = ra at *
  go_enter Tryz.func81, Tryz.ntmps81
  go_wp2_with fail
  refine hcut.mono ?_
  rintro e w' ⟨rfl, n, rfl⟩
  have hW : Below w.heap.size w (w.drewN n) := below_drewN (Below.refl _ _) _
  generalize hwn : w.drewN n = wn at *
  go_wp2_with fail
  refine (implReadList_any sz m _ (by omega) (cell_below hW hm) (ht.below hW)).mono ?_
  rintro e w1 ⟨v1, rfl, hn1⟩
  have hb1 := hW.trans (hn1.below.mono hW.size)
  have hn1' := hn1.later hW
  have HFAIL : Hid (oneK 2 sz = false → ∃ v, Ending.returned (.tuple #[.string ⟨#[]⟩, .slice (some ⟨w1.heap.size, 0, none⟩) 2 2, .bool false]) = .returned (.tuple #[.string ra, v, .bool (oneK 2 sz)]) ∧ New fInt.cod w v (numK 2 sz) (w1.alloc (.cells (madeCells #[Value.int .i64 0] 2) 2)).drew) := fun h => by
    refine ⟨_, by rw [hWA, h]; rfl, ?_⟩
    rw [oneK_no h]
    exact (((hzero w1).new ((Below.refl _ _).alloc (Nat.le_refl _) _) (by intro x hx; simp at hx; subst hx; show _ ∧ _; simp)).later hb1).drewR
  clear hzero
  cases hr : rlF sz with
  | none =>
    have h1 := oneK_none (k := 2) hr
    rw [show (none : Option (List Int)).isSome = false from rfl]
    clear hn1 hn1' hr hWA
    go_wp2
    refine wp_region_mixed [0, 2, 1, 3, 4] (C := fun w' => ∃ p : Regrown, w' = Go.Sort.grow (redrawn w1 p.d) p.os) [true, true, false, true, true] (by kernel_rfl) (by kernel_rfl) (by kernel_rfl) (fun _ _ d _ _ h => by cases d <;> exact h) (regrown_of_below (Below.drew (Below.refl _ _))) ?_
    simp only [List.map_cons, List.map_nil, List.getD_cons_zero, List.getD_cons_succ]
    have hS0 : Below (w1.heap.size) w1 w1.drew := Below.drew (Below.refl _ _)
    refine wpMix_pure (by kernel_rfl) (fun K hK => ?_); go_big_quiet_op; refine hK _ ?_; clear hK K
    refine wpMix_pure (by kernel_rfl) (fun K hK => ?_); go_big_quiet_op; refine hK _ ?_; clear hK K
    refine wpMix_act (by kernel_rfl) (fun K hK => ?_)
    go_big_op
    refine hK _ _ (regrown_of_below (by first | exact hS0.alloc hS0.size _ | exact Below.drew ((Below.refl _ _).alloc (Nat.le_refl _) _) | exact (Below.drew (Below.refl _ _)).alloc (Nat.le_refl _) _)) ?_
    clear hK K
    refine wpMix_pure (by kernel_rfl) (fun K hK => ?_); go_big_quiet_op; refine hK _ ?_; clear hK K
    refine wpMix_pure (by kernel_rfl) (fun K hK => ?_); go_big_quiet_op; refine hK _ ?_; clear hK K
    refine wpMix_nil ?_
    have HQ := Lib.hid (HFAIL.out h1)
    clear h1 hS0
    go_wp2
    go_ret3
    exact HQ.out
  | some xs =>
    have h1 := oneK_some (k := 2) hr
    rw [show (some xs : Option (List Int)).isSome = true from rfl]
    rw [hr] at hn1'
    have hn2 : New fInt.cod w v1 xs w1 := hn1'
    obtain ⟨⟨fpy, hsy, _, _⟩, _⟩ := id hn2
    obtain ⟨A, cap, rfl, _, _⟩ := hsy.form
    clear hn1 hn1' hsy
    by_cases h2 : xs.length = 2
    · rw [decide_eq_true h2] at h1
      have HN := Lib.hid (numK_some hr h2)
      have hn3 : New fInt.cod w (.slice A 2 cap) xs w1 := by rw [← h2]; exact hn2
      have HA : Hid (ra = sa) := by show _ = _; rw [hWA, h1]; rfl
      have H1 := Lib.hid h1
      have e5 : ((xs.length : Int) == 2) = true := by rw [beq_iff_eq]; omega
      have e6 : ((xs.length : Int) != 2) = false := by unfold bne; rw [e5]; rfl
      clear hr h1 hWA
      go_wp2
      go_ret3
      exact ⟨_, by rw [H1.out, HA.out]; rfl, by rw [HN.out]; exact hn3⟩
    · rw [decide_eq_false h2] at h1
      have e5 : ((xs.length : Int) == 2) = false := by rw [beq_eq_false_iff_ne]; omega
      have e6 : ((xs.length : Int) != 2) = true := by unfold bne; rw [e5]; rfl
      clear hr hn2 hWA
      go_wp2
      refine wp_region_mixed [0, 2, 1, 3, 4] (C := fun w' => ∃ p : Regrown, w' = Go.Sort.grow (redrawn w1 p.d) p.os) [true, true, false, true, true] (by kernel_rfl) (by kernel_rfl) (by kernel_rfl) (fun _ _ d _ _ h => by cases d <;> exact h) (regrown_of_below (Below.drew (Below.refl _ _))) ?_
      simp only [List.map_cons, List.map_nil, List.getD_cons_zero, List.getD_cons_succ]
      have hS0 : Below (w1.heap.size) w1 w1.drew := Below.drew (Below.refl _ _)
      refine wpMix_pure (by kernel_rfl) (fun K hK => ?_); go_big_quiet_op; refine hK _ ?_; clear hK K
      refine wpMix_pure (by kernel_rfl) (fun K hK => ?_); go_big_quiet_op; refine hK _ ?_; clear hK K
      refine wpMix_act (by kernel_rfl) (fun K hK => ?_)
      go_big_op
      refine hK _ _ (regrown_of_below (by first | exact hS0.alloc hS0.size _ | exact Below.drew ((Below.refl _ _).alloc (Nat.le_refl _) _) | exact (Below.drew (Below.refl _ _)).alloc (Nat.le_refl _) _)) ?_
      clear hK K
      refine wpMix_pure (by kernel_rfl) (fun K hK => ?_); go_big_quiet_op; refine hK _ ?_; clear hK K
      refine wpMix_pure (by kernel_rfl) (fun K hK => ?_); go_big_quiet_op; refine hK _ ?_; clear hK K
      refine wpMix_nil ?_
      have HQ := Lib.hid (HFAIL.out h1)
      clear h1 hS0
      go_wp2
      go_ret3
      exact HQ.out

end Go.Proofs.YtfgmikgghpflbaaGreatDoor

namespace Go.Proofs.YtfgmikgghpflbaaGreatDoor
open Go.RowKit
set_option linter.unusedVariables false

/-- The text of a name and numbers. -/
def widT (i : ByteArray) (xs : List Int) : ByteArray := i ++ ⟨#[32]⟩ ++ listT xs
theorem widT_cut {i : ByteArray} {xs : List Int} (hi : ∀ b ∈ i.data.toList, b ≠ 32) (hf : fitsL xs = true) : cA (widT i xs) = i ∧ cZ (widT i xs) = listS xs := by
  have e : listT xs = listS xs := by unfold listT; rw [if_pos hf]
  refine words_back ?_
  refine (splS_of ?_).symm
  unfold widT
  rw [e, List.map_cons, List.map_cons, List.map_nil, Go.Joins.data_append, Go.Joins.data_append]
  rw [show i.data.toList ++ (⟨#[32]⟩ : ByteArray).data.toList ++ (listS xs).data.toList = i.data.toList ++ 32 :: (listS xs).data.toList by simp]
  rw [splL_app 32 _ _ hi, splL_none (listS_noblank xs)]
theorem fitsL_of {xs : List Int} (hl : xs.length ≤ 64) (h : ∀ x ∈ xs, -1000000000000 ≤ x ∧ x ≤ 1000000000000) : fitsL xs = true := by
  unfold fitsL
  rw [decide_eq_true hl, Bool.true_and, List.all_eq_true]
  exact fun x hx => inB_true.2 (h x hx)
set_option maxRecDepth 100000 in
set_option maxHeartbeats 4000000 in
theorem readWithId_of (i : ByteArray) (xs : List Int) (k : Nat) (w : World) (hi : ∀ b ∈ i.data.toList, b ≠ 32) (hiz : i.size ≤ 100) (hf : fitsL xs = true) (hk : xs.length = k) (m : Int) (hm : w.cell? ⟨0, 0, none⟩ = some (.int .i64 m)) (ht : RdTabs w) :
    Calls Tryz.prog 81 #[.string (widT i xs), .int .i64 k] w fun e w' => ∃ v, e = .returned (.tuple #[.string i, v, .bool true]) ∧ New fInt.cod w v xs w' := by
  have hxo : ∀ x ∈ xs, fInt.ok x := fun x hx => by
    unfold fitsL at hf
    rw [Bool.and_eq_true, List.all_eq_true] at hf
    have := inB_true.1 (hf.2 x hx)
    show _ ∧ _; omega
  have hl64 : xs.length ≤ 64 := by
    unfold fitsL at hf
    rw [Bool.and_eq_true] at hf
    exact of_decide_eq_true hf.1
  have hsz := listS_size hxo
  have hlt : listT xs = listS xs := by unfold listT; rw [if_pos hf]
  have hs : (widT i xs).size ≤ 1048576 := by
    unfold widT
    rw [hlt, ByteArray.size_append, ByteArray.size_append]
    show _ + 1 + _ ≤ _; omega
  obtain ⟨hA, hZ⟩ := widT_cut hi hf
  have hcut : Calls Tryz.prog 181 #[.string (widT i xs), .string ⟨#[32]⟩] w fun e w' => e = .returned (.tuple #[.string (cA (widT i xs)), .string (cZ (widT i xs)), .bool (Lib.cut (widT i xs).data.toList [32]).2.2]) ∧ ∃ n, w' = w.drewN n := Tryz.strings_Cut _ ⟨#[32]⟩ m w (by omega) hm
  rw [hA, hZ] at hcut
  have hr := rlF_list hf
  generalize (Lib.cut (widT i xs).data.toList [32]).2.2 = fnd at *
  generalize widT i xs = s at *
  clear hA hZ hlt
  go_enter Tryz.func81, Tryz.ntmps81
  go_wp2_with fail
  refine hcut.mono ?_
  rintro e w' ⟨rfl, n, rfl⟩
  have hW : Below w.heap.size w (w.drewN n) := below_drewN (Below.refl _ _) _
  generalize hwn : w.drewN n = wn at *
  go_wp2_with fail
  refine (implReadList_any (listS xs) m _ (by omega) (cell_below hW hm) (ht.below hW)).mono ?_
  rintro e w1 ⟨v1, rfl, hn1⟩
  have hn1' := hn1.later hW
  rw [hr] at hn1'
  have hn2 : New fInt.cod w v1 xs w1 := hn1'
  obtain ⟨⟨fpy, hsy, _, _⟩, _⟩ := id hn2
  obtain ⟨A, cap, rfl, _, _⟩ := hsy.form
  rw [hr, show (some xs : Option (List Int)).isSome = true from rfl]
  have hn3 : New fInt.cod w (.slice A k cap) xs w1 := by rw [← hk]; exact hn2
  have e5 : ((xs.length : Int) == (k : Int)) = true := by rw [beq_iff_eq]; omega
  have e6 : ((xs.length : Int) != (k : Int)) = false := by unfold bne; rw [e5]; rfl
  clear hn1 hn1' hsy hr hn2
  go_wp2
  go_ret3
  exact ⟨_, rfl, by first | exact hn3 | (rw [hk]; exact hn3)⟩
end Go.Proofs.YtfgmikgghpflbaaGreatDoor

namespace Go.Proofs.YtfgmikgghpflbaaGreatDoor
open Go.RowKit
set_option linter.unusedVariables false

def nsT (xs : List DObserved) (a b : Int) (m : Nat) : Int := if a ≤ (xs.getD m obs0).hour then (if (xs.getD (m + 1) obs0).hour ≤ b then max ((xs.getD (m + 1) obs0).snow - (xs.getD m obs0).snow) 0 else 0) else 0
/-- The sum over the first m pairs of neighbours. -/
def nsS (xs : List DObserved) (a b : Int) : Nat → Int
  | 0 => 0
  | m + 1 => nsS xs a b m + nsT xs a b m
theorem nsT_pos (xs : List DObserved) (a b : Int) (m : Nat) : 0 ≤ nsT xs a b m := by unfold nsT; (repeat' split) <;> omega
theorem nsS_pos (xs : List DObserved) (a b : Int) : ∀ m, 0 ≤ nsS xs a b m
  | 0 => by unfold nsS; omega
  | m + 1 => by have := nsS_pos xs a b m; have := nsT_pos xs a b m; unfold nsS; omega
def nsC (xs : List DObserved) (a b : Int) : Int := if obssB xs then (if inB a 0 100000 && inB b 0 100000 && decide (a ≤ b) then 0 else 2) else 1
def nsV (xs : List DObserved) (a b : Int) : Int := if nsC xs a b = 0 then nsS xs a b (xs.length - 1) else 0
theorem ns_bad {xs : List DObserved} {a b c : Int} (hc : nsC xs a b = c) (h0 : c ≠ 0) : nsC xs a b = c ∧ nsV xs a b = 0 := ⟨hc, by unfold nsV; rw [if_neg (by rw [hc]; exact h0)]⟩
theorem nsT_le {xs : List DObserved} (hv : obssB xs = true) {a b : Int} {m : Nat} (hm : m + 1 < xs.length) : nsT xs a b m ≤ 2000 := by
  obtain ⟨_, h1, _, _⟩ := obsB_parts (obssB_one hv hm)
  obtain ⟨_, h2, _, _⟩ := obsB_parts (obssB_one hv (show m < xs.length by omega))
  unfold nsT
  rw [getD_of_lt hm, getD_of_lt (show m < xs.length by omega)]
  (repeat' split) <;> omega
theorem nsS_le {xs : List DObserved} (hv : obssB xs = true) {a b : Int} : ∀ m, m < xs.length → nsS xs a b m ≤ 2000 * m
  | 0, _ => by unfold nsS; omega
  | m + 1, h => by have := nsS_le hv (a := a) (b := b) m (by omega); have := nsT_le hv (a := a) (b := b) h; unfold nsS; omega
theorem ns_parts {xs : List DObserved} (hv : obssB xs = true) {a m b : Int} (h1 : a ≤ m) (h2 : m ≤ b) : ∀ k, k < xs.length → nsS xs a m k + nsS xs m b k ≤ nsS xs a b k
  | 0, _ => by unfold nsS; omega
  | k + 1, h => by
    have ih := ns_parts hv h1 h2 k (by omega)
    have h3 := of_decide_eq_true (show decide (xs[k].hour < xs[k + 1].hour) = true from obssB_two hv h)
    have h4 : nsT xs a m k + nsT xs m b k ≤ nsT xs a b k := by
      unfold nsT
      rw [getD_of_lt h, getD_of_lt (show k < xs.length by omega)]
      (repeat' split) <;> omega
    unfold nsS; omega
theorem ns_none {xs : List DObserved} (hv : obssB xs = true) {a : Int} : ∀ k, k < xs.length → nsS xs a a k = 0
  | 0, _ => rfl
  | k + 1, h => by
    have ih := ns_none hv (a := a) k (by omega)
    have h3 := of_decide_eq_true (show decide (xs[k].hour < xs[k + 1].hour) = true from obssB_two hv h)
    have h4 : nsT xs a a k = 0 := by
      unfold nsT
      rw [getD_of_lt h, getD_of_lt (show k < xs.length by omega)]
      (repeat' split) <;> omega
    unfold nsS; omega
set_option maxRecDepth 100000 in
set_option maxHeartbeats 8000000 in
theorem NewSnow_any (v : Value) (xs : List DObserved) (fp : List Nat) (a b : Int) (w : World) (hx : Sl fObserved.cod w v xs fp) :
    Calls Tryz.prog 39 #[v, .int .i64 a, .int .i64 b] w fun e w' => e = .returned (.tuple #[.int .i64 (nsV xs a b), .int .i64 (nsC xs a b)]) ∧ Below w.heap.size w w' := by
  obtain ⟨A, cap, rfl, hlen, hcap⟩ := hx.form
  go_enter Tryz.func39, Tryz.ntmps39
  go_wp2_with fail
  refine (ValidObserved_any _ xs fp _ hx).mono ?_
  rintro e w1 ⟨rfl, hb1⟩
  have hx1 := hx.below' hb1
  clear hx
  cases hv : obssB xs
  · have HE := Lib.hid (ns_bad (show nsC xs a b = 1 by unfold nsC; rw [hv]; rfl) (by decide))
    go_wp2
    go_ret2
    exact ⟨by rw [HE.out.1, HE.out.2]; rfl, hb1⟩
  have hlen2 := obssB_len hv
  go_wp2_with fail
  refine (hourOkV_any _ _).mono ?_
  rintro e w' ⟨rfl, rfl⟩
  cases hi : inB a 0 100000
  · have HE := Lib.hid (ns_bad (show nsC xs a b = 2 by unfold nsC; rw [hv, hi]; rfl) (by decide))
    go_wp2
    go_ret2
    exact ⟨by rw [HE.out.1, HE.out.2]; rfl, hb1⟩
  go_wp2_with fail
  refine (hourOkV_any _ _).mono ?_
  rintro e w' ⟨rfl, rfl⟩
  cases hj : inB b 0 100000
  · have HE := Lib.hid (ns_bad (show nsC xs a b = 2 by unfold nsC; rw [hv, hi, hj]; rfl) (by decide))
    go_wp2
    go_ret2
    exact ⟨by rw [HE.out.1, HE.out.2]; rfl, hb1⟩
  by_cases hab : b < a
  · have HE := Lib.hid (ns_bad (show nsC xs a b = 2 by unfold nsC; rw [hv, hi, hj, decide_eq_false (by omega)]; rfl) (by decide))
    clear hi hj
    go_wp2
    go_ret2
    exact ⟨by rw [HE.out.1, HE.out.2]; rfl, hb1⟩
  have hC : nsC xs a b = 0 := by unfold nsC; rw [hv, hi, hj, decide_eq_true (by omega)]; rfl
  have HV : Hid (nsV xs a b = nsS xs a b (xs.length - 1)) := by show _ = _; unfold nsV; rw [if_pos hC]
  have HC := Lib.hid hC
  have hab2 : a ≤ b := by omega
  clear hC hi hj hab
  go_wp2
  go_loopw [8, 9] (fun t i wr => ∃ m : Nat, (m = 0 ∨ m < xs.length) ∧ i = .int .i64 ((m : Int) + 1) ∧ t = .int .i64 (nsS xs a b m) ∧ Below w1.heap.size w1 wr) (fun _ i _ => xs.length + 1 - (intOf i).toNat)
  case atStart => exact ⟨0, .inl rfl, rfl, rfl, Below.refl _ _⟩
  case round =>
    obtain ⟨m, hm, rfl, rfl, hb⟩ := hrel
    by_cases hlt : m + 1 < xs.length
    · have hlt' : (m : Int) + 1 < (xs.length : Int) := by omega
      obtain ⟨bb, off, rfl, _, _, hp⟩ := PObserved.elem (hx1.below' hb) hlt
      obtain ⟨b', off', hA, _, _, hp'⟩ := PObserved.elem (hx1.below' hb) (show m < xs.length by omega)
      injection hA with hA
      injection hA with hA1 hA2 _
      subst hA1 hA2
      obtain ⟨c0, c1, c2, c3⟩ := id hp
      obtain ⟨d0, d1, d2, d3⟩ := id hp'
      have hS0 := nsS_pos xs a b m
      have hS1 := nsS_le hv (a := a) (b := b) m (by omega)
      obtain ⟨_, hs1, _, _⟩ := obsB_parts (obssB_one hv hlt)
      obtain ⟨_, hs2, _, _⟩ := obsB_parts (obssB_one hv (show m < xs.length by omega))
      have HN : Hid (nsT xs a b m = if a ≤ xs[m].hour then (if xs[m + 1].hour ≤ b then max (xs[m + 1].snow - xs[m].snow) 0 else 0) else 0) := by
        show _ = _
        unfold nsT
        rw [getD_of_lt hlt, getD_of_lt (show m < xs.length by omega)]
      generalize hS : nsS xs a b m = S0 at *
      have HSS := Lib.hid hS
      clear hS
      by_cases hq1 : a ≤ xs[m].hour
      · by_cases hq2 : xs[m + 1].hour ≤ b
        · have HS : Hid (nsS xs a b (m + 1) = S0 + max (xs[m + 1].snow - xs[m].snow) 0) := by
            show _ = _
            unfold nsS; rw [HSS.out, HN.out, if_pos hq1, if_pos hq2]
          have hmx : 0 ≤ max (xs[m + 1].snow - xs[m].snow) 0 ∧ max (xs[m + 1].snow - xs[m].snow) 0 ≤ 2000 := by omega
          clear HN HSS
          go_wp2
          have gc1 := cell_regrown c1
          have gd1 := cell_regrown d1
          refine wp_region_mix (C := fun w' => ∃ p : Regrown, w' = Go.Sort.grow (redrawn wr p.d) p.os) [true, true, true, true, true, true, true, true, true, true, true, true, true, true, true, true] (by kernel_rfl) (by kernel_rfl) (by kernel_rfl) (fun _ _ d _ _ h => by cases d <;> exact h) (regrown_of_below (Below.drew (Below.refl _ _))) ?_
          have hSd : Below (wr.heap.size) wr wr.drew := Below.drew (Below.refl _ _)
          refine wpMix_pure (by kernel_rfl) (fun K hK => ?_); go_big_quiet_op; refine hK _ ?_; clear hK K
          refine wpMix_pure (by kernel_rfl) (fun K hK => ?_); go_big_quiet_op; refine hK _ ?_; clear hK K
          refine wpMix_pure (by kernel_rfl) (fun K hK => ?_); go_big_quiet_op; refine hK _ ?_; clear hK K
          refine wpMix_pure (by kernel_rfl) (fun K hK => ?_); go_big_quiet_op; refine hK _ ?_; clear hK K
          refine wpMix_pure (by kernel_rfl) (fun K hK => ?_); go_big_quiet_op; refine hK _ ?_; clear hK K
          refine wpMix_pure (by kernel_rfl) (fun K hK => ?_); go_big_quiet_op; refine hK _ ?_; clear hK K
          refine wpMix_pure (by kernel_rfl) (fun K hK => ?_); go_big_quiet_op; refine hK _ ?_; clear hK K
          refine wpMix_pure (by kernel_rfl) (fun K hK => ?_); go_big_quiet_op; refine hK _ ?_; clear hK K
          refine wpMix_pure (by kernel_rfl) (fun K hK => ?_); go_big_quiet_op; refine hK _ ?_; clear hK K
          refine wpMix_pure (by kernel_rfl) (fun K hK => ?_); go_big_quiet_op; refine hK _ ?_; clear hK K
          refine wpMix_pure (by kernel_rfl) (fun K hK => ?_); go_big_quiet_op; refine hK _ ?_; clear hK K
          refine wpMix_pure (by kernel_rfl) (fun K hK => ?_); go_big_quiet_op; refine hK _ ?_; clear hK K
          refine wpMix_pure (by kernel_rfl) (fun K hK => ?_); go_big_quiet_op; refine hK _ ?_; clear hK K
          refine wpMix_pure (by kernel_rfl) (fun K hK => ?_); go_big_quiet_op; refine hK _ ?_; clear hK K
          refine wpMix_pure (by kernel_rfl) (fun K hK => ?_); go_big_quiet_op; refine hK _ ?_; clear hK K
          refine wpMix_pure (by kernel_rfl) (fun K hK => ?_); go_big_quiet_op; refine hK _ ?_; clear hK K
          refine wpMix_nil ?_
          go_wp2
          go_roundw
          case rel => exact ⟨m + 1, by omega, by go_num, by rw [HS.out], hb.trans (hSd.mono hb.size)⟩
          case measure => simp [intOf]; omega
        · have HS : Hid (nsS xs a b (m + 1) = S0) := by
            show _ = _
            unfold nsS; rw [HSS.out, HN.out, if_pos hq1, if_neg hq2]; omega
          clear HN HSS
          go_wp2
          go_roundw
          case rel => exact ⟨m + 1, by omega, by go_num, by rw [HS.out], hb⟩
          case measure => simp [intOf]; omega
      · have HS : Hid (nsS xs a b (m + 1) = S0) := by
          show _ = _
          unfold nsS; rw [HSS.out, HN.out, if_neg hq1]; omega
        clear HN HSS
        go_wp2
        go_roundw
        case rel => exact ⟨m + 1, by omega, by go_num, by rw [HS.out], hb⟩
        case measure => simp [intOf]; omega
    · have hml : m = xs.length - 1 := by omega
      have hlt' : ¬ (m : Int) + 1 < (xs.length : Int) := by omega
      have HM : Hid (nsS xs a b (xs.length - 1) = nsS xs a b m) := by show _ = _; rw [hml]
      clear hml
      go_wp2
      go_ret2
      exact ⟨by rw [HV.out, HC.out, HM.out]; rfl, hb1.trans (hb.mono hb1.size)⟩
def obsT (x : DObserved) : ByteArray := listT [x.hour, x.snow, x.degrees, x.wind]
theorem obs_fits {x : DObserved} (h : obsB x = true) : fitsL [x.hour, x.snow, x.degrees, x.wind] = true := by
  obtain ⟨h1, h2, h3, h4⟩ := obsB_parts h
  refine fitsL_of (by show 4 ≤ 64; decide) (fun y hy => ?_)
  simp only [List.mem_cons, List.not_mem_nil, or_false] at hy
  omega
set_option maxRecDepth 100000 in
set_option maxHeartbeats 4000000 in
theorem ObservedText_any (x : DObserved) (w : World) (hv : obsB x = true) (hok : fObserved.ok x) (ht : Tab10 w) :
    Calls Tryz.prog 36 #[.agg #[.int .i64 x.hour, .int .i64 x.snow, .int .i64 x.degrees, .int .i64 x.wind]] w fun e w' => e = .returned (.string (obsT x)) ∧ Below w.heap.size w w' := by
  have hp := PObserved.box w x 66
  have hB0 : Below w.heap.size w (w.alloc (.cells #[.int .i64 x.hour, .int .i64 x.snow, .int .i64 x.degrees, .int .i64 x.wind] 66)) := (Below.refl _ _).alloc (Nat.le_refl _) _
  have hl4 : ∀ y ∈ [x.hour, x.snow, x.degrees, x.wind], fInt.ok y := fun y hy => by
    obtain ⟨o0, o1, o2, o3⟩ := hok
    simp only [List.mem_cons, List.not_mem_nil, or_false] at hy
    rcases hy with rfl | rfl | rfl | rfl <;> assumption
  have HT := Lib.hid (show obsT x = listT [x.hour, x.snow, x.degrees, x.wind] from rfl)
  generalize obsT x = R at *
  go_enter Tryz.func36, Tryz.ntmps36
  go_wp2_with fail
  refine (validObserved_any x _ hok).mono ?_
  rintro e w1 ⟨rfl, hb1⟩
  rw [hv]
  have hp1 := hp.below' hb1
  have hB1 := hB0.trans (hb1.mono hB0.size)
  have hBL : Below w1.heap.size w1 (w1.alloc (.cells #[.int .i64 x.hour, .int .i64 x.snow, .int .i64 x.degrees, .int .i64 x.wind] 2)) := (Below.refl _ _).alloc (Nat.le_refl _) _
  have hsl := Sl.lit2 (E := fInt) w1 [x.hour, x.snow, x.degrees, x.wind] 2 _ rfl hl4 (by show 0 < 4; decide) (by show 4 ≤ _; decide)
  have hB2 := hB1.trans (hBL.mono hB1.size)
  have ht1 := ht.below hB2
  obtain ⟨c0, c1, c2, c3⟩ := hp1
  clear hp hb1 hB0 hv hok hl4
  go_wp2_with fail
  refine (ListText_any _ [x.hour, x.snow, x.degrees, x.wind] _ _ hsl ht1).mono ?_
  rintro e w2 ⟨rfl, hb2⟩
  go_wp2
  go_ret
  exact ⟨ret_str HT.out.symm, hB2.trans (hb2.mono hB2.size)⟩
set_option maxRecDepth 100000 in
set_option maxHeartbeats 4000000 in
theorem readNumbers_of (xs : List Int) (k : Nat) (w : World) (hf : fitsL xs = true) (hk : xs.length = k) (m : Int) (hm : w.cell? ⟨0, 0, none⟩ = some (.int .i64 m)) (ht : RdTabs w) :
    Calls Tryz.prog 123 #[.string (listT xs), .int .i64 k] w fun e w' => ∃ v, e = .returned (.tuple #[v, .bool true]) ∧ New fInt.cod w v xs w' := by
  have hxo : ∀ x ∈ xs, fInt.ok x := fun x hx => by
    unfold fitsL at hf
    rw [Bool.and_eq_true, List.all_eq_true] at hf
    have := inB_true.1 (hf.2 x hx)
    show _ ∧ _; omega
  have hl64 : xs.length ≤ 64 := by
    unfold fitsL at hf
    rw [Bool.and_eq_true] at hf
    exact of_decide_eq_true hf.1
  have hsz := listS_size hxo
  have hlt : listT xs = listS xs := by unfold listT; rw [if_pos hf]
  have hr := rlF_list hf
  rw [hlt]
  generalize listS xs = s at *
  clear hlt
  go_enter Tryz.func123, Tryz.ntmps123
  go_wp2_with fail
  refine (implReadList_any s m _ (by omega) hm ht).mono ?_
  rintro e w1 ⟨v1, rfl, hn1⟩
  rw [hr] at hn1
  have hn2 : New fInt.cod w v1 xs w1 := hn1
  obtain ⟨⟨fpy, hsy, _, _⟩, _⟩ := id hn2
  obtain ⟨A, cap, rfl, _, _⟩ := hsy.form
  rw [hr, show (some xs : Option (List Int)).isSome = true from rfl]
  have hn3 : New fInt.cod w (.slice A k cap) xs w1 := by rw [← hk]; exact hn2
  have e5 : ((xs.length : Int) == (k : Int)) = true := by rw [beq_iff_eq]; omega
  have e6 : ((xs.length : Int) != (k : Int)) = false := by unfold bne; rw [e5]; rfl
  clear hn1 hsy hr hn2
  go_wp2
  go_ret2
  exact ⟨_, rfl, by first | exact hn3 | (rw [hk]; exact hn3)⟩
set_option maxRecDepth 100000 in
set_option maxHeartbeats 8000000 in
theorem ReadObserved_of (x : DObserved) (w : World) (hv : obsB x = true) (hok : fObserved.ok x) (m : Int) (hm : w.cell? ⟨0, 0, none⟩ = some (.int .i64 m)) (ht : RdTabs w) :
    Calls Tryz.prog 35 #[.string (obsT x)] w fun e w' => e = .returned (.tuple #[agObserved x, .bool true]) ∧ Below w.heap.size w w' := by
  go_enter Tryz.func35, Tryz.ntmps35
  go_wp2_with fail
  refine (readNumbers_of [x.hour, x.snow, x.degrees, x.wind] 4 _ (obs_fits hv) rfl m (cell_below ((Below.refl _ _).alloc (Nat.le_refl _) _) hm) (ht.below ((Below.refl _ _).alloc (Nat.le_refl _) _))).mono ?_
  rintro e w1 ⟨v1, rfl, ⟨⟨fpy, hsy, hlo, _⟩, hb1⟩⟩
  have hX1 : BxObserved w1 w.heap.size := (BxObserved.new w _).belowB hb1 (by simp)
  have hB1 : Below w.heap.size w w1 := ((Below.refl _ _).alloc (Nat.le_refl _) _).trans (hb1.mono (by simp))
  have hg1 : w.heap.size < w1.heap.size := hX1.lt
  clear hb1
  obtain ⟨A2, cap2, rfl, hle2, _⟩ := hsy.form
  obtain ⟨g2, o2, rfl, _, _, n0, _⟩ := hsy.cell1 rfl (k := 0) (by simp) rfl
  obtain ⟨g3, o3, hA2, _, _, n1, _⟩ := hsy.cell1 rfl (k := 1) (by simp) rfl
  injection hA2 with hA2; injection hA2 with ha1 ha2 _; subst ha1 ha2
  obtain ⟨g3, o3, hA2, _, _, n2, _⟩ := hsy.cell1 rfl (k := 2) (by simp) rfl
  injection hA2 with hA2; injection hA2 with ha1 ha2 _; subst ha1 ha2
  obtain ⟨g3, o3, hA2, _, _, n3, _⟩ := hsy.cell1 rfl (k := 3) (by simp) rfl
  injection hA2 with hA2; injection hA2 with ha1 ha2 _; subst ha1 ha2
  replace n0 : w1.cell? ⟨g2, o2, none⟩ = some (.int .i64 x.hour) := by simpa using n0
  replace n1 : w1.cell? ⟨g2, o2 + 1, none⟩ = some (.int .i64 x.snow) := n1
  replace n2 : w1.cell? ⟨g2, o2 + 2, none⟩ = some (.int .i64 x.degrees) := n2
  replace n3 : w1.cell? ⟨g2, o2 + 3, none⟩ = some (.int .i64 x.wind) := n3
  have e3 : (([x.hour, x.snow, x.degrees, x.wind] : List Int).length : Int) = 4 := rfl
  have e3' : ([x.hour, x.snow, x.degrees, x.wind] : List Int).length = 4 := rfl
  clear hsy hlo
  go_wp2
  have gn0 := cell_regrown n0
  have gn1 := cell_regrown n1
  have gn2 := cell_regrown n2
  have gn3 := cell_regrown n3
  refine wp_region_mix (C := fun w' => ∃ p : Regrown, w' = Go.Sort.grow (redrawn w1 p.d) p.os) [true, true, true, true, true, true, true, true, true, true, true, true, true, false, false] (by kernel_rfl) (by kernel_rfl) (by kernel_rfl) (fun _ _ d _ _ h => by cases d <;> exact h) (regrown_of_below (Below.drew (Below.refl _ _))) ?_
  have hS0 : Below (w1.heap.size) w1 w1.drew := Below.drew (Below.refl _ _)
  refine wpMix_pure (by kernel_rfl) (fun K hK => ?_); go_big_quiet_op; refine hK _ ?_; clear hK K
  refine wpMix_pure (by kernel_rfl) (fun K hK => ?_); go_big_quiet_op; refine hK _ ?_; clear hK K
  refine wpMix_pure (by kernel_rfl) (fun K hK => ?_); go_big_quiet_op; refine hK _ ?_; clear hK K
  refine wpMix_pure (by kernel_rfl) (fun K hK => ?_); go_big_quiet_op; refine hK _ ?_; clear hK K
  refine wpMix_pure (by kernel_rfl) (fun K hK => ?_); go_big_quiet_op; refine hK _ ?_; clear hK K
  refine wpMix_pure (by kernel_rfl) (fun K hK => ?_); go_big_quiet_op; refine hK _ ?_; clear hK K
  refine wpMix_pure (by kernel_rfl) (fun K hK => ?_); go_big_quiet_op; refine hK _ ?_; clear hK K
  refine wpMix_pure (by kernel_rfl) (fun K hK => ?_); go_big_quiet_op; refine hK _ ?_; clear hK K
  refine wpMix_pure (by kernel_rfl) (fun K hK => ?_); go_big_quiet_op; refine hK _ ?_; clear hK K
  refine wpMix_pure (by kernel_rfl) (fun K hK => ?_); go_big_quiet_op; refine hK _ ?_; clear hK K
  refine wpMix_pure (by kernel_rfl) (fun K hK => ?_); go_big_quiet_op; refine hK _ ?_; clear hK K
  refine wpMix_pure (by kernel_rfl) (fun K hK => ?_); go_big_quiet_op; refine hK _ ?_; clear hK K
  refine wpMix_pure (by kernel_rfl) (fun K hK => ?_); go_big_quiet_op; refine hK _ ?_; clear hK K
  refine wpMix_act (by kernel_rfl) (fun K hK => ?_)
  go_big_op
  refine hK _ _ (regrown_of_below (by first | exact hS0.alloc hS0.size _ | exact Below.drew ((Below.refl _ _).alloc (Nat.le_refl _) _) | exact (Below.drew (Below.refl _ _)).alloc (Nat.le_refl _) _ | exact Below.drew (((Below.refl _ _).alloc (Nat.le_refl _) _).alloc (by simp) _))) ?_
  clear hK K
  refine wpMix_act (by kernel_rfl) (fun K hK => ?_)
  go_big_op
  refine hK _ _ (regrown_of_below (by first | exact hS0.alloc hS0.size _ | exact Below.drew ((Below.refl _ _).alloc (Nat.le_refl _) _) | exact (Below.drew (Below.refl _ _)).alloc (Nat.le_refl _) _ | exact Below.drew (((Below.refl _ _).alloc (Nat.le_refl _) _).alloc (by simp) _))) ?_
  clear hK K
  refine wpMix_nil ?_
  have hBx : Below w1.heap.size w1 (w1.alloc (.cells #[.int .i64 x.hour, .int .i64 x.snow, .int .i64 x.degrees, .int .i64 x.wind] 66)).drew := Below.drew ((Below.refl _ _).alloc (Nat.le_refl _) _)
  have hBV := hB1.trans (hBx.mono hB1.size)
  have hXV := hX1.belowB hBx hg1
  have hpx : PObserved (w1.alloc (.cells #[.int .i64 x.hour, .int .i64 x.snow, .int .i64 x.degrees, .int .i64 x.wind] 66)).drew w1.heap.size 0 x := (PObserved.box w1 x _).below' (Below.drew (Below.refl _ _))
  clear hX1 n0 n1 n2 n3 gn0 gn1 gn2 gn3 hBx hS0
  generalize (w1.alloc (.cells #[.int .i64 x.hour, .int .i64 x.snow, .int .i64 x.degrees, .int .i64 x.wind] 66)).drew = V at *
  generalize w1.heap.size = b at *
  obtain ⟨x0, x1, x2, x3⟩ := id hpx
  go_wp2_with fail
  refine (ObservedText_any x _ hv hok (ht.below hBV).tab).mono ?_
  rintro e U ⟨rfl, hbU⟩
  have hBU := hBV.trans (hbU.mono hBV.size)
  have hXU := hXV.belowB hbU hXV.lt
  have hpU := hpx.below' hbU
  have hXlt := hXV.lt
  clear hXV hpx x0 x1 x2 x3
  obtain ⟨d0, d1, d2, d3, z0, z1, z2, z3⟩ := hXU
  obtain ⟨x0, x1, x2, x3⟩ := hpU
  have e9 : ((obsT x).toList == (obsT x).toList) = true := beq_self_eq_true _
  have e10 : ((obsT x).toList != (obsT x).toList) = false := by unfold bne; rw [e9]; rfl
  generalize obsT x = s at *
  have hrr := Nat.le_refl w.heap.size
  go_wp2
  exact bodyPost_ret (v := .tuple #[agObserved x, .bool true]) (by simp [agObserved, results, hit_cellX, d0, d1, d2, d3, Tryz.results35, go_sem]) rfl ⟨rfl, by (repeat (refine Below.setCell ?_ hrr _)); exact hBU⟩

end Go.Proofs.YtfgmikgghpflbaaGreatDoor
