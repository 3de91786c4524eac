
/- Absolute values and rounded quotients. By hand. -/
import Derived.Test.YtpebibegdeioeaaNm
import Derived.Test.YtpebibegdeioeaaSeg
namespace Go.Proofs.Ytpebibegdeioeaa
open Go.RowKit
set_option linter.unusedVariables false

def absF (n : Int) : Int := max n (-n)
def drF (a b : Int) : Int := if absF b - absF (Int.tmod a b) ≤ absF (Int.tmod a b) then (if a < 0 ↔ b < 0 then Int.tdiv a b + 1 else Int.tdiv a b - 1) else Int.tdiv a b
theorem absF_le {n m : Int} : absF n ≤ m ↔ -m ≤ n ∧ n ≤ m := by unfold absF; omega
theorem tmod_parts {a b : Int} (hb : 0 < b) : ∃ q r, Int.tdiv a b = q ∧ Int.tmod a b = r ∧ a = q * b + r ∧ -b < r ∧ r < b ∧ (0 ≤ a → 0 ≤ r) ∧ (a < 0 → r ≤ 0) := by
  refine ⟨_, _, rfl, rfl, ?_, ?_, Int.tmod_lt_of_pos _ hb, fun h => Int.tmod_nonneg _ h, fun h => ?_⟩
  · have := Int.mul_tdiv_add_tmod a b
    rw [Int.mul_comm]; omega
  · rcases Int.lt_or_le a 0 with h | h
    · have h1 := Int.tmod_lt_of_pos (-a) hb
      rw [Int.neg_tmod] at h1; omega
    · have := Int.tmod_nonneg b h; omega
  · have h1 := Int.tmod_nonneg b (show (0 : Int) ≤ -a by omega)
    rw [Int.neg_tmod] at h1; omega
/-- The quotient is as near as can be. -/
theorem drF_near {a b : Int} (hb : 0 < b) : -b ≤ 2 * (drF a b * b - a) ∧ 2 * (drF a b * b - a) ≤ b := by
  obtain ⟨q, r, hq, hr, ha, h1, h2, h3, h4⟩ := tmod_parts (a := a) hb
  unfold drF
  rw [hq, hr]
  have e : absF b = b := by unfold absF; omega
  have hb2 : ¬ b < 0 := by omega
  rw [e]
  rcases Int.lt_or_le a 0 with hn | hn
  · have hr2 := h4 hn
    have e2 : absF r = -r := by unfold absF; omega
    rw [e2]
    split
    · rw [if_neg (fun h => hb2 (h.1 hn)), Int.sub_mul]; omega
    · omega
  · have hr2 := h3 hn
    have e2 : absF r = r := by unfold absF; omega
    rw [e2]
    split
    · rw [if_pos ⟨fun h => absurd h (by omega), fun h => absurd h hb2⟩, Int.add_mul]; omega
    · omega
theorem mul_lt_cancel {x y n : Int} (hn : 0 < n) (h : x * n < y * n) : x < y := Int.lt_of_mul_lt_mul_right h (by omega)
/-- A quotient of a sum that lies between lo * b and hi * b lies between lo and hi. -/
theorem drF_between {a b lo hi : Int} (hb : 0 < b) (h1 : lo * b ≤ a) (h2 : a ≤ hi * b) : lo ≤ drF a b ∧ drF a b ≤ hi := by
  obtain ⟨h3, h4⟩ := drF_near (a := a) hb
  constructor
  · refine Int.le_of_lt_add_one (mul_lt_cancel hb ?_)
    rw [Int.add_mul]; omega
  · refine Int.le_of_lt_add_one (mul_lt_cancel hb ?_)
    rw [Int.add_mul]; omega
theorem quo_bounds {a b q r : Int} (hb : 0 < b) (hab : a = q * b + r) (h1 : -b < r) (h2 : r < b) (h3 : 0 ≤ a → 0 ≤ r) (h4 : a < 0 → r ≤ 0) (ha : -1000000000000000000 ≤ a ∧ a ≤ 1000000000000000000) : -1000000000000000000 ≤ q ∧ q ≤ 1000000000000000000 := by
  constructor
  · refine Int.not_lt.1 (fun h => ?_)
    have : q * b ≤ (-1000000000000000001) * 1 := by
      have h5 : q * b ≤ q * 1 := Int.mul_le_mul_of_nonpos_left (by omega) (by omega)
      omega
    rcases Int.lt_or_le a 0 with h0 | h0
    · have := h4 h0
      have h6 : q * b + 0 ≤ q * b + 0 := Int.le_refl _
      omega
    · have h5 : q * b ≤ (-1) * b := Int.mul_le_mul_of_nonneg_right (by omega) (by omega)
      omega
  · refine Int.not_lt.1 (fun h => ?_)
    have h5 : q * 1 ≤ q * b := Int.mul_le_mul_of_nonneg_left (by omega) (by omega)
    rcases Int.lt_or_le a 0 with h0 | h0
    · have h6 : 1 * b ≤ q * b := Int.mul_le_mul_of_nonneg_right (by omega) (by omega)
      omega
    · have := h3 h0
      omega
end Go.Proofs.Ytpebibegdeioeaa
