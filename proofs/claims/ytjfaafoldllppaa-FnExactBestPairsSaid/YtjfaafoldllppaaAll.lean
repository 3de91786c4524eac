
/- Words for loops that look for a fault, and the order of strings. No function of the program is named here. -/
import Derived.Test.YtjfaafoldllppaaBase
import Derived.Sort.Walk0
namespace Go.Proofs.Ytjfaafoldllppaa
open Go.RowKit

/-! ### every index below n is in order -/
def allIdx (f : Nat → Bool) (n : Nat) : Bool := (List.range n).all f
theorem allIdx_zero {f : Nat → Bool} : allIdx f 0 = true := rfl
theorem allIdx_step {f : Nat → Bool} {k : Nat} (h : allIdx f k = true) (h1 : f k = true) : allIdx f (k + 1) = true := by
  unfold allIdx at *; rw [List.range_succ, List.all_append, h]; simp [h1]
theorem allIdx_true {f : Nat → Bool} {n : Nat} : allIdx f n = true ↔ ∀ i, i < n → f i = true := by
  unfold allIdx; rw [List.all_eq_true]; simp
theorem allIdx_bad {f : Nat → Bool} {k n : Nat} (h : k < n) (h1 : f k = false) : allIdx f n = false := by
  cases hh : allIdx f n with
  | false => rfl
  | true => rw [allIdx_true.1 hh k h] at h1; cases h1
theorem allIdx_full {f : Nat → Bool} {k n : Nat} (h : n ≤ k) (hk : k ≤ n) (h0 : allIdx f k = true) : allIdx f n = true := by
  have : k = n := by omega
  rw [← this]; exact h0
theorem allIdx_congr {f g : Nat → Bool} {n : Nat} (h : ∀ i, i < n → f i = g i) : allIdx f n = allIdx g n := by
  cases hh : allIdx g n with
  | true => rw [allIdx_true] at *; intro i hi; rw [h i hi]; exact hh i hi
  | false =>
    cases h2 : allIdx f n with
    | false => rfl
    | true =>
      have : allIdx g n = true := by rw [allIdx_true] at *; intro i hi; rw [← h i hi]; exact h2 i hi
      rw [this] at hh; cases hh
theorem all_eq_allIdx {α : Type} (p : α → Bool) (xs : List α) (d : α) : xs.all p = allIdx (fun i => p (xs.getD i d)) xs.length := by
  cases hh : allIdx (fun i => p (xs.getD i d)) xs.length with
  | true =>
    rw [allIdx_true] at hh
    rw [List.all_eq_true]
    intro x hx
    obtain ⟨i, hi, rfl⟩ := List.getElem_of_mem hx
    have := hh i hi
    simpa [List.getD_eq_getElem?_getD, hi] using this
  | false =>
    cases h2 : xs.all p with
    | false => rfl
    | true =>
      rw [List.all_eq_true] at h2
      have : allIdx (fun i => p (xs.getD i d)) xs.length = true := by
        rw [allIdx_true]; intro i hi
        have := h2 xs[i] (List.getElem_mem hi)
        simpa [List.getD_eq_getElem?_getD, hi] using this
      rw [this] at hh; cases hh
theorem getD_of_lt {α : Type} {xs : List α} {i : Nat} {d : α} (h : i < xs.length) : xs.getD i d = xs[i] := by
  simp [List.getD_eq_getElem?_getD, h]

/-! ### the order of strings -/
def ltS (a b : ByteArray) : Bool := Op.bytesLess a.toList b.toList
theorem ltS_eq (a b : ByteArray) : ltS a b = decide (a.data.toList < b.data.toList) := by
  unfold ltS; rw [bytesLess_eq, ByteArray.toList_eq, ByteArray.toList_eq]
theorem ltS_irrefl (a : ByteArray) : ltS a a = false := by
  rw [ltS_eq]; simp [List.lt_irrefl]
theorem ltS_trans {a b c : ByteArray} (h1 : ltS a b = true) (h2 : ltS b c = true) : ltS a c = true := by
  rw [ltS_eq, decide_eq_true_eq] at *; exact List.lt_trans h1 h2
theorem ltS_asymm {a b : ByteArray} (h : ltS a b = true) : ltS b a = false := by
  cases hh : ltS b a with
  | false => rfl
  | true => have := ltS_trans h hh; rw [ltS_irrefl] at this; cases this
theorem data_inj {a b : ByteArray} (h : a.data.toList = b.data.toList) : a = b := ByteArray.ext (Array.toList_inj.mp h)
theorem ltS_tri {a b : ByteArray} (h1 : ltS a b = false) (h2 : ltS b a = false) : a = b := by
  rw [ltS_eq, decide_eq_false_iff_not] at *
  exact data_inj (List.le_antisymm h2 h1)
theorem eqS_true {a b : ByteArray} : (a.toList == b.toList) = true ↔ a = b := by
  rw [beq_iff_eq]; exact ⟨bytes_toList_inj, fun h => by rw [h]⟩
theorem eqS_eq (a b : ByteArray) : (a.toList == b.toList) = decide (a = b) := by
  by_cases h : a = b
  · subst h; simp
  · rw [bytes_beq_false h]; simp [h]
theorem leS_eq (a b : ByteArray) : (Op.bytesLess a.toList b.toList || a.toList == b.toList) = !(ltS b a) := by
  cases h : ltS b a with
  | true =>
    have h1 : ltS a b = false := ltS_asymm h
    have h2 : ¬ a = b := fun e => by subst e; rw [ltS_irrefl] at h; cases h
    have : Op.bytesLess a.toList b.toList = false := h1
    rw [this, bytes_beq_false h2]; rfl
  | false =>
    cases h1 : ltS a b with
    | true => have : Op.bytesLess a.toList b.toList = true := h1; rw [this]; rfl
    | false =>
      have := ltS_tri h1 h
      subst this
      simp
end Go.Proofs.Ytjfaafoldllppaa
