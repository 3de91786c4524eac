/- Two lists, place by place. -/
import Derived.Test.YthejcbhplgjmgaaBase
namespace Go.Proofs.Ythejcbhplgjmgaa
theorem listEq_step {α : Type} {xs ys : List α} {k : Nat} (hx : k < xs.length) (hy : k < ys.length) (h0 : xs.take k = ys.take k) (h1 : xs[k] = ys[k]) : xs.take (k + 1) = ys.take (k + 1) := by
  rw [List.take_succ_eq_append_getElem hx, List.take_succ_eq_append_getElem hy, h0, h1]
theorem listEq_bad {α : Type} {xs ys : List α} {k : Nat} (hx : k < xs.length) (hy : k < ys.length) (h1 : ¬ xs[k] = ys[k]) : ¬ xs = ys := by
  intro h; subst h; exact h1 rfl
theorem listEq_full {α : Type} {xs ys : List α} {k : Nat} (hx : xs.length ≤ k) (hy : ys.length ≤ k) (h0 : xs.take k = ys.take k) : xs = ys := by
  rwa [List.take_of_length_le hx, List.take_of_length_le hy] at h0
end Go.Proofs.Ythejcbhplgjmgaa
