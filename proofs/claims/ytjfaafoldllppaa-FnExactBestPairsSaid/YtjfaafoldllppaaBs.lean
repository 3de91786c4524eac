
/- The best pairs: the search as a function, plain laws. By hand. -/
import Derived.Test.YtjfaafoldllppaaAll
namespace Go.Proofs.Ytjfaafoldllppaa
open Go.RowKit
set_option linter.unusedVariables false

/-- Pairs in order of their first members, then of their second ones; a list that ends comes first. -/
def ltP : List (Nat × Nat) → List (Nat × Nat) → Bool
  | [], [] => false
  | [], _ :: _ => true
  | _ :: _, [] => false
  | a :: p, b :: q => if a.1 = b.1 then (if a.2 = b.2 then ltP p q else decide (a.2 < b.2)) else decide (a.1 < b.1)
theorem ltP_eq {p q : List (Nat × Nat)} {i : Nat} (hp : i ≤ p.length) (hq : i ≤ q.length) (h : ∀ j (h1 : j < p.length) (h2 : j < q.length), j < i → p[j] = q[j]) : ltP p q = ltP (p.drop i) (q.drop i) := by
  induction i generalizing p q with
  | zero => rfl
  | succ i ih =>
    match p, q, hp, hq with
    | a :: p, b :: q, hp, hq =>
      have h0 : a = b := h 0 (by simp) (by simp) (by omega)
      subst h0
      rw [List.drop_succ_cons, List.drop_succ_cons, ← ih (by simpa using hp) (by simpa using hq) (fun j h1 h2 hj => by
        have := h (j + 1) (by simpa using h1) (by simpa using h2) (by omega)
        simpa using this)]
      simp [ltP]
theorem ltP_first {p q : List (Nat × Nat)} {i : Nat} (hp : i < p.length) (hq : i < q.length) (h : ∀ j (h1 : j < p.length) (h2 : j < q.length), j < i → p[j] = q[j]) (hne : p[i].1 ≠ q[i].1) : ltP p q = decide (p[i].1 < q[i].1) := by
  rw [ltP_eq (Nat.le_of_lt hp) (Nat.le_of_lt hq) h, List.drop_eq_getElem_cons hp, List.drop_eq_getElem_cons hq, ltP, if_neg hne]
theorem ltP_second {p q : List (Nat × Nat)} {i : Nat} (hp : i < p.length) (hq : i < q.length) (h : ∀ j (h1 : j < p.length) (h2 : j < q.length), j < i → p[j] = q[j]) (he : p[i].1 = q[i].1) (hne : p[i].2 ≠ q[i].2) : ltP p q = decide (p[i].2 < q[i].2) := by
  rw [ltP_eq (Nat.le_of_lt hp) (Nat.le_of_lt hq) h, List.drop_eq_getElem_cons hp, List.drop_eq_getElem_cons hq, ltP, if_pos he, if_neg hne]
theorem ltP_end {p q : List (Nat × Nat)} {i : Nat} (hp : i ≤ p.length) (hq : i ≤ q.length) (hi : i = p.length ∨ i = q.length) (h : ∀ j (h1 : j < p.length) (h2 : j < q.length), j < i → p[j] = q[j]) : ltP p q = decide (p.length < q.length) := by
  rw [ltP_eq hp hq h]
  have hlp : (p.drop i).length = p.length - i := List.length_drop
  have hlq : (q.drop i).length = q.length - i := List.length_drop
  generalize p.drop i = p' at *
  generalize q.drop i = q' at *
  match p', q' with
  | [], [] => simp at hlp hlq; simp [ltP]; omega
  | [], b :: q' => simp at hlp hlq; simp [ltP]; omega
  | a :: p', [] => simp at hlp hlq; simp [ltP]; omega
  | a :: p', b :: q' => simp at hlp hlq; omega

/-- The state of the search: the best pairs, how many people may go then, the nodes that are left (-1: they ran out). -/
structure Sr where
  best : List (Nat × Nat)
  most : Int
  c : Int
def leafF (pairs : List (Nat × Nat)) (people : Int) (S : Sr) : Sr := if S.most < people ∨ (people = S.most ∧ ltP pairs S.best = true) then ⟨pairs, people, S.c⟩ else S
def childF (g : Int → Sr → Sr) (p : Int) (S : Sr) : Sr := if S.c ≤ 0 then ⟨S.best, S.most, -1⟩ else g p ⟨S.best, S.most, S.c - 1⟩
section
variable (w1 : Nat → Int) (w2 : Nat → Nat → Int) (n : Nat)
/-- The children of the vertex i, in which it goes with k: one after the other. -/
def stepF (g : List Bool → List (Nat × Nat) → Int → Sr → Sr) (used : List Bool) (pairs : List (Nat × Nat)) (i : Nat) (people : Int) (S : Sr) (k : Nat) : Sr :=
  if i < k ∧ used.getD k false = false then childF (g (used.set k true) (pairs ++ [(i, k)])) (people + w2 i k) S else S
/-- The search from n - m on. -/
def visitF : Nat → List Bool → List (Nat × Nat) → Int → Sr → Sr
  | 0, _, pairs, people, S => leafF pairs people S
  | m + 1, used, pairs, people, S =>
    if used.getD (n - (m + 1)) false then visitF m used pairs people S
    else childF (visitF m used pairs) (people + w1 (n - (m + 1))) ((List.range n).foldl (stepF w2 (visitF m) used pairs (n - (m + 1)) people) S)
def foldK (g : List Bool → List (Nat × Nat) → Int → Sr → Sr) (used : List Bool) (pairs : List (Nat × Nat)) (i : Nat) (people : Int) (S : Sr) (k : Nat) : Sr := (List.range k).foldl (stepF w2 g used pairs i people) S
variable {w1 w2 n}
theorem visitF_zero {used : List Bool} {pairs : List (Nat × Nat)} {people : Int} {S : Sr} : visitF w1 w2 n 0 used pairs people S = leafF pairs people S := rfl
theorem visitF_skip {m : Nat} {used : List Bool} {pairs : List (Nat × Nat)} {people : Int} {S : Sr} (h : used.getD (n - (m + 1)) false = true) : visitF w1 w2 n (m + 1) used pairs people S = visitF w1 w2 n m used pairs people S := by
  rw [visitF, if_pos h]
theorem visitF_node {m : Nat} {used : List Bool} {pairs : List (Nat × Nat)} {people : Int} {S : Sr} (h : used.getD (n - (m + 1)) false = false) :
    visitF w1 w2 n (m + 1) used pairs people S = childF (visitF w1 w2 n m used pairs) (people + w1 (n - (m + 1))) (foldK w2 (visitF w1 w2 n m) used pairs (n - (m + 1)) people S n) := by
  rw [visitF, if_neg (by rw [h]; decide)]
  rfl
variable {g : List Bool → List (Nat × Nat) → Int → Sr → Sr} {used : List Bool} {pairs : List (Nat × Nat)} {i : Nat} {people : Int} {S : Sr}
theorem foldK_succ (k : Nat) : foldK w2 g used pairs i people S (k + 1) = stepF w2 g used pairs i people (foldK w2 g used pairs i people S k) k := by
  unfold foldK; rw [List.range_succ, List.foldl_append]; rfl
theorem foldK_low {k : Nat} (h : k ≤ i + 1) : foldK w2 g used pairs i people S k = S := by
  induction k with
  | zero => rfl
  | succ k ih => rw [foldK_succ, ih (by omega), stepF, if_neg (fun e => by have := e.1; omega)]
theorem foldK_skip {k : Nat} (h : used.getD k false = true) : foldK w2 g used pairs i people S (k + 1) = foldK w2 g used pairs i people S k := by
  rw [foldK_succ, stepF, if_neg (fun e => by rw [h] at e; exact absurd e.2 (by decide))]
theorem foldK_child {k : Nat} (hk : i < k) (h : used.getD k false = false) : foldK w2 g used pairs i people S (k + 1) = childF (g (used.set k true) (pairs ++ [(i, k)])) (people + w2 i k) (foldK w2 g used pairs i people S k) := by
  rw [foldK_succ, stepF, if_pos ⟨hk, h⟩]
theorem childF_dead {f : Int → Sr → Sr} {p : Int} {S : Sr} (h : S.c ≤ 0) : childF f p S = ⟨S.best, S.most, -1⟩ := by unfold childF; rw [if_pos h]
theorem childF_live {f : Int → Sr → Sr} {p : Int} {S : Sr} (h : 0 < S.c) : childF f p S = f p ⟨S.best, S.most, S.c - 1⟩ := by unfold childF; rw [if_neg (by omega)]
theorem childF_stays {f : Int → Sr → Sr} {p : Int} {S : Sr} (h : S.c = -1) : childF f p S = S := by rw [childF_dead (by omega)]; cases S; simp only at h; subst h; rfl
theorem foldK_stays {a b : Nat} (hab : a ≤ b) (h : (foldK w2 g used pairs i people S a).c = -1) : foldK w2 g used pairs i people S b = foldK w2 g used pairs i people S a := by
  induction b with
  | zero => obtain rfl : a = 0 := by omega
            rfl
  | succ b ih =>
    rcases Nat.lt_or_ge a (b + 1) with h1 | h1
    · have e := ih (by omega)
      rw [foldK_succ, e, stepF]
      split
      · exact childF_stays h
      · rfl
    · obtain rfl : a = b + 1 := by omega
      rfl
/-- When the nodes run out at k, the search ends with what it has. -/
theorem visitF_out {m k : Nat} (hn : used.getD (n - (m + 1)) false = false) (hk : n - (m + 1) < k) (hkn : k < n) (hu : used.getD k false = false) (hc : (foldK w2 (visitF w1 w2 n m) used pairs (n - (m + 1)) people S k).c ≤ 0) :
    visitF w1 w2 n (m + 1) used pairs people S = ⟨(foldK w2 (visitF w1 w2 n m) used pairs (n - (m + 1)) people S k).best, (foldK w2 (visitF w1 w2 n m) used pairs (n - (m + 1)) people S k).most, -1⟩ := by
  have h1 := foldK_child (w2 := w2) (g := visitF w1 w2 n m) (pairs := pairs) (people := people) (S := S) hk hu
  rw [childF_dead hc] at h1
  have h2 := foldK_stays (w2 := w2) (g := visitF w1 w2 n m) (used := used) (pairs := pairs) (i := n - (m + 1)) (people := people) (S := S) (a := k + 1) (b := n) hkn (by rw [h1])
  rw [visitF_node hn, h2, h1, childF_stays rfl]
theorem leafF_c {S : Sr} : (leafF pairs people S).c = S.c := by unfold leafF; split <;> rfl
theorem visitF_c {m : Nat} {used : List Bool} {pairs : List (Nat × Nat)} {people : Int} {S : Sr} (h : -1 ≤ S.c) : -1 ≤ (visitF w1 w2 n m used pairs people S).c ∧ (visitF w1 w2 n m used pairs people S).c ≤ S.c := by
  induction m generalizing used pairs people S with
  | zero => rw [visitF_zero, leafF_c]; omega
  | succ m ih =>
    have hch : ∀ (u : List Bool) (q : List (Nat × Nat)) (p : Int) (T : Sr), -1 ≤ T.c → -1 ≤ (childF (visitF w1 w2 n m u q) p T).c ∧ (childF (visitF w1 w2 n m u q) p T).c ≤ T.c := fun u q p T hT => by
      by_cases h0 : T.c ≤ 0
      · rw [childF_dead h0]; simp only; omega
      · rw [childF_live (by omega)]
        have := ih (used := u) (pairs := q) (people := p) (S := ⟨T.best, T.most, T.c - 1⟩) (by simp only; omega)
        simp only at this; omega
    cases hu : used.getD (n - (m + 1)) false
    · rw [visitF_node hu]
      have hf : ∀ k, -1 ≤ (foldK w2 (visitF w1 w2 n m) used pairs (n - (m + 1)) people S k).c ∧ (foldK w2 (visitF w1 w2 n m) used pairs (n - (m + 1)) people S k).c ≤ S.c := fun k => by
        induction k with
        | zero => exact ⟨h, Int.le_refl _⟩
        | succ k ih2 =>
          rw [foldK_succ, stepF]
          split
          · have := hch (used.set k true) (pairs ++ [(n - (m + 1), k)]) (people + w2 (n - (m + 1)) k) _ ih2.1
            omega
          · exact ih2
      have h2 := hf n
      have h3 := hch used pairs (people + w1 (n - (m + 1))) _ h2.1
      omega
    · rw [visitF_skip hu]; exact ih h
theorem visitF_pos {m : Nat} {used : List Bool} {pairs : List (Nat × Nat)} {people : Int} {S : Sr} (h : -1 ≤ S.c) : (visitF w1 w2 n m used pairs people S).c = -1 ∨ 0 ≤ (visitF w1 w2 n m used pairs people S).c := by
  have := (visitF_c (w1 := w1) (w2 := w2) (n := n) (m := m) (used := used) (pairs := pairs) (people := people) h).1
  omega
end
end Go.Proofs.Ytjfaafoldllppaa
