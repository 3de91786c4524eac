
/- The best pairs: what the search finds; plain laws. By hand. -/
import Derived.Test.YtjfaafoldllppaaBs
namespace Go.Proofs.Ytjfaafoldllppaa
open Go.RowKit
set_option linter.unusedVariables false

def inP (P : List (Nat × Nat)) (j : Nat) : Bool := P.any fun q => q.1 == j || q.2 == j
theorem inP_append (P Q : List (Nat × Nat)) (j : Nat) : inP (P ++ Q) j = (inP P j || inP Q j) := by unfold inP; rw [List.any_append]
def rest1 (w1 : Nat → Int) (P : List (Nat × Nat)) (u : Nat) : Int := (((List.range u).filter fun j => !inP P j).map w1).sum
def sum2 (w2 : Nat → Nat → Int) (P : List (Nat × Nat)) : Int := (P.map fun q => w2 q.1 q.2).sum
theorem sumI_append (a b : List Int) : (a ++ b).sum = a.sum + b.sum := by
  induction a with
  | nil => simp
  | cons x a ih => simp only [List.cons_append, List.sum_cons, ih]; omega
set_option linter.unusedSimpArgs false
theorem rest1_in {w1 : Nat → Int} {P : List (Nat × Nat)} {i : Nat} (h : inP P i = true) : rest1 w1 P (i + 1) = rest1 w1 P i := by
  unfold rest1
  rw [List.range_succ, List.filter_append, List.filter_cons, h]
  simp
theorem rest1_out {w1 : Nat → Int} {P : List (Nat × Nat)} {i : Nat} (h : inP P i = false) : rest1 w1 P (i + 1) = rest1 w1 P i + w1 i := by
  unfold rest1
  rw [List.range_succ, List.filter_append, List.filter_cons, h]
  simp [sumI_append]
theorem rest1_congr {w1 : Nat → Int} {P Q : List (Nat × Nat)} {u : Nat} (h : ∀ j, j < u → inP P j = inP Q j) : rest1 w1 P u = rest1 w1 Q u := by
  unfold rest1
  congr 2
  exact List.filter_congr (fun j hj => by rw [h j (List.mem_range.1 hj)])
theorem sum2_push (w2 : Nat → Nat → Int) (P : List (Nat × Nat)) (i k : Nat) : sum2 w2 (P ++ [(i, k)]) = sum2 w2 P + w2 i k := by
  unfold sum2; rw [List.map_append, sumI_append]; simp
structure PairsOk (n i : Nat) (P : List (Nat × Nat)) : Prop where
  rng : ∀ q ∈ P, q.1 < q.2 ∧ q.2 < n ∧ q.1 < i
  asc : P.Pairwise (fun a b => a.1 < b.1)
  snd : P.Pairwise (fun a b => a.2 ≠ b.2)
  mix : ∀ a ∈ P, ∀ b ∈ P, a.1 ≠ b.2
structure UsedOk (n : Nat) (P : List (Nat × Nat)) (U : List Bool) : Prop where
  len : U.length = n
  iff : ∀ k, U.getD k false = true ↔ ∃ q ∈ P, q.2 = k
theorem PairsOk.nil (n i : Nat) : PairsOk n i [] := ⟨by simp, List.Pairwise.nil, List.Pairwise.nil, by simp⟩
theorem UsedOk.nil (n : Nat) : UsedOk n [] (List.replicate n false) := ⟨by simp, fun k => by
  constructor
  · intro h
    rw [List.getD_eq_getElem?_getD, List.getElem?_replicate] at h
    split at h <;> simp at h
  · rintro ⟨q, hq, _⟩; cases hq⟩
theorem PairsOk.next {n i : Nat} {P : List (Nat × Nat)} (h : PairsOk n i P) : PairsOk n (i + 1) P := ⟨fun q hq => by have := h.rng q hq; omega, h.asc, h.snd, h.mix⟩
theorem not_used {n : Nat} {P : List (Nat × Nat)} {U : List Bool} (hu : UsedOk n P U) {k : Nat} (h : U.getD k false = false) : ∀ q ∈ P, q.2 ≠ k := fun q hq e => by
  have := (hu.iff k).2 ⟨q, hq, e⟩
  rw [h] at this; cases this
theorem PairsOk.push {n i k : Nat} {P : List (Nat × Nat)} {U : List Bool} (h : PairsOk n i P) (hu : UsedOk n P U) (hi : U.getD i false = false) (hk : U.getD k false = false) (hik : i < k) (hkn : k < n) : PairsOk n (i + 1) (P ++ [(i, k)]) := by
  refine ⟨fun q hq => ?_, ?_, ?_, ?_⟩
  · rcases List.mem_append.1 hq with hq | hq
    · have := h.rng q hq; omega
    · rw [List.mem_singleton] at hq; subst hq; exact ⟨hik, hkn, by show i < i + 1; omega⟩
  · rw [List.pairwise_append]
    exact ⟨h.asc, by simp, fun a ha b hb => by rw [List.mem_singleton] at hb; subst hb; exact (h.rng a ha).2.2⟩
  · rw [List.pairwise_append]
    exact ⟨h.snd, by simp, fun a ha b hb => by rw [List.mem_singleton] at hb; subst hb; exact not_used hu hk a ha⟩
  · intro a ha b hb
    rcases List.mem_append.1 ha with ha | ha <;> rcases List.mem_append.1 hb with hb | hb
    · exact h.mix a ha b hb
    · rw [List.mem_singleton] at hb; subst hb; have := h.rng a ha; show a.1 ≠ k; omega
    · rw [List.mem_singleton] at ha; subst ha; exact fun e => not_used hu hi b hb e.symm
    · rw [List.mem_singleton] at ha hb; subst ha hb; show i ≠ k; omega
theorem UsedOk.push {n i k : Nat} {P : List (Nat × Nat)} {U : List Bool} (hu : UsedOk n P U) (hkn : k < n) : UsedOk n (P ++ [(i, k)]) (U.set k true) := by
  refine ⟨by rw [List.length_set]; exact hu.len, fun j => ?_⟩
  rw [List.getD_eq_getElem?_getD, List.getElem?_set]
  by_cases e : k = j
  · subst e
    rw [if_pos rfl, if_pos (by rw [hu.len]; exact hkn)]
    simp
  · rw [if_neg e, ← List.getD_eq_getElem?_getD, hu.iff j]
    constructor
    · rintro ⟨q, hq, h⟩; exact ⟨q, List.mem_append_left _ hq, h⟩
    · rintro ⟨q, hq, h⟩
      rcases List.mem_append.1 hq with hq | hq
      · exact ⟨q, hq, h⟩
      · rw [List.mem_singleton] at hq; subst hq; exact absurd h e
theorem inP_used {n i : Nat} {P : List (Nat × Nat)} {U : List Bool} (hp : PairsOk n i P) (hu : UsedOk n P U) : inP P i = U.getD i false := by
  cases h : U.getD i false
  · unfold inP
    rw [List.any_eq_false]
    intro q hq
    have h1 := hp.rng q hq
    have h2 := not_used hu h q hq
    simp; omega
  · obtain ⟨q, hq, e⟩ := (hu.iff i).1 h
    unfold inP
    rw [List.any_eq_true]
    exact ⟨q, hq, by simp [e]⟩
section
variable {w1 : Nat → Int} {w2 : Nat → Nat → Int} {n : Nat}
def scoreP (w1 : Nat → Int) (w2 : Nat → Nat → Int) (n : Nat) (P : List (Nat × Nat)) : Int := sum2 w2 P + rest1 w1 P n
/-- What is known of a state of the search. -/
def Good (w1 : Nat → Int) (w2 : Nat → Nat → Int) (n : Nat) (S : Sr) : Prop := S.most = -1 ∨ (PairsOk n n S.best ∧ S.most = scoreP w1 w2 n S.best)
theorem visitF_good {m : Nat} {U : List Bool} {P : List (Nat × Nat)} {p : Int} {S : Sr} (hm : m ≤ n) (hp : PairsOk n (n - m) P) (hu : UsedOk n P U) (he : p = sum2 w2 P + rest1 w1 P (n - m)) (hg : Good w1 w2 n S) :
    Good w1 w2 n (visitF w1 w2 n m U P p S) ∧ S.most ≤ (visitF w1 w2 n m U P p S).most := by
  induction m generalizing U P p S with
  | zero =>
    rw [visitF_zero]
    unfold leafF
    split
    · rename_i h
      exact ⟨.inr ⟨hp, he⟩, by simp only; omega⟩
    · exact ⟨hg, Int.le_refl _⟩
  | succ m ih =>
    have hi1 : n - (m + 1) + 1 = n - m := by omega
    have hch : ∀ (u : List Bool) (q : List (Nat × Nat)) (x : Int) (T : Sr), PairsOk n (n - m) q → UsedOk n q u → x = sum2 w2 q + rest1 w1 q (n - m) → Good w1 w2 n T → Good w1 w2 n (childF (visitF w1 w2 n m u q) x T) ∧ T.most ≤ (childF (visitF w1 w2 n m u q) x T).most := fun u q x T h1 h2 h3 h4 => by
      by_cases h0 : T.c ≤ 0
      · rw [childF_dead h0]; exact ⟨h4, Int.le_refl _⟩
      · rw [childF_live (by omega)]
        exact ih (S := ⟨T.best, T.most, T.c - 1⟩) (by omega) h1 h2 h3 h4
    have hin := inP_used hp hu
    cases hui : U.getD (n - (m + 1)) false
    · rw [visitF_node hui]
      rw [hui] at hin
      have hf : ∀ k, k ≤ n → Good w1 w2 n (foldK w2 (visitF w1 w2 n m) U P (n - (m + 1)) p S k) ∧ S.most ≤ (foldK w2 (visitF w1 w2 n m) U P (n - (m + 1)) p S k).most := fun k => by
        induction k with
        | zero => exact fun _ => ⟨hg, Int.le_refl _⟩
        | succ k ih2 =>
          intro hk
          have h2 := ih2 (by omega)
          rw [foldK_succ, stepF]
          split
          · rename_i hc
            have h3 := hch (U.set k true) (P ++ [(n - (m + 1), k)]) (p + w2 (n - (m + 1)) k) _ (by rw [← hi1]; exact hp.push hu hui hc.2 hc.1 (by omega)) (hu.push (by omega)) (by
              rw [sum2_push, ← hi1, rest1_in (by rw [inP_append]; simp [inP]), he]
              rw [rest1_congr (P := P ++ [(n - (m + 1), k)]) (Q := P) (fun j hj => by
                rw [inP_append]
                have : inP [(n - (m + 1), k)] j = false := by unfold inP; simp; omega
                rw [this, Bool.or_false])]
              omega) h2.1
            exact ⟨h3.1, Int.le_trans h2.2 h3.2⟩
          · exact h2
      have h2 := hf n (Nat.le_refl _)
      have h3 := hch U P (p + w1 (n - (m + 1))) _ (by rw [← hi1]; exact hp.next) hu (by rw [← hi1, rest1_out hin, he]; omega) h2.1
      exact ⟨h3.1, Int.le_trans h2.2 h3.2⟩
    · rw [visitF_skip hui]
      rw [hui] at hin
      exact ih (by omega) (by rw [← hi1]; exact hp.next) hu (by rw [← hi1, rest1_in hin]; exact he) hg
/-- No pairs at all are among what was tried. -/
theorem visitF_alone {m : Nat} {U : List Bool} {P : List (Nat × Nat)} {p : Int} {S : Sr} (hm : m ≤ n) (hU : ∀ k, U.getD k false = false) (hc : -1 ≤ S.c) (h0 : 0 ≤ (visitF w1 w2 n m U P p S).c) :
    p + (((List.range m).map fun j => w1 (n - m + j))).sum ≤ (visitF w1 w2 n m U P p S).most := by
  induction m generalizing P p S with
  | zero =>
    rw [visitF_zero]
    unfold leafF
    simp only [List.range_zero, List.map_nil, List.sum_nil]
    split
    · simp only; omega
    · rename_i h
      have : ¬ S.most < p := fun e => h (.inl e)
      omega
  | succ m ih =>
    rw [visitF_node (hU _)] at h0 ⊢
    generalize hT : foldK w2 (visitF w1 w2 n m) U P (n - (m + 1)) p S n = T at *
    by_cases hd : T.c ≤ 0
    · rw [childF_dead hd] at h0; simp only at h0; omega
    · rw [childF_live (by omega)] at h0 ⊢
      have h2 := ih (P := P) (p := p + w1 (n - (m + 1))) (S := ⟨T.best, T.most, T.c - 1⟩) (by omega) (by simp only; omega) h0
      rw [List.range_succ_eq_map, List.map_cons, List.sum_cons, List.map_map]
      have e : ((List.range m).map ((fun j => w1 (n - (m + 1) + j)) ∘ Nat.succ)) = (List.range m).map fun j => w1 (n - m + j) := List.map_congr_left (fun j hj => by
        show w1 (n - (m + 1) + (j + 1)) = _
        congr 1; omega)
      rw [e, Nat.add_zero]
      omega
/-- The search over all groups. -/
def bestF (w1 : Nat → Int) (w2 : Nat → Nat → Int) (n : Nat) (budget : Int) : Sr := visitF w1 w2 n n (List.replicate n false) [] 0 ⟨[], -1, budget⟩
theorem bestF_ok {budget : Int} (hb : 0 ≤ budget) (hw : ∀ j, 0 ≤ w1 j) (hc : 0 ≤ (bestF w1 w2 n budget).c) :
    PairsOk n n (bestF w1 w2 n budget).best ∧ (bestF w1 w2 n budget).most = scoreP w1 w2 n (bestF w1 w2 n budget).best ∧ ((List.range n).map w1).sum ≤ (bestF w1 w2 n budget).most := by
  have h1 := visitF_good (w1 := w1) (w2 := w2) (n := n) (m := n) (U := List.replicate n false) (P := []) (p := 0) (S := ⟨[], -1, budget⟩) (Nat.le_refl _) (by rw [Nat.sub_self]; exact PairsOk.nil _ _) (UsedOk.nil n) (by rw [Nat.sub_self]; rfl) (.inl rfl)
  have h2 := visitF_alone (w1 := w1) (w2 := w2) (n := n) (m := n) (U := List.replicate n false) (P := []) (p := 0) (S := ⟨[], -1, budget⟩) (Nat.le_refl _) (fun k => by
    rw [List.getD_eq_getElem?_getD, List.getElem?_replicate]; split <;> rfl) (by simp only; omega) hc
  have e : ((List.range n).map fun j => w1 (n - n + j)) = (List.range n).map w1 := List.map_congr_left (fun j _ => by rw [Nat.sub_self, Nat.zero_add])
  rw [e, Int.zero_add] at h2
  have h3 : 0 ≤ ((List.range n).map w1).sum := by
    generalize List.range n = L
    induction L with
    | nil => simp
    | cons a L ih => simp only [List.map_cons, List.sum_cons]; have := hw a; omega
  unfold bestF at *
  rcases h1.1 with h | ⟨h, h'⟩
  · omega
  · exact ⟨h, h', h2⟩
end
end Go.Proofs.Ytjfaafoldllppaa
