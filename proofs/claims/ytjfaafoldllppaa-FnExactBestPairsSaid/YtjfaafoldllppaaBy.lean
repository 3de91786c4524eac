
/- The best pairs: plain laws of what BestPairs yields. By hand. -/
import Derived.Test.YtjfaafoldllppaaRz
import Derived.Test.YtjfaafoldllppaaBz
import Derived.Test.YtjfaafoldllppaaTInt64SS
namespace Go.Proofs.Ytjfaafoldllppaa
open Go.RowKit
set_option linter.unusedVariables false

theorem asc_len {n : Nat} : ∀ (P : List (Nat × Nat)) (lo : Nat), P.Pairwise (fun a b => a.1 < b.1) → (∀ q ∈ P, lo ≤ q.1 ∧ q.1 < n) → P.length ≤ n - lo
  | [], _, _, _ => Nat.zero_le _
  | a :: P, lo, h, hb => by
    have h1 := List.pairwise_cons.1 h
    have ha := hb a (by simp)
    have := asc_len P (a.1 + 1) h1.2 (fun q hq => ⟨h1.1 q hq, (hb q (by simp [hq])).2⟩)
    rw [List.length_cons]; omega
theorem wOne_pos {xs : List DGroup} {lvl : Int} (hv : groupsB xs = true) (j : Nat) : 0 ≤ wOne xs lvl j := by
  unfold wOne
  split
  · rcases Nat.lt_or_ge j xs.length with h | h
    · rw [getD_of_lt h]
      have := groupB_people (groupsB_one hv h); omega
    · rw [List.getD_eq_getElem?_getD, List.getElem?_eq_none h]; exact Int.le_refl _
  · exact Int.le_refl _
theorem bp_code {xs : List DGroup} {lvl bud : Int} (h : bpC xs lvl bud = 0) : groupsB xs = true ∧ levelB lvl = true ∧ inB bud 1 20000 = true ∧ 0 ≤ (bpT xs lvl bud).c ∧ bpR xs lvl bud = ⟨(bpT xs lvl bud).best, (bpT xs lvl bud).most, 0⟩ := by
  unfold bpC at h
  cases h0 : groupsB xs
  · rw [bpR_1 h0] at h; exact absurd h (by decide)
  · cases h1 : (levelB lvl && inB bud 1 20000)
    · rw [bpR_2 h0 h1] at h; exact absurd h (by decide)
    · have h2 := Bool.and_eq_true_iff.1 h1
      by_cases h3 : (bpT xs lvl bud).c < 0
      · rw [bpR_3 h0 h1 h3] at h; exact absurd h (by decide)
      · exact ⟨rfl, h2.1, h2.2, by omega, bpR_4 h0 h1 h3⟩
theorem bp_bad {xs : List DGroup} {lvl bud : Int} (h : bpC xs lvl bud ≠ 0) : bpF xs lvl bud = [] ∧ bpM xs lvl bud = 0 := by
  unfold bpF bpM
  unfold bpC at h
  cases h0 : groupsB xs
  · rw [bpR_1 h0]; exact ⟨rfl, rfl⟩
  · cases h1 : (levelB lvl && inB bud 1 20000)
    · rw [bpR_2 h0 h1]; exact ⟨rfl, rfl⟩
    · by_cases h3 : (bpT xs lvl bud).c < 0
      · rw [bpR_3 h0 h1 h3]; exact ⟨rfl, rfl⟩
      · rw [bpR_4 h0 h1 h3] at h; exact absurd rfl h
theorem bp_good {xs : List DGroup} {lvl bud : Int} (h : bpC xs lvl bud = 0) :
    PairsOk xs.length xs.length (bpT xs lvl bud).best ∧ (bpT xs lvl bud).most = scoreP (wOne xs lvl) (wTwo xs lvl) xs.length (bpT xs lvl bud).best ∧ ((List.range xs.length).map (wOne xs lvl)).sum ≤ (bpT xs lvl bud).most := by
  obtain ⟨hv, _, hb, hc, _⟩ := bp_code h
  exact bestF_ok (w1 := wOne xs lvl) (w2 := wTwo xs lvl) (n := xs.length) (budget := bud) (by have := inB_true.1 hb; omega) (wOne_pos hv) hc
theorem bpF_len (xs : List DGroup) (lvl bud : Int) : (bpF xs lvl bud).length ≤ 8 := by
  by_cases h : bpC xs lvl bud = 0
  · obtain ⟨hv, _, _, _, hr⟩ := bp_code h
    have hp := (bp_good h).1
    have hn := groupsB_len hv
    unfold bpF
    rw [hr, List.length_map]
    have := asc_len _ 0 hp.asc (fun q hq => ⟨Nat.zero_le _, (hp.rng q hq).2.2⟩)
    show (bpT xs lvl bud).best.length ≤ 8
    omega
  · rw [(bp_bad h).1]; exact Nat.zero_le _
theorem bpF_sum (xs : List DGroup) (lvl bud : Int) : (lensS (bpF xs lvl bud)).sum ≤ 100000000000 := by
  have h1 : (lensS (bpF xs lvl bud)).sum = 2 * (bpF xs lvl bud).length := by
    unfold bpF lensS
    generalize (bpR xs lvl bud).ps = P
    induction P with
    | nil => rfl
    | cons a P ih =>
      simp only [List.map_cons, List.sum_cons, List.length_cons, List.length_map, List.map_map] at ih ⊢
      rw [ih]
      show 2 + _ = _
      omega
  have := bpF_len xs lvl bud
  omega
end Go.Proofs.Ytjfaafoldllppaa
