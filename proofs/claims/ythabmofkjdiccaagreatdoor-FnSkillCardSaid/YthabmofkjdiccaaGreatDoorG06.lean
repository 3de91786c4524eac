/- Parts of the proof: Kp, Rl, Ix, Law, LawS, Rn, Rv, Tk, Kq. -/
import Derived.Test.YthabmofkjdiccaaGreatDoorG05
import Derived.Test.YthabmofkjdiccaaGreatDoorG04
import Derived.Lib.CutLaws
import Derived.Test.YthabmofkjdiccaaGreatDoorG01
import Derived.ProofKit
import Derived.ChangeSame
import Derived.HandedShaped
import Derived.Shelf.Vars
namespace Go.Proofs.YthabmofkjdiccaaGreatDoor
open Go.RowKit
set_option linter.unusedVariables false

theorem vers_lt {xs : List DVerified} (h : versB xs = true) (j i : Nat) (hj : j < xs.length) (hi : i < j) : (xs[i]'(by omega)).day < xs[j].day :=
  ordered_lt (bef := fun a b : DVerified => a.day < b.day) (fun _ _ _ h1 h2 => by omega) (fun i hi => of_decide_eq_true (show decide (xs[i].day < xs[i + 1].day) = true from versB_two h hi)) j i hj hi
theorem vers_of {L : List DVerified} (h1 : ∀ y ∈ L, verB y = true) (h2 : ∀ i (hi : i + 1 < L.length), L[i].day < L[i + 1].day) (h3 : L.length ≤ 64) : versB L = true := by
  unfold versB
  rw [decide_eq_true h3, Bool.and_true, allIdx_true]
  intro i hi
  unfold verOk
  rw [getD_of_lt hi, h1 _ (List.getElem_mem hi), Bool.true_and]
  cases i with
  | zero => rfl
  | succ i =>
    rw [Nat.add_sub_cancel, getD_of_lt (show i < L.length by omega)]
    rw [show verBef L[i] L[i + 1] = true from decide_eq_true (h2 i hi), Bool.or_true]
/-- A list into which a day is put. -/
theorem addVer_valid {xs : List DVerified} {x : DVerified} (hc : addVerifiedC xs x = 0) :
    versB (addVerifiedF xs x) = true ∧ (addVerifiedF xs x).length = xs.length + 1 ∧ ∃ k, ∃ hk : k < (addVerifiedF xs x).length, (addVerifiedF xs x)[k] = x := by
  obtain ⟨hv, ho, hh, hl⟩ := addVerified_ok hc
  have hF : addVerifiedF xs x = xs.take (atVerified xs x) ++ x :: xs.drop (atVerified xs x) := by unfold addVerifiedF; rw [if_pos hc]
  rw [hF]
  have hp := posF_specP (fun y : DVerified => decide (cmI y.day x.day < 0)) xs
  have hle : atVerified xs x ≤ xs.length := posF_le _ _
  have hb : ∀ m (hm : m < xs.length), m < atVerified xs x → xs[m].day < x.day := fun m hm h => cmI_lt.1 (of_decide_eq_true (hp.1 m hm h))
  have ha : ∀ m (hm : m < xs.length), atVerified xs x ≤ m → x.day < xs[m].day := fun m hm h => by
    have h1 : atVerified xs x < xs.length := by omega
    have h2 : ¬ xs[atVerified xs x].day < x.day := fun h => of_decide_eq_false (hp.2 h1) (cmI_lt.2 h)
    have h3 : xs[atVerified xs x].day ≠ x.day := by
      unfold hasVerified at hh
      rw [List.getElem?_eq_getElem h1] at hh
      intro e
      have : (cmI (xs[atVerified xs x]).day x.day == 0) = false := hh
      rw [beq_eq_false_iff_ne] at this
      exact this (cmI_zero.2 e)
    rcases Nat.lt_or_eq_of_le h with h4 | h4
    · have := vers_lt hv m (atVerified xs x) hm h4; omega
    · have e : xs[m] = xs[atVerified xs x] := by congr 1; exact h4.symm
      rw [e]; omega
  obtain ⟨p1, p2, p3, p4, p5⟩ := put_ordered (bef := fun a b : DVerified => a.day < b.day) (fun _ _ _ h1 h2 => by omega) (fun i hi => of_decide_eq_true (show decide (xs[i].day < xs[i + 1].day) = true from versB_two hv hi)) hle hb ha
  refine ⟨vers_of (fun y hy => ?_) p3 (by omega), p1, _, p4, p5⟩
  rcases p2 y hy with h | rfl
  · obtain ⟨m, hm, rfl⟩ := List.getElem_of_mem h
    exact versB_one hv hm
  · exact ho

/-- How many have a property. -/
def cntB {α : Type} (p : α → Bool) (L : List α) : Int := ((L.filter p).length : Nat)
theorem cntB_nil {α : Type} (p : α → Bool) : cntB p [] = 0 := rfl
theorem cntB_cons {α : Type} (p : α → Bool) (x : α) (L : List α) : cntB p (x :: L) = cntB p L + (if p x = true then 1 else 0) := by
  unfold cntB
  by_cases h : p x = true
  · rw [List.filter_cons_of_pos h, if_pos h, List.length_cons]; omega
  · rw [List.filter_cons_of_neg h, if_neg h]; omega
theorem cntB_nonneg {α : Type} (p : α → Bool) (L : List α) : 0 ≤ cntB p L := by unfold cntB; omega
theorem cntB_le {α : Type} (p : α → Bool) (L : List α) : cntB p L ≤ L.length := by
  unfold cntB
  have := List.length_filter_le p L
  omega
theorem cntB_all {α : Type} {p : α → Bool} {L : List α} : cntB p L = L.length ↔ ∀ x ∈ L, p x = true := by
  unfold cntB
  constructor
  · intro h x hx
    have h2 : (L.filter p).length = L.length := by omega
    exact List.filter_eq_self.1 (List.Sublist.eq_of_length (List.filter_sublist) h2) x hx
  · intro h
    rw [List.filter_eq_self.2 h]
theorem cntB_congr {α : Type} {p q : α → Bool} {L : List α} (h : ∀ x ∈ L, p x = q x) : cntB p L = cntB q L := by
  unfold cntB
  rw [List.filter_congr h]
theorem cntB_take {α : Type} {p : α → Bool} {L : List α} {k : Nat} (hk : k < L.length) : cntB p (L.take (k + 1)) = cntB p (L.take k) + (if p L[k] = true then 1 else 0) := by
  unfold cntB
  rw [List.take_succ_eq_append_getElem hk, List.filter_append, List.length_append]
  by_cases h : p L[k] = true
  · rw [if_pos h, List.filter_cons_of_pos h, List.filter_nil, List.length_singleton]; omega
  · rw [if_neg h, List.filter_cons_of_neg h, List.filter_nil, List.length_nil]; omega
theorem cntB_yes {α : Type} {p : α → Bool} {L : List α} {k : Nat} (hk : k < L.length) (h : p L[k] = true) : cntB p (L.take (k + 1)) = cntB p (L.take k) + 1 := by rw [cntB_take hk, if_pos h]
theorem cntB_no {α : Type} {p : α → Bool} {L : List α} {k : Nat} (hk : k < L.length) (h : p L[k] = false) : cntB p (L.take (k + 1)) = cntB p (L.take k) := by rw [cntB_take hk, if_neg (by rw [h]; decide)]; omega
theorem cntB_full {α : Type} {p : α → Bool} {L : List α} {k : Nat} (hk : L.length ≤ k) : cntB p (L.take k) = cntB p L := by rw [List.take_of_length_le hk]
theorem cntB_zero {α : Type} (p : α → Bool) (L : List α) : cntB p (L.take 0) = 0 := rfl

/-- The day is hit by its level shifted. -/
def shB (s : Int) (x : DVerified) : Bool := decide (min (max (x.told + s) 1) 5 = x.seen)
def hitV (x : DVerified) : Bool := decide (x.told = x.seen)
def toldV (l : Int) (x : DVerified) : Bool := decide (x.told = l)
def seenV (l : Int) (x : DVerified) : Bool := decide (x.seen = l)
def difV (x : DVerified) : Int := absF (x.told - x.seen)
def bsStep (L : List DVerified) (a : Int × Int) (s : Int) : Int × Int := if a.2 < cntB (shB s) L then (s, cntB (shB s) L) else a
def bsF (L : List DVerified) : Int × Int := [0, -1, 1, -2, 2].foldl (bsStep L) (0, -1)
def BsOk (L : List DVerified) (a : Int × Int) : Prop := -2 ≤ a.1 ∧ a.1 ≤ 2 ∧ a.2 = cntB (shB a.1) L ∧ cntB (shB 0) L ≤ a.2
theorem bsOk_step {L : List DVerified} {a : Int × Int} {s : Int} (h : BsOk L a) (hs : -2 ≤ s ∧ s ≤ 2) : BsOk L (bsStep L a s) := by
  unfold bsStep
  obtain ⟨h1, h2, h3, h4⟩ := h
  split
  · exact ⟨hs.1, hs.2, rfl, by simp only; omega⟩
  · exact ⟨h1, h2, h3, h4⟩
theorem bsF_ok (L : List DVerified) : BsOk L (bsF L) := by
  have h0 : BsOk L (bsStep L (0, -1) 0) := by
    unfold bsStep
    rw [if_pos (by have := cntB_nonneg (shB 0) L; simp only; omega)]
    exact ⟨by show (-2 : Int) ≤ 0; decide, by show (0 : Int) ≤ 2; decide, rfl, Int.le_refl _⟩
  exact bsOk_step (bsOk_step (bsOk_step (bsOk_step h0 (by decide)) (by decide)) (by decide)) (by decide)
theorem verB_parts {x : DVerified} (h : verB x = true) : 1 ≤ x.told ∧ x.told ≤ 5 ∧ 1 ≤ x.seen ∧ x.seen ≤ 5 ∧ 0 ≤ x.day ∧ x.day ≤ 36524 := by
  unfold verB inB at h
  simp only [Bool.and_eq_true, decide_eq_true_eq] at h
  omega
theorem sh0 {x : DVerified} (h : verB x = true) : shB 0 x = hitV x := by
  have := verB_parts h
  unfold shB hitV
  rw [Bool.eq_iff_iff, decide_eq_true_eq, decide_eq_true_eq]
  omega

/-- The expected hits of the levels 1 .. k. -/
def expF (L : List DVerified) : Nat → Int
  | 0 => 0
  | k + 1 => expF L k + cntB (toldV ((k : Int) + 1)) L * cntB (seenV ((k : Int) + 1)) L
def sumT (L : List DVerified) : Nat → Int
  | 0 => 0
  | k + 1 => sumT L k + cntB (toldV ((k : Int) + 1)) L
theorem sumT_nil (k : Nat) : sumT [] k = 0 := by induction k with
  | zero => rfl
  | succ k ih => unfold sumT; rw [ih]; rfl
theorem sumT_cons (x : DVerified) (L : List DVerified) (k : Nat) : sumT (x :: L) k = sumT L k + (if 1 ≤ x.told ∧ x.told ≤ k then 1 else 0) := by
  induction k with
  | zero => unfold sumT; rw [if_neg (by omega)]; rfl
  | succ k ih =>
    unfold sumT
    rw [ih, cntB_cons]
    unfold toldV
    simp only [decide_eq_true_eq]
    split <;> split <;> split <;> omega
theorem sumT_le (L : List DVerified) (k : Nat) : sumT L k ≤ L.length := by
  induction L with
  | nil => rw [sumT_nil]; exact Int.le_refl _
  | cons x L ih =>
    rw [sumT_cons, List.length_cons]
    split <;> omega
theorem expF_bounds (L : List DVerified) (k : Nat) : 0 ≤ expF L k ∧ expF L k ≤ L.length * sumT L k := by
  induction k with
  | zero => exact ⟨Int.le_refl _, by show (0 : Int) ≤ L.length * 0; omega⟩
  | succ k ih =>
    have h1 := cntB_nonneg (toldV ((k : Int) + 1)) L
    have h2 := cntB_nonneg (seenV ((k : Int) + 1)) L
    have h3 := cntB_le (seenV ((k : Int) + 1)) L
    have h4 := Int.mul_nonneg h1 h2
    have h5 : cntB (toldV ((k : Int) + 1)) L * cntB (seenV ((k : Int) + 1)) L ≤ cntB (toldV ((k : Int) + 1)) L * L.length := Int.mul_le_mul_of_nonneg_left h3 h1
    unfold expF sumT
    rw [Int.mul_add, Int.mul_comm (L.length : Int) (cntB _ L)]
    omega
theorem expF_le (L : List DVerified) (k : Nat) : 0 ≤ expF L k ∧ expF L k ≤ L.length * L.length := by
  obtain ⟨h1, h2⟩ := expF_bounds L k
  have h3 : (L.length : Int) * sumT L k ≤ L.length * L.length := Int.mul_le_mul_of_nonneg_left (sumT_le L k) (by omega)
  omega
theorem sq_le {n : Int} (h0 : 0 ≤ n) (h : n ≤ 64) : 0 ≤ n * n ∧ n * n ≤ 4096 := by
  have h1 := Int.mul_nonneg h0 h0
  have h2 : n * n ≤ 64 * 64 := Int.mul_le_mul h h h0 (by decide)
  omega
def skillC (L : List DVerified) : Int := if versB L = false then 1 else if L.length = 0 then 3 else if (L.length : Int) * L.length = expF L 5 then 6 else 0
def skillV (L : List DVerified) : Int := if skillC L = 0 then drF (1000 * (L.length * cntB hitV L - expF L 5)) (L.length * L.length - expF L 5) else 0
theorem skillC_ok {L : List DVerified} (h : skillC L = 0) : versB L = true ∧ 0 < L.length ∧ (L.length : Int) * L.length ≠ expF L 5 := by
  unfold skillC at h
  cases hv : versB L
  · rw [hv, if_pos rfl] at h; exact absurd h (by decide)
  rw [hv, if_neg (by decide)] at h
  by_cases h1 : L.length = 0
  · rw [if_pos h1] at h; exact absurd h (by decide)
  rw [if_neg h1] at h
  by_cases h2 : (L.length : Int) * L.length = expF L 5
  · rw [if_pos h2] at h; exact absurd h (by decide)
  exact ⟨rfl, by omega, h2⟩
theorem skill_law {L : List DVerified} (h : skillC L = 0) : skillV L ≤ 1000 ∧ (skillV L = 1000 ↔ cntB hitV L = L.length) := by
  obtain ⟨hv, hl, hne⟩ := skillC_ok h
  have hl2 := versB_len hv
  obtain ⟨he0, he1⟩ := expF_le L 5
  unfold skillV
  rw [if_pos h]
  have hc0 := cntB_nonneg hitV L
  have hc1 := cntB_le hitV L
  have hc2 : cntB hitV L ≠ L.length → cntB hitV L ≤ L.length - 1 := fun h => by omega
  generalize cntB hitV L = c at *
  generalize expF L 5 = e at *
  have hsq := sq_le (n := (L.length : Int)) (by omega) (by omega)
  have hnc : (L.length : Int) * c ≤ L.length * L.length := Int.mul_le_mul_of_nonneg_left hc1 (by omega)
  have hnc2 : c ≠ L.length → (L.length : Int) * c ≤ L.length * L.length - L.length := fun h => by
    have h1 := Int.mul_le_mul_of_nonneg_left (hc2 h) (show (0 : Int) ≤ L.length by omega)
    rw [Int.mul_sub, Int.mul_one] at h1
    exact h1
  have heq : c = L.length → (L.length : Int) * c = L.length * L.length := fun h => by rw [h]
  have hn0 : (1 : Int) ≤ L.length := by omega
  have hn64 : (L.length : Int) * L.length ≤ 64 * L.length := Int.mul_le_mul_of_nonneg_right (by omega) (by omega)
  have hn1 : (L.length : Int) ≤ 64 := by omega
  generalize (L.length : Int) = n at *
  generalize n * c = nc at *
  generalize n * n = nn at *
  have hb : 0 < nn - e := by omega
  have hnc0 : 1000 * (nc - e) ≤ 1000 * (nn - e) := by omega
  obtain ⟨g1, g2⟩ := drF_near (a := 1000 * (nc - e)) hb
  have gle : drF (1000 * (nc - e)) (nn - e) ≤ 1000 := by
    refine Int.le_of_lt_add_one (mul_lt_cancel hb ?_)
    rw [Int.add_mul]; omega
  refine ⟨gle, ?_, ?_⟩
  · intro h1
    rw [h1] at g1 g2
    refine Decidable.byContradiction (fun hcn => ?_)
    have := hnc2 hcn
    omega
  · intro h1
    have := heq h1
    have h3 : nc = nn := this
    rw [h3] at g1 g2 gle ⊢
    refine Int.le_antisymm gle (Int.le_of_lt_add_one (mul_lt_cancel hb ?_))
    rw [Int.add_mul]; omega

/-- The greatest difference of the first k days. -/
def wmF (L : List DVerified) : Nat → Int
  | 0 => 0
  | k + 1 => match L[k]? with | some x => max (wmF L k) (difV x) | none => wmF L k
theorem wmF_succ {L : List DVerified} {k : Nat} (hk : k < L.length) : wmF L (k + 1) = max (wmF L k) (difV L[k]) := by
  show (match L[k]? with | some x => max (wmF L k) (difV x) | none => wmF L k) = _
  rw [List.getElem?_eq_getElem hk]
theorem wmF_ge {L : List DVerified} (k j : Nat) (hj : j < L.length) (hjk : j < k) : difV L[j] ≤ wmF L k := by
  induction k with
  | zero => omega
  | succ k ih =>
    by_cases hk : k < L.length
    · rw [wmF_succ hk]
      rcases Nat.lt_or_eq_of_le (Nat.le_of_lt_succ hjk) with h | h
      · have := ih h; omega
      · subst h; omega
    · have : j < k := by omega
      have h1 := ih this
      show _ ≤ (match L[k]? with | some x => max (wmF L k) (difV x) | none => wmF L k)
      rw [List.getElem?_eq_none (by omega)]
      exact h1
theorem difV_bounds {x : DVerified} (h : verB x = true) : 0 ≤ difV x ∧ difV x ≤ 4 := by
  have := verB_parts h
  unfold difV absF
  omega
theorem wmF_bounds {L : List DVerified} (h : ∀ x ∈ L, verB x = true) (k : Nat) : 0 ≤ wmF L k ∧ wmF L k ≤ 4 := by
  induction k with
  | zero => exact ⟨Int.le_refl _, by show (0 : Int) ≤ 4; decide⟩
  | succ k ih =>
    by_cases hk : k < L.length
    · rw [wmF_succ hk]
      have := difV_bounds (h _ (List.getElem_mem hk))
      omega
    · show 0 ≤ (match L[k]? with | some x => max (wmF L k) (difV x) | none => wmF L k) ∧ (match L[k]? with | some x => max (wmF L k) (difV x) | none => wmF L k) ≤ 4
      rw [List.getElem?_eq_none (by omega)]
      exact ih
def difB (m : Int) (x : DVerified) : Bool := decide (difV x = m)
/-- The days of the worst differences. -/
def worstF (L : List DVerified) : List Int := (L.filter (difB (wmF L L.length))).map (·.day)

theorem vers_one {L : List DVerified} (h : versB L = true) : ∀ x ∈ L, verB x = true := by
  intro x hx
  obtain ⟨k, hk, rfl⟩ := List.mem_iff_getElem.1 hx
  exact versB_one h hk
theorem worst_mem {L : List DVerified} (h : versB L = true) {i : Nat} (hi : i < L.length) : memI L[i].day (worstF L) = difB (wmF L L.length) L[i] := by
  rw [Bool.eq_iff_iff, memI_true]
  unfold worstF
  rw [List.mem_map]
  constructor
  · rintro ⟨y, hy, he⟩
    obtain ⟨hy1, hy2⟩ := List.mem_filter.1 hy
    obtain ⟨j, hj, rfl⟩ := List.mem_iff_getElem.1 hy1
    rcases Nat.lt_trichotomy i j with hlt | rfl | hlt
    · have := vers_lt h j i hj hlt; omega
    · exact hy2
    · have := vers_lt h i j hi hlt; omega
  · intro hd
    exact ⟨L[i], List.mem_filter.2 ⟨List.getElem_mem hi, hd⟩, rfl⟩

/-- The sum of the differences of the first k days. -/
def biasS (L : List DVerified) : Nat → Int
  | 0 => 0
  | k + 1 => biasS L k + (match L[k]? with | some x => x.told - x.seen | none => 0)
theorem biasS_succ {L : List DVerified} {k : Nat} (hk : k < L.length) : biasS L (k + 1) = biasS L k + (L[k].told - L[k].seen) := by
  show biasS L k + (match L[k]? with | some x => x.told - x.seen | none => 0) = _
  rw [List.getElem?_eq_getElem hk]
theorem biasS_bounds {L : List DVerified} (h : ∀ x ∈ L, verB x = true) (k : Nat) : -4 * (k : Int) ≤ biasS L k ∧ biasS L k ≤ 4 * (k : Int) := by
  induction k with
  | zero => exact ⟨Int.le_refl _, Int.le_refl _⟩
  | succ k ih =>
    by_cases hk : k < L.length
    · rw [biasS_succ hk]
      have := verB_parts (h _ (List.getElem_mem hk))
      omega
    · show _ ≤ biasS L k + (match L[k]? with | some x => x.told - x.seen | none => 0) ∧ biasS L k + (match L[k]? with | some x => x.told - x.seen | none => 0) ≤ _
      rw [List.getElem?_eq_none (by omega)]
      simp only
      omega
def biasV (L : List DVerified) : Int := drF (100 * biasS L L.length) L.length
theorem bias_law {L : List DVerified} (h : versB L = true) (hl : 0 < L.length) : absF (biasV L) ≤ 400 := by
  have hb := biasS_bounds (vers_one h) L.length
  rw [absF_le]
  exact drF_between (by omega) (by omega) (by omega)
end Go.Proofs.YthabmofkjdiccaaGreatDoor

namespace Go.Proofs.YthabmofkjdiccaaGreatDoor
open Go.RowKit
set_option linter.unusedVariables false

/-- Pieces without the byte, joined, are divided again. -/
theorem splL_app (c : UInt8) : ∀ (x l : List UInt8), (∀ b ∈ x, b ≠ c) → splL c (x ++ c :: l) = x :: splL c l
  | [], l, _ => by show (if c = c then [] :: splL c l else _) = _; rw [if_pos rfl]
  | b :: x, l, h => by
    have ih := splL_app c x l (fun y hy => h y (by simp [hy]))
    show (if b = c then [] :: splL c (x ++ c :: l) else match splL c (x ++ c :: l) with | [] => [[b]] | q :: r => (b :: q) :: r) = _
    rw [if_neg (h b (by simp)), ih]
theorem spl_joinX : ∀ (L : List (List UInt8)), L ≠ [] → (∀ x ∈ L, ∀ b ∈ x, b ≠ 44) → splL 44 (joinX L) = L
  | [], h, _ => absurd rfl h
  | [x], _, h => by rw [joinX_one]; exact splL_none (h x (by simp))
  | x :: y :: r, _, h => by
    have e : joinX (x :: y :: r) = x ++ 44 :: joinX (y :: r) := by simp [joinX]
    rw [e, splL_app 44 x _ (h x (by simp)), spl_joinX (y :: r) (by simp) (fun z hz => h z (by simp [hz]))]
theorem joinX_cat (P : List (List UInt8)) (q : List UInt8) : joinX (P ++ [q]) = (P.flatMap fun p => p ++ [44]) ++ q := by
  induction P with
  | nil => simp [joinX]
  | cons a P ih =>
    cases P with
    | nil => simp [joinX]
    | cons b P =>
      have e : joinX (a :: b :: P ++ [q]) = a ++ 44 :: joinX (b :: P ++ [q]) := by simp [joinX]
      rw [e, ih]; simp
theorem joinX_spl (l : List UInt8) : joinX (splL 44 l) = l := by
  obtain ⟨P, q, h⟩ : ∃ P q, splL 44 l = P ++ [q] := ⟨_, _, (List.dropLast_concat_getLast (splL_ne 44 l)).symm⟩
  rw [h, joinX_cat, splL_join 44 l P q h]
open Go.Lib in
theorem splitK_more (c : UInt8) : ∀ (l : List UInt8) (k : Nat), (splL c l).length ≤ k + 1 → splitK [c] 0 k l = splL c l
  | [], k, _ => by
    have h : index ([] : List UInt8) [c] = -1 := rfl
    cases k with
    | zero => rfl
    | succ k => rw [splitK, h]; rfl
  | b :: l, k, hk => by
    have hi := index_one c b l
    unfold splL at hk ⊢
    by_cases e : b = c
    · rw [if_pos e] at hi hk ⊢
      obtain ⟨j, rfl⟩ : ∃ j, k = j + 1 := ⟨k - 1, by have := splL_ne c l; have h2 : 0 < (splL c l).length := List.length_pos_iff.2 this; rw [List.length_cons] at hk; omega⟩
      rw [splitK, hi]
      have ih := splitK_more c l j (by rw [List.length_cons] at hk; omega)
      simp [ih]
    · rw [if_neg e] at hi hk ⊢
      have hk2 : (splL c l).length ≤ k + 1 := by
        cases hs : splL c l with
        | nil => simp
        | cons q r => rw [hs] at hk; simpa using hk
      have ih := splitK_more c l k hk2
      cases k with
      | zero =>
        have ih' : [l] = splL c l := ih
        rw [← ih']; rfl
      | succ k =>
        rcases index_spec l [c] with ⟨h1, _⟩ | ⟨i, h1, _⟩
        · rw [h1] at hi
          have hm : index (b :: l) [c] = -1 := hi
          rw [splitK, h1] at ih
          have ih' : [l] = splL c l := ih
          rw [splitK, hm, ← ih']; rfl
        · have hm : index (b :: l) [c] = ((i + 1 : Nat) : Int) := by
            rw [hi, h1, if_neg (by rw [beq_iff_eq]; omega)]; omega
          rw [splitK, h1, if_neg (by rw [beq_iff_eq]; omega)] at ih
          rw [splitK, hm, if_neg (by rw [beq_iff_eq]; omega), ← ih]
          simp
def inR (n : Int) : Bool := inB n (-1000000000000) 1000000000000
def pieceB (p : ByteArray) : Bool := numOk p && inR (numV p)
def minusS : ByteArray := ⟨#[45]⟩
/-- The list that a text is of. -/
def rlF (s : ByteArray) : Option (List Int) := if s = minusS then some [] else if decide ((splS 44 s).length ≤ 64) && (splS 44 s).all pieceB then some ((splS 44 s).map numV) else none
theorem num_parts {p : ByteArray} (h : numOk p = true) : Lib.itoa (numV p) = p.data.toList ∧ numL p.data.toList = some (numV p) := by
  unfold numOk at h
  cases hn : numL p.data.toList with
  | none => rw [hn] at h; cases h
  | some v =>
    have hv := (num_some hn).2
    rw [hv]
    exact ⟨(numL_back hn).1, rfl⟩
theorem itoa_bytes (v : Int) : ∀ b ∈ Lib.itoa v, b ≠ 44 ∧ b ≠ 32 := by
  have hd : ∀ u, ∀ b ∈ dig u, b ≠ 44 ∧ b ≠ 32 := fun u b hb => by
    have := List.all_eq_true.1 (dig_all u) b hb
    unfold digB at this
    simp only [Bool.and_eq_true, decide_eq_true_eq] at this
    constructor <;> (intro e; subst e; revert this; decide)
  intro b hb
  by_cases h0 : v = 0
  · subst h0; rw [itoa_zeroL] at hb; simp at hb; subst hb; decide
  · rw [itoa_ne h0, List.mem_append] at hb
    rcases hb with hb | hb
    · split at hb
      · simp at hb; subst hb; decide
      · cases hb
    · exact hd _ b hb
theorem listS_data {xs : List Int} (h : xs ≠ []) : (listS xs).data.toList = joinX (xs.map Lib.itoa) := by unfold listS; rw [if_neg h]
theorem splS_list {xs : List Int} (h : xs ≠ []) : splS 44 (listS xs) = xs.map decS := by
  refine (splS_of ?_).symm
  rw [listS_data h, spl_joinX _ (by simpa using h) (fun x hx b hb => by
    obtain ⟨v, _, rfl⟩ := List.mem_map.1 hx
    exact (itoa_bytes v b hb).1), List.map_map]
  congr 1
theorem numOk_dec {v : Int} (h : inR v = true) : numOk (decS v) = true ∧ numV (decS v) = v := by
  have hb : v.natAbs < 10 ^ 18 := by
    unfold inR inB at h
    simp only [Bool.and_eq_true, decide_eq_true_eq] at h
    have : (10 : Nat) ^ 18 = 1000000000000000000 := by decide
    omega
  exact num_some (by rw [show (decS v).data.toList = Lib.itoa v from by unfold decS; simp]; exact numL_itoa v hb)
/-- A text that is a list's text is read as that list. -/
theorem rlF_list {xs : List Int} (h : fitsL xs = true) : rlF (listS xs) = some xs := by
  unfold fitsL at h
  simp only [Bool.and_eq_true, decide_eq_true_eq] at h
  unfold rlF
  by_cases hn : xs = []
  · subst hn; rfl
  · have hm : ¬ listS xs = minusS := by
      intro e
      have hs := splS_list hn
      rw [e, show splS 44 minusS = [minusS] from rfl] at hs
      cases xs with
      | nil => exact hn rfl
      | cons x r =>
        rw [List.map_cons] at hs
        injection hs with h1 _
        have h2 := congrArg (fun s : ByteArray => s.data.toList) h1
        have h3 : ([45] : List UInt8) = Lib.itoa x := by simpa [decS, minusS] using h2
        by_cases h0 : x = 0
        · subst h0; rw [itoa_zeroL] at h3; cases h3
        · have h4 := dig_first x.natAbs (by omega)
          obtain ⟨c, r', h5⟩ := h4
          have h6 := List.all_eq_true.1 (dig_all x.natAbs) c (by rw [h5]; simp)
          rw [itoa_ne h0, h5] at h3
          split at h3
          · simp at h3
          · simp at h3; rw [← h3.1] at h6; revert h6; decide
    rw [if_neg hm, splS_list hn, List.length_map, decide_eq_true h.1, List.map_map]
    have ha : (xs.map decS).all pieceB = true := by
      rw [List.all_eq_true]
      intro y hy
      obtain ⟨v, hv, rfl⟩ := List.mem_map.1 hy
      have hr : inR v = true := List.all_eq_true.1 h.2 v hv
      obtain ⟨h1, h2⟩ := numOk_dec hr
      unfold pieceB; rw [h1, h2, hr]; rfl
    rw [ha, if_pos (by rfl)]
    congr 1
    have : (xs.map (numV ∘ decS)) = xs.map id := List.map_congr_left (fun v hv => (numOk_dec (List.all_eq_true.1 h.2 v hv)).2)
    rw [this, List.map_id]
/-- What is read spells the text. -/
theorem rlF_text {s : ByteArray} {xs : List Int} (h : rlF s = some xs) : fitsL xs = true ∧ listS xs = s := by
  unfold rlF at h
  split at h
  · rename_i hm
    injection h with h
    subst h
    exact ⟨rfl, by rw [hm]; rfl⟩
  · split at h
    · rename_i hc
      simp only [Bool.and_eq_true, decide_eq_true_eq] at hc
      injection h with h
      have hall := List.all_eq_true.1 hc.2
      subst h
      constructor
      · unfold fitsL
        rw [List.length_map, decide_eq_true hc.1, Bool.true_and, List.all_eq_true]
        intro y hy
        obtain ⟨p, hp, rfl⟩ := List.mem_map.1 hy
        have := hall p hp
        unfold pieceB at this
        simp only [Bool.and_eq_true] at this
        exact this.2
      · have hne : (splS 44 s).map numV ≠ [] := by
          have := splS_data 44 s
          intro e
          have h2 : splS 44 s = [] := by simpa using e
          rw [h2] at this
          exact splL_ne 44 _ this.symm
        refine data_inj ?_
        rw [listS_data hne, List.map_map]
        have : (splS 44 s).map (Lib.itoa ∘ numV) = (splS 44 s).map (fun x : ByteArray => x.data.toList) := List.map_congr_left (fun p hp => by
          have := hall p hp
          unfold pieceB at this
          simp only [Bool.and_eq_true] at this
          exact (num_parts this.1).1)
        rw [this, splS_data, joinX_spl]
    · cases h
theorem splS_len (c : UInt8) (s : ByteArray) : (splS c s).length ≤ s.size + 1 := by
  have hl : ∀ l : List UInt8, (splL c l).length ≤ l.length + 1 := by
    intro l
    induction l with
    | nil => simp [splL]
    | cons b l ih =>
      unfold splL
      split
      · rw [List.length_cons, List.length_cons]; omega
      · cases hs : splL c l with
        | nil => simp
        | cons q r => rw [hs] at ih; rw [List.length_cons] at ih ⊢; rw [List.length_cons]; omega
  unfold splS; rw [List.length_map]
  have := hl s.data.toList
  rwa [dataL_len] at this
/-- The pieces that SplitN(s, ",", 65) gives. -/
def cutN (s : ByteArray) : List ByteArray := Lib.splitB ⟨#[44]⟩ 0 (min 65 (s.size + 1) - 1) s
theorem cutN_data (s : ByteArray) : (cutN s).map (fun x : ByteArray => x.data.toList) = Lib.splitK [44] 0 (min 65 (s.size + 1) - 1) s.data.toList := Lib.splitB_data ⟨#[44]⟩ 0 _ s
theorem cutN_few {s : ByteArray} (h : (splS 44 s).length ≤ 64) : cutN s = splS 44 s := by
  refine splS_of ?_
  have h2 := splS_len 44 s
  have h3 : (splL 44 s.data.toList).length = (splS 44 s).length := by unfold splS; rw [List.length_map]
  rw [cutN_data]
  exact splitK_more 44 s.data.toList _ (by omega)
theorem splitB_len (sep : ByteArray) : ∀ (k : Nat) (s : ByteArray), (Lib.splitB sep 0 k s).length ≤ k + 1 ∧ ∀ x ∈ Lib.splitB sep 0 k s, x.size ≤ s.size
  | 0, s => ⟨by rw [Lib.splitB_zero]; simp, by intro x hx; rw [Lib.splitB_zero, List.mem_singleton] at hx; subst hx; omega⟩
  | k + 1, s => by
    unfold Lib.splitB
    split
    · exact ⟨by simp, by intro x hx; rw [List.mem_singleton] at hx; subst hx; omega⟩
    · obtain ⟨h1, h2⟩ := splitB_len sep k (s.extract ((Lib.indexB s sep).toNat + sep.size) s.size)
      refine ⟨by rw [List.length_cons]; omega, ?_⟩
      intro x hx
      rcases List.mem_cons.1 hx with rfl | hx
      · rw [ByteArray.size_extract]; omega
      · have := h2 x hx
        rw [ByteArray.size_extract] at this
        omega
theorem cutN_len (s : ByteArray) : (cutN s).length ≤ 65 := by have := (splitB_len ⟨#[44]⟩ (min 65 (s.size + 1) - 1) s).1; unfold cutN; omega
theorem cutN_size (s : ByteArray) : ∀ x ∈ cutN s, x.size ≤ s.size := (splitB_len ⟨#[44]⟩ _ s).2
theorem cutN_empty : cutN ⟨#[]⟩ = [⟨#[]⟩] := rfl
theorem rlF_bad {s : ByteArray} {k : Nat} (hm : ¬ s = minusS) (hk : k < (cutN s).length) (h : numOk (cutN s)[k] = false) : rlF s = none := by
  unfold rlF; rw [if_neg hm]
  split
  · rename_i hc
    simp only [Bool.and_eq_true, decide_eq_true_eq] at hc
    have e := cutN_few hc.1
    have := List.all_eq_true.1 hc.2 (cutN s)[k] (by rw [← e]; exact List.getElem_mem hk)
    unfold pieceB at this
    rw [h] at this; cases this
  · rfl
theorem rlF_end {s : ByteArray} (hm : ¬ s = minusS) (hall : ∀ x ∈ cutN s, numOk x = true) : (listT ((cutN s).map numV) = s → rlF s = some ((cutN s).map numV)) ∧ (¬ listT ((cutN s).map numV) = s → rlF s = none) := by
  constructor
  · intro h
    unfold listT at h
    split at h
    · rename_i hf
      have := rlF_list hf
      rw [h] at this
      exact this
    · subst h
      have := hall ⟨#[]⟩ (by rw [cutN_empty]; simp)
      exact absurd this (by decide)
  · intro h
    cases hr : rlF s with
    | none => rfl
    | some xs =>
      obtain ⟨h1, h2⟩ := rlF_text hr
      have hlen : (splS 44 s).length ≤ 64 ∧ xs = (splS 44 s).map numV := by
        unfold rlF at hr
        rw [if_neg hm] at hr
        split at hr
        · rename_i hc
          simp only [Bool.and_eq_true, decide_eq_true_eq] at hc
          injection hr with hr
          exact ⟨hc.1, hr.symm⟩
        · cases hr
      refine absurd ?_ h
      rw [cutN_few hlen.1, ← hlen.2]
      unfold listT; rw [if_pos h1, h2]
def RlR (w : World) (s : ByteArray) (e : Ending) (w' : World) : Prop := ∃ v, e = .returned (.tuple #[v, .bool (rlF s).isSome]) ∧ New fInt.cod w v ((rlF s).getD []) w'
theorem RlR.none_ {w w' : World} {s : ByteArray} (h : rlF s = none) (hb : Below w.heap.size w w') : RlR w s (.returned (.tuple #[.slice none 0 0, .bool false])) w' := ⟨_, by rw [h]; rfl, by rw [h]; exact New.nil hb⟩
theorem RlR.some_ {w w' : World} {s : ByteArray} {v : Value} {xs : List Int} (h : rlF s = some xs) (hn : New fInt.cod w v xs w') : RlR w s (.returned (.tuple #[v, .bool true])) w' := ⟨_, by rw [h]; rfl, by rw [h]; exact hn⟩
theorem infoIntR : (Tryz.prog.info? 2).map (fun i => (i.zero, i.size, i.bytes)) = some (some (.int .i64 0), 1, 8) := by kernel_rfl
theorem numV_ok (p : ByteArray) : fInt.ok (numV p) := by
  unfold numV
  cases h : numL p.data.toList with
  | none => show _ ∧ _; simp
  | some v =>
    have := (numL_back h).2.1
    have e : (10 : Nat) ^ 18 = 1000000000000000000 := by decide
    show _ ∧ _
    simp only [Option.getD_some]
    omega
theorem numVs_ok (L : List ByteArray) : ∀ x ∈ L.map numV, fInt.ok x := by
  intro x hx; obtain ⟨p, _, rfl⟩ := List.mem_map.1 hx; exact numV_ok p
theorem spl_sizeR (c : UInt8) (s : ByteArray) : ∀ x ∈ splS c s, x.size ≤ s.size := by
  intro x hx
  obtain ⟨P, q, h1, h2⟩ := splS_cut c s
  have h3 := congrArg List.length h2
  rw [List.length_append, dataL_len, dataL_len] at h3
  rw [h1, List.mem_append] at hx
  rcases hx with hx | hx
  · obtain ⟨A, B, e⟩ := List.append_of_mem hx
    rw [e, List.flatMap_append, List.flatMap_cons, List.length_append, List.length_append, List.length_append, dataL_len] at h3
    omega
  · rw [List.mem_singleton] at hx; subst hx; omega
theorem cutN_any (s : ByteArray) (m : Int) (w : World) (hs : s.size ≤ 1048576) (hm : w.cell? ⟨0, 0, none⟩ = some (.int .i64 m)) :
    Calls Tryz.prog 113 #[.string s, .string ⟨#[44]⟩, .int .i64 65] w fun e w' => ∃ v fp, e = .returned v ∧ Sl fStr.cod w' v (cutN s) fp ∧ Below w.heap.size w w' := by
  have hlen := cutN_len s
  have hsz := cutN_size s
  have hl2 := (splitB_len ⟨#[44]⟩ (min 65 (s.size + 1) - 1) s).1
  refine (Tryz.strings_SplitN s ⟨#[44]⟩ 65 m w (by omega) hm (Nat.le_refl 1) (by decide) (by decide)).mono ?_
  rintro e w' ⟨rfl, rfl⟩
  refine ⟨_, [w.heap.size], rfl, ?_, (Below.refl _ _).alloc (Nat.le_refl _) _⟩
  have hpos : 0 < (cutN s).length := by
    unfold cutN
    cases hk : (min 65 (s.size + 1) - 1) with
    | zero => rw [Lib.splitB_zero]; simp
    | succ k => unfold Lib.splitB; split <;> simp
  refine Sl.of_cells (by show (cutN s).length ≤ _; unfold cutN at hpos ⊢; omega) (by omega) (by simp) (fun j hj => ⟨?_, ?_⟩) (fun x hx => by have := hsz x hx; show x.size ≤ 9223372036854775807; omega) hpos
  · have e1 : (cutN s).flatMap fStr.enc = (cutN s).map Value.string := by
      generalize cutN s = L
      induction L with
      | nil => rfl
      | cons x L ih => rw [List.flatMap_cons, List.map_cons, ih]; rfl
    have hj2 : j < (cutN s).length := by
      have h : j < ((cutN s).flatMap fStr.enc).length := hj
      rw [e1, List.length_map] at h; exact h
    rw [World.cell?_alloc_at _ _ _ _ rfl]
    show (Lib.cellsOf (cutN s) (min 65 (s.size + 1)))[0 + j]? = ((cutN s).flatMap fStr.enc)[j]?
    rw [e1, Nat.zero_add]
    unfold Lib.cellsOf
    rw [List.getElem?_toArray, List.getElem?_append_left (by rw [List.length_map]; exact hj2)]
  · rw [World.frozen?_alloc_at _ _ _ _ rfl]
set_option maxRecDepth 100000 in
set_option maxHeartbeats 4000000 in
theorem implReadList_any (s : ByteArray) (m : Int) (w : World) (hs : s.size ≤ 1048576) (hm9 : w.cell? ⟨0, 0, none⟩ = some (.int .i64 m)) (ht : RdTabs w) :
    Calls Tryz.prog 89 #[.string s] w fun e w' => RlR w s e w' := by
  obtain ⟨i0, hi, hz0, hz1, hz2⟩ := info_parts infoIntR
  by_cases hm : s = minusS
  · have e1 : (s.toList == [45]) = true := by rw [hm, beq_iff_eq]; unfold minusS; simp [ByteArray.toList_eq]
    have HR := Lib.hid (show rlF s = some [] from by unfold rlF; rw [if_pos hm])
    clear hm
    go_enter Tryz.func89, Tryz.ntmps89
    go_wp2
    go_ret2
    exact RlR.some_ HR.out (New.nil (Below.refl _ _))
  · have e1 : (s.toList == [45]) = false := by
      rw [beq_eq_false_iff_ne]; intro e
      exact hm (bytes_toList_inj (e.trans (by unfold minusS; simp [ByteArray.toList_eq])))
    have hsz := cutN_size s
    have hl65 := cutN_len s
    have HBAD : Hid (∀ k (hk : k < (cutN s).length), numOk (cutN s)[k] = false → rlF s = none) := fun k hk h => rlF_bad hm hk h
    have HEND : Hid ((∀ x ∈ cutN s, numOk x = true) → (listT ((cutN s).map numV) = s → rlF s = some ((cutN s).map numV)) ∧ (¬ listT ((cutN s).map numV) = s → rlF s = none)) := fun h => rlF_end hm h
    clear hm
    go_enter Tryz.func89, Tryz.ntmps89
    go_wp2_with fail
    refine (cutN_any s m _ hs hm9).mono ?_
    rintro e w1 ⟨v1, fp1, rfl, hsl, hb1⟩
    have ht1 := ht.below hb1
    generalize cutN s = P at *
    obtain ⟨A, cap, rfl, hle, hca⟩ := hsl.form
    go_wp2
    go_loopw [4, 14] (fun v i wr => ∃ k : Nat, k ≤ P.length ∧ i = .int .i64 k ∧ Hid ((P.take k).all numOk = true) ∧ Own fInt wr w1.heap.size 2 v ((P.map numV).take k) ∧ Below w1.heap.size w1 wr) (fun _ i _ => P.length - (intOf i).toNat)
    case atStart => exact ⟨0, Nat.zero_le _, rfl, rfl, Own.nil fInt _ _ _, Below.refl _ _⟩
    case round =>
      obtain ⟨k, hk, rfl, HA, ho, hb⟩ := hrel
      by_cases hlt : k < P.length
      · obtain ⟨b, off, rfl, _, _, hc, _⟩ := (hsl.below' hb).cell1 rfl hlt rfl
        have hps := hsz P[k] (List.getElem_mem hlt)
        have hkl : ((P.map numV).take k).length ≤ 65 := by rw [List.length_take, List.length_map]; omega
        go_wp2_with fail
        refine (ReadDecimal_any P[k] _ (by omega) (ht1.below hb)).mono ?_
        rintro e w2 ⟨rfl, hb2⟩
        have hB2 := hb.trans (hb2.mono hb.size)
        cases hn : numOk P[k]
        · have HN := Lib.hid (HBAD.out k hlt hn)
          clear ho hn
          go_wp2
          go_ret2
          exact RlR.none_ HN.out (hb1.trans (hB2.mono hb1.size))
        · have HA2 : Hid ((P.take (k + 1)).all numOk = true) := by
            show _ = _
            rw [List.take_succ_eq_append_getElem hlt, List.all_append, HA.out]; simp [hn]
          have HST : Hid ((P.map numV).take (k + 1) = (P.map numV).take k ++ [numV P[k]]) := by show _ = _; rw [List.take_succ_eq_append_getElem (by rw [List.length_map]; exact hlt), List.getElem_map]
          have ho3 : w2.ownsRow w1.heap.size 2 1 u4 ((P.map numV).take k).length (((P.map numV).take k).flatMap fInt.enc) := ho.below hb2
          have hs2 := hB2.size
          clear ho hn
          go_wp2_with (at_builtin; refine wpList_append_one rfl _ _ 30 rfl w1.heap.size 2 i0 (.int .i64 0) 1 8 Tryz.underlying30 hi hz0 hz1 hz2 rfl (by decide) u4 ((P.map numV).take k).length _ rfl ho3 [.int .i64 (numV P[k])] rfl (by intro u hu; rw [List.mem_singleton] at hu; subst hu; rfl) rfl (by omega) (by decide) hs2 ?_)
          intro v' u hown hbu _ _
          have hbu' := hB2.trans hbu
          have ho4 : Own fInt u w1.heap.size 2 v' ((P.map numV).take (k + 1)) := by rw [HST.out]; exact Own.push _ (by rw [List.length_take, List.length_map]; omega) hown
          clear hown
          go_wp2
          go_roundw
          case rel => exact ⟨k + 1, by omega, by go_num, HA2, ho4, hbu'⟩
          case measure => simp [intOf]; omega
      · obtain rfl : k = P.length := by omega
        rw [← List.length_map (f := numV), List.take_length] at ho
        have hall : ∀ x ∈ P, numOk x = true := by
          have h := HA.out
          rw [List.take_length] at h
          exact List.all_eq_true.1 h
        obtain ⟨hE1, hE2⟩ := HEND.out hall
        have hoks := numVs_ok P
        obtain ⟨fpy, hsy, hlo, hnd⟩ := Sl.of_own (n := (P.map numV).length) rfl ho hoks
        have hls := listT_size hoks (by rw [List.length_map]; omega)
        clear hall
        go_wp2_with fail
        refine (ListText_any _ (P.map numV) fpy _ hsy (ht1.below hb).tab).mono ?_
        rintro e w2 ⟨rfl, hb2⟩
        have hB2 := hb.trans (hb2.mono hb.size)
        by_cases hq : listT (P.map numV) = s
        · have HY := Lib.hid (hE1 hq)
          have e2 : ((listT (P.map numV)).toList == s.toList) = true := eqS_true.2 hq
          have hnew := ((ho.below hb2).new hB2 hoks).later hb1
          clear hE1 hE2 hq hsy ho
          go_wp2
          go_ret2
          exact RlR.some_ HY.out hnew
        · have HN := Lib.hid (hE2 hq)
          have e2 : ((listT (P.map numV)).toList == s.toList) = false := bytes_beq_false hq
          clear hE1 hE2 hq hsy ho
          go_wp2
          go_ret2
          exact RlR.none_ HN.out (hb1.trans (hB2.mono hb1.size))

end Go.Proofs.YthabmofkjdiccaaGreatDoor

namespace Go.Proofs.YthabmofkjdiccaaGreatDoor
open Go.RowKit
set_option linter.unusedVariables false

def ixL (c : UInt8) : List UInt8 → Nat
  | [] => 0
  | b :: l => if b = c then 0 else ixL c l + 1
theorem ixL_cons (c b : UInt8) (l : List UInt8) : ixL c (b :: l) = if b = c then 0 else ixL c l + 1 := rfl
theorem ixL_le (c : UInt8) : ∀ l, ixL c l ≤ l.length
  | [] => Nat.le_refl _
  | b :: l => by
    rw [ixL_cons]; split
    · simp
    · have := ixL_le c l; simp; omega
theorem ixL_index (c : UInt8) : ∀ l, Lib.index l [c] = if ixL c l < l.length then (ixL c l : Int) else -1
  | [] => rfl
  | b :: l => by
    rw [index_one, ixL_index c l, ixL_cons]
    by_cases e : b = c
    · rw [if_pos e, if_pos e, if_pos (by simp)]; rfl
    · rw [if_neg e, if_neg e]
      by_cases h : ixL c l < l.length
      · rw [if_pos h, if_neg (by rw [beq_iff_eq]; omega), if_pos (by simp; omega)]; push_cast; rfl
      · rw [if_neg h, if_pos (by decide), if_neg (by simp; omega)]
theorem ixL_hit {c : UInt8} {l : List UInt8} {k : Nat} (hk : k < l.length) (h : l[k] = c) : ixL c (l.drop k) = 0 := by
  rw [List.drop_eq_getElem_cons hk, ixL_cons, if_pos h]
theorem ixL_no {c : UInt8} {l : List UInt8} {k : Nat} (hk : k < l.length) (h : l[k] ≠ c) : ixL c (l.drop k) = ixL c (l.drop (k + 1)) + 1 := by
  rw [List.drop_eq_getElem_cons hk, ixL_cons, if_neg h]
theorem ixL_end {c : UInt8} {l : List UInt8} {k : Nat} (hk : l.length ≤ k) : ixL c (l.drop k) = 0 := by
  rw [List.drop_of_length_le hk]; rfl
theorem indexB_one (c : UInt8) (s : ByteArray) : Lib.indexB s ⟨#[c]⟩ = if ixL c s.data.toList < s.size then (ixL c s.data.toList : Int) else -1 := by
  have h := ixL_index c s.data.toList
  have h2 : s.data.toList.length = s.size := by simp
  rw [h2] at h
  exact h

end Go.Proofs.YthabmofkjdiccaaGreatDoor

namespace Go.Proofs.YthabmofkjdiccaaGreatDoor
open Go.RowKit Go.WideShapes Go.ChangeShapes Go.ChangeAt

theorem Tryz.own : ownKnob Tryz.prog.godebug = none := by kernel_rfl
theorem Tryz.laidOut : laidOutB Tryz.prog = true := by kernel_rfl

section
variable {H : Type} {enc : TypeId × Value → H} {P : Program}
theorem post_of_below {f : Func} {s : ChangeSpec} {apart fresh handsOn again : Bool} {W W' : World} {args : Array Value} {v : Value} {ds gs : List (DataW H)} {before pa pv : List MemPlace}
    (hW : DataW.Whole enc P f.params.toList s.vars apart W args.toList ds gs before)
    (hres : ∀ (b : Nat) (sp : Nat → Bool) (hd : Bool), DataW.TrodAll enc P W' b sp hd f.resultTypes.toList (v.resultList f.resultTypes.size) (s.fn H (ds ++ gs)).results [])
    (hargs : ∀ sp : Nat → Bool, (∀ p ∈ before, sp p.block = true) → DataW.TrodAll enc P W' 0 sp true f.params.toList args.toList (s.fn H (ds ++ gs)).args pa)
    (hvars : ∀ sp : Nat → Bool, (∀ p ∈ before, sp p.block = true) → DataW.TrodVars enc P W' sp s.vars (s.fn H (ds ++ gs)).vars pv)
    (hps : before = pa ++ pv) (hb : Below W.heap.size W W')
    (hok : ∀ (j : Nat) (t : TypeId) (r : Value), f.resultTypes[j]? = some t → (v.resultList f.resultTypes.size)[j]? = some r → Value.okWide P W' .any 0 t r) :
    s.post enc P f apart fresh handsOn again W args v W' := by
  have hlt : ∀ p ∈ before, p.block < W.heap.size := fun p hp => hW.lt p hp
  have hold : ∀ p ∈ before, (fun b => decide (b < W.heap.size)) p.block = true := fun p hp => by simpa using hlt p hp
  refine ⟨ds, gs, before, [], pa, pv, hW, hres _ _ _, hargs _ hold, hvars _ hold, World.keptBut_mono (fun p hp => ⟨hp, ?_⟩) (hb.frame (· ∈ before)), fun _ => ?_⟩
  · rw [hps, List.mem_append] at hp
    exact Or.inr hp
  · obtain ⟨_, _, _, _, _, hz, hn⟩ := hW
    refine ⟨hok, _, _, ([] ++ pa) ++ pv, ⟨[] ++ pa, pv, trodAll_append (hargs _ (fun _ _ => rfl)) (hres _ _ _), hvars _ (fun _ _ => rfl), rfl, ?_, ?_⟩, ?_⟩
    · intro b off hp
      have hin : MemPlace.cell b off ∈ before := by rw [hps]; simpa using hp
      rw [hb.frozen (hlt _ hin)]
      exact hz b off hin
    · intro ha
      have := hn ha
      rw [hps] at this
      simpa using this
    · intro p hp _
      rw [hps]
      simpa using hp
end

theorem trodAll_below {H : Type} {enc : TypeId × Value → H} {P : Program} (hl : laidOutB P = true) {W W' : World} (hb : Below W.heap.size W W') {sp : Nat → Bool} :
    ∀ (ts : List TypeId) (vs : List Value) (ds : List (DataW H)) (ps : List MemPlace), (∀ t ∈ ts, P.readableRec t = true ∧ t < P.types.size) → DataW.TrodAll enc P W 0 (fun _ => true) true ts vs ds ps → (∀ x ∈ ps, x.block < W.heap.size) → (∀ x ∈ ps, sp x.block = true) → DataW.TrodAll enc P W' 0 sp true ts vs ds ps
  | [], [], [], ps, _, h, _, _ => h
  | t :: ts, v :: vs, d :: ds, ps, hr, h, hlt, hsp => by
    obtain ⟨p, q, h1, h2, rfl⟩ := h
    obtain ⟨r1, r2⟩ := hr t (by simp)
    exact ⟨p, q, WideElems.Trod_stays hl r1 r2 h1 (fun x hx => hb.same (hlt x (by simp [hx]))) (fun x hx => hsp x (by simp [hx])), trodAll_below hl hb ts vs ds q (fun t ht => hr t (by simp [ht])) h2 (fun x hx => hlt x (by simp [hx])) (fun x hx => hsp x (by simp [hx])), rfl⟩
  | [], _ :: _, _, _, _, h, _, _ => by cases h
  | [], [], _ :: _, _, _, h, _, _ => by cases h
  | _ :: _, [], _, _, _, h, _, _ => by cases h
  | _ :: _, _ :: _, [], _, _, h, _, _ => by cases h

theorem trodAll_len {H : Type} {enc : TypeId × Value → H} {P : Program} {W : World} {b : Nat} {sp : Nat → Bool} {hd : Bool} : ∀ (ts : List TypeId) (vs : List Value) (ds : List (DataW H)) (ps : List MemPlace), DataW.TrodAll enc P W b sp hd ts vs ds ps → ds.length = ts.length
  | [], [], [], _, _ => rfl
  | _ :: ts, _ :: vs, _ :: ds, _, h => by obtain ⟨p, q, h1, h2, rfl⟩ := h; simp [trodAll_len ts vs ds q h2]
  | [], _ :: _, _, _, h => by cases h
  | [], [], _ :: _, _, h => by cases h
  | _ :: _, [], _, _, h => by cases h
  | _ :: _, _ :: _, [], _, h => by cases h

set_option maxRecDepth 100000 in
theorem law_lifted {F : FuncId} {fn : Func} {s : ChangeSpec} (os : Os) (started : os.Started) (H : Type) (enc : TypeId × Value → H)
    (hfn : Tryz.checked.prog.funcs[F]? = some fn) (noInit : Tryz.checked.prog.inits.idxOf? F = none)
    (witness : ∃ (w : World) (tape : Tape) (i : Input), w.os = os ∧ (w.forCall tape i).Shaped Tryz.checked.prog ∧ i.vars = [] ∧ Input.okWide Tryz.checked.prog (w.forCall tape i) .any w.heap.size F i ∧
      s.pre6 enc Tryz.checked.prog fn [] false (w.forCall tape i).memory i.args ∧ ({} : Assume).holds Tryz.checked.prog (lone (Frame.enter Tryz.checked.prog F i.args .normal) [] (w.forCall tape i)))
    (hs : s.vars = []) (hres : fn.resultTypes = #[4]) (hread : ∀ t ∈ fn.params.toList, Tryz.prog.readableRec t = true ∧ t < Tryz.prog.types.size)
    (hspec : ∀ ds : List (DataW H), ds.length = fn.params.toList.length → s.fn H ds = { results := [.lit (.bool true)], args := ds })
    (walk : ∀ (W : World) (args : Array Value) (ds : List (DataW H)) (p : List MemPlace), (∀ (j : Nat) t v, fn.params[j]? = some t → args[j]? = some v → ∃ base, Value.okWide Tryz.prog W .any base t v) →
      DataW.TrodAll enc Tryz.prog W 0 (fun _ => true) true fn.params.toList args.toList ds p → W.noneFrozen p → Calls Tryz.prog F args W fun e W' => e = .returned (.bool true) ∧ Below W.heap.size W W') :
    ReturnsInHanded {} Tryz.checked os F .any (s.pre6 enc Tryz.checked.prog fn [] false) (s.post enc Tryz.checked.prog fn false true false false) := by
  refine returnsInHanded_of_change (C := Tryz.checked) Tryz.own started noInit hfn witness ?_
  intro W base args ds gs before hval hW hcnd _
  have hW' := hW
  obtain ⟨p, q, hA, hV, hpq, hfz, hnd⟩ := hW
  rw [hs] at hV
  obtain ⟨rfl, rfl⟩ := trodVars_none hV
  rw [List.append_nil] at hpq
  subst hpq
  refine (walk W args ds _ (fun j t v h1 h2 => ⟨base, hval j t v h1 h2⟩) hA hfz).mono fun e W' ⟨he, hb⟩ => ?_
  subst he
  have hsp : s.fn H (ds ++ []) = { results := [.lit (.bool true)], args := ds } := by
    rw [List.append_nil]; exact hspec ds (trodAll_len _ _ _ _ hA)
  have hlt := fun x hx => hW'.lt x hx
  refine ⟨_, rfl, post_of_below (pa := before) (pv := []) hW' (fun b sp hd => ?_) (fun sp h => ?_) (fun sp h => ?_) (by simp) hb ?_⟩
  · rw [hsp, hres]; exact trodAll_mk1 (shut_bool Tryz.underlying4 _)
  · rw [hsp]; exact trodAll_below Tryz.laidOut hb _ _ _ _ hread hA hlt h
  · rw [hsp, hs]; rfl
  · rw [hres]; exact fun j t r h1 h2 => ok_one (f := fn) hres rfl (okWide_bool_mk Tryz.underlying4 _) j t r (by rw [hres]; exact h1) (by rw [hres]; exact h2)

end Go.Proofs.YthabmofkjdiccaaGreatDoor

namespace Go.Proofs.YthabmofkjdiccaaGreatDoor
open Go.RowKit Go.WideShapes Go.ChangeShapes Go.ChangeAt

set_option maxRecDepth 100000 in
theorem law_liftedS {F : FuncId} {fn : Func} {s : ChangeSpec} (os : Os) (started : os.Started) (H : Type) (enc : TypeId × Value → H)
    (hfn : Tryz.checked.prog.funcs[F]? = some fn) (noInit : Tryz.checked.prog.inits.idxOf? F = none)
    (witness : ∃ (w : World) (tape : Tape) (i : Input), w.os = os ∧ (w.forCall tape i).Shaped Tryz.checked.prog ∧ i.vars = [] ∧ Input.okWide Tryz.checked.prog (w.forCall tape i) .any w.heap.size F i ∧
      s.pre6 enc Tryz.checked.prog fn [] false (w.forCall tape i).memory i.args ∧ ({} : Assume).holds Tryz.checked.prog (lone (Frame.enter Tryz.checked.prog F i.args .normal) [] (w.forCall tape i)))
    (hs : s.vars = []) (hres : fn.resultTypes = #[4]) (hread : ∀ t ∈ fn.params.toList, Tryz.prog.readableRec t = true ∧ t < Tryz.prog.types.size)
    (hspec : ∀ ds : List (DataW H), ds.length = fn.params.toList.length → s.fn H ds = { results := [.lit (.bool true)], args := ds })
    (walk : ∀ (W : World) (args : Array Value) (ds : List (DataW H)) (p : List MemPlace), W.ShapedOpen Tryz.prog → (∀ (j : Nat) t v, fn.params[j]? = some t → args[j]? = some v → ∃ base, Value.okWide Tryz.prog W .any base t v) →
      DataW.TrodAll enc Tryz.prog W 0 (fun _ => true) true fn.params.toList args.toList ds p → W.noneFrozen p → Calls Tryz.prog F args W fun e W' => e = .returned (.bool true) ∧ Below W.heap.size W W') :
    ReturnsInHanded {} Tryz.checked os F .any (s.pre6 enc Tryz.checked.prog fn [] false) (s.post enc Tryz.checked.prog fn false true false false) := by
  refine returnsInHanded_of_change_shaped (C := Tryz.checked) Tryz.own started noInit hfn witness ?_
  intro W base args ds gs before hval hW hcnd _ hsh _
  have hW' := hW
  obtain ⟨p, q, hA, hV, hpq, hfz, hnd⟩ := hW
  rw [hs] at hV
  obtain ⟨rfl, rfl⟩ := trodVars_none hV
  rw [List.append_nil] at hpq
  subst hpq
  refine (walk W args ds _ hsh (fun j t v h1 h2 => ⟨base, hval j t v h1 h2⟩) hA hfz).mono fun e W' ⟨he, hb⟩ => ?_
  subst he
  have hsp : s.fn H (ds ++ []) = { results := [.lit (.bool true)], args := ds } := by
    rw [List.append_nil]; exact hspec ds (trodAll_len _ _ _ _ hA)
  have hlt := fun x hx => hW'.lt x hx
  refine ⟨_, rfl, post_of_below (pa := before) (pv := []) hW' (fun b sp hd => ?_) (fun sp h => ?_) (fun sp h => ?_) (by simp) hb ?_⟩
  · rw [hsp, hres]; exact trodAll_mk1 (shut_bool Tryz.underlying4 _)
  · rw [hsp]; exact trodAll_below Tryz.laidOut hb _ _ _ _ hread hA hlt h
  · rw [hsp, hs]; rfl
  · rw [hres]; exact fun j t r h1 h2 => ok_one (f := fn) hres rfl (okWide_bool_mk Tryz.underlying4 _) j t r (by rw [hres]; exact h1) (by rw [hres]; exact h2)

/-- A variable of the library's own holds some number. -/
theorem maxLen_cell {w : World} (h : w.ShapedOpen Tryz.prog) : ∃ m, w.cell? ⟨0, 0, none⟩ = some (.int .i64 m) :=
  Go.Proofs.cell_of_shapedOpen_int (zero := #[.int .i64 0]) (t := 3) h (of_decide_eq_true (by kernel_rfl)) (by kernel_rfl) rfl (by kernel_rfl) (by kernel_rfl) Tryz.underlying3
theorem cell_below {w w' : World} {a : Addr} {v : Value} (h : Below w.heap.size w w') (c : w.cell? a = some v) : w'.cell? a = some v := (h.cell (block_lt_of_cell c)).trans c
end Go.Proofs.YthabmofkjdiccaaGreatDoor

namespace Go.Proofs.YthabmofkjdiccaaGreatDoor
open Go.RowKit
set_option linter.unusedVariables false

def oneK (k : Nat) (b : ByteArray) : Bool := match rlF b with | some xs => decide (xs.length = k) | none => false
def numK (k : Nat) (b : ByteArray) : List Int := match rlF b with | some xs => if xs.length = k then xs else List.replicate k 0 | none => List.replicate k 0
theorem oneK_some {k : Nat} {b : ByteArray} {xs : List Int} (h : rlF b = some xs) : oneK k b = decide (xs.length = k) := by unfold oneK; rw [h]
theorem oneK_none {k : Nat} {b : ByteArray} (h : rlF b = none) : oneK k b = false := by unfold oneK; rw [h]
theorem numK_some {k : Nat} {b : ByteArray} {xs : List Int} (h : rlF b = some xs) (hl : xs.length = k) : numK k b = xs := by unfold numK; rw [h]; exact if_pos hl
theorem oneK_yes {k : Nat} {b : ByteArray} (h : oneK k b = true) : rlF b = some (numK k b) ∧ (numK k b).length = k := by
  cases hr : rlF b with
  | none => rw [oneK_none hr] at h; cases h
  | some xs =>
    rw [oneK_some hr] at h
    have hl : xs.length = k := of_decide_eq_true h
    rw [numK_some hr hl]
    exact ⟨rfl, hl⟩
theorem oneK_no {k : Nat} {b : ByteArray} (h : oneK k b = false) : numK k b = List.replicate k 0 := by
  cases hr : rlF b with
  | none => unfold numK; rw [hr]
  | some xs =>
    rw [oneK_some hr] at h
    have hl : ¬ xs.length = k := of_decide_eq_false h
    unfold numK; rw [hr]; exact if_neg hl
theorem numK_len (k : Nat) (b : ByteArray) : (numK k b).length = k := by
  cases h : oneK k b
  · rw [oneK_no h]; simp
  · exact (oneK_yes h).2
theorem numK_ok {k : Nat} {b : ByteArray} : ∀ x ∈ numK k b, fInt.ok x := by
  cases h : oneK k b
  · rw [oneK_no h]; intro x hx
    have := List.eq_of_mem_replicate hx
    subst this; show _ ∧ _; simp
  · have h1 := (rlF_text (oneK_yes h).1).1
    intro x hx
    unfold fitsL at h1
    simp only [Bool.and_eq_true] at h1
    have := inB_true.1 (List.all_eq_true.1 h1.2 x hx)
    show _ ∧ _
    omega
theorem name_noblank {x : ByteArray} (h : nameB x = true) : ∀ b ∈ x.data.toList, b ≠ 32 := by
  intro b hb e
  subst e
  unfold nameB at h
  simp only [Bool.and_eq_true] at h
  have ha : allNm x.data.toList = true := by first | exact h.2 | exact h.1.2 | exact h.1.1.2 | exact h.1.1.1
  unfold allNm at ha
  have := List.all_eq_true.1 ha 32 hb
  revert this; decide
theorem joinX_bytes : ∀ (L : List (List UInt8)), (∀ x ∈ L, ∀ b ∈ x, b ≠ 32) → ∀ b ∈ joinX L, b ≠ 32
  | [], _, b, hb => by simp [joinX] at hb
  | x :: r, h, b, hb => by
    unfold joinX at hb
    rw [List.mem_append, List.mem_flatMap] at hb
    rcases hb with hb | ⟨y, hy, hb⟩
    · exact h x (by simp) b hb
    · rcases List.mem_cons.1 hb with rfl | hb
      · decide
      · exact h y (by simp [hy]) b hb
theorem listS_noblank (xs : List Int) : ∀ b ∈ (listS xs).data.toList, b ≠ 32 := by
  by_cases h : xs = []
  · subst h; intro b hb; have : b = 45 := by simpa [listS] using hb
    subst this; decide
  · rw [listS_data h]
    exact joinX_bytes _ (fun y hy b hb => by obtain ⟨v, _, rfl⟩ := List.mem_map.1 hy; exact (itoa_bytes v b hb).2)
/-- A list of numbers that was read has the text that it was read from. -/
theorem numK_text {k : Nat} {b : ByteArray} (h : oneK k b = true) : listT (numK k b) = b ∧ ∀ y ∈ b.data.toList, y ≠ 32 := by
  obtain ⟨h1, h2⟩ := rlF_text (oneK_yes h).1
  have e : listT (numK k b) = b := by unfold listT; rw [if_pos h1, h2]
  exact ⟨e, fun y hy => listS_noblank (numK k b) y (by rw [h2]; exact hy)⟩
theorem ixL_split (c : UInt8) : ∀ l : List UInt8, ixL c l < l.length → l = l.take (ixL c l) ++ c :: l.drop (ixL c l + 1) ∧ ∀ b ∈ l.take (ixL c l), b ≠ c
  | [], h => by simp at h
  | b :: l, h => by
    rw [ixL_cons] at h ⊢
    by_cases e : b = c
    · rw [if_pos e]; subst e; exact ⟨rfl, by simp⟩
    · rw [if_neg e] at h ⊢
      obtain ⟨h1, h2⟩ := ixL_split c l (by simpa using h)
      refine ⟨?_, ?_⟩
      · rw [List.take_succ_cons, List.drop_succ_cons, List.cons_append, ← h1]
      · intro x hx
        rw [List.take_succ_cons] at hx
        rcases List.mem_cons.1 hx with rfl | hx
        · exact e
        · exact h2 x hx
theorem ixL_free (c : UInt8) : ∀ l : List UInt8, ¬ ixL c l < l.length → ∀ b ∈ l, b ≠ c
  | [], _ => by simp
  | b :: l, h => by
    rw [ixL_cons] at h
    by_cases e : b = c
    · rw [if_pos e] at h; simp at h
    · rw [if_neg e] at h
      intro x hx
      rcases List.mem_cons.1 hx with rfl | hx
      · exact e
      · exact ixL_free c l (by simpa using h) x hx
theorem cut_cases (l : List UInt8) : ((∀ b ∈ l, b ≠ 32) ∧ Lib.cut l [32] = (l, [], false)) ∨ ∃ x y, l = x ++ 32 :: y ∧ (∀ b ∈ x, b ≠ 32) ∧ Lib.cut l [32] = (x, y, true) := by
  have hi := ixL_index 32 l
  by_cases h : ixL 32 l < l.length
  · obtain ⟨h1, h2⟩ := ixL_split 32 l h
    refine .inr ⟨_, _, h1, h2, ?_⟩
    rw [if_pos h] at hi
    unfold Lib.cut
    rw [hi, if_pos (by omega)]
    rfl
  · refine .inl ⟨ixL_free 32 l h, ?_⟩
    rw [if_neg h] at hi
    unfold Lib.cut
    rw [hi, if_neg (by omega)]
def cA (s : ByteArray) : ByteArray := ⟨(Lib.cut s.data.toList [32]).1.toArray⟩
def cZ (s : ByteArray) : ByteArray := ⟨(Lib.cut s.data.toList [32]).2.1.toArray⟩
theorem cAZ_size (s : ByteArray) : (cA s).size ≤ s.size ∧ (cZ s).size ≤ s.size := by
  have hl : s.data.toList.length = s.size := by simp
  have e1 : (cA s).size = (Lib.cut s.data.toList [32]).1.length := mkL_size _
  have e2 : (cZ s).size = (Lib.cut s.data.toList [32]).2.1.length := mkL_size _
  rw [e1, e2]
  rcases cut_cases s.data.toList with ⟨_, h⟩ | ⟨x, y, hxy, _, h⟩
  · rw [h, ← hl]; exact ⟨Nat.le_refl _, Nat.zero_le _⟩
  · rw [h]
    have := congrArg List.length hxy
    rw [hl, List.length_append, List.length_cons] at this
    show x.length ≤ _ ∧ y.length ≤ _
    omega
/-- A name and a list of numbers behind the first blank. -/
theorem words_of {s : ByteArray} {k : Nat} (h : oneK k (cZ s) = true) : splS 32 s = [cA s, cZ s] ∧ cA s ++ ⟨#[32]⟩ ++ cZ s = s := by
  rcases cut_cases s.data.toList with ⟨_, hc⟩ | ⟨x, y, hxy, hx, hc⟩
  · exfalso
    have : cZ s = ⟨#[]⟩ := by unfold cZ; rw [hc]
    rw [this] at h
    rw [oneK_none (show rlF ⟨#[]⟩ = none from rfl)] at h
    cases h
  · have hA : (cA s).data.toList = x := by unfold cA; rw [hc]
    have hZ : (cZ s).data.toList = y := by unfold cZ; rw [hc]
    have hy := (numK_text h).2
    rw [hZ] at hy
    constructor
    · refine (splS_of ?_).symm
      rw [List.map_cons, List.map_cons, List.map_nil, hA, hZ, hxy, splL_app 32 x y hx, splL_none hy]
    · refine data_inj ?_
      rw [Go.Joins.data_append, Go.Joins.data_append, hA, hZ, hxy]; simp
theorem words_back {s a b : ByteArray} (h : splS 32 s = [a, b]) : cA s = a ∧ cZ s = b := by
  have hd := splS_data 32 s
  rw [h] at hd
  rcases cut_cases s.data.toList with ⟨hn, hc⟩ | ⟨x, y, hxy, hx, hc⟩
  · rw [splL_none hn] at hd; exact absurd (congrArg List.length hd) (by simp)
  · rw [hxy, splL_app 32 x y hx, List.map_cons, List.map_cons, List.map_nil] at hd
    obtain ⟨h1, h2⟩ := List.cons.inj hd
    have h3 := splL_join 32 y [] b.data.toList h2.symm
    have hA : (cA s).data.toList = x := by unfold cA; rw [hc]
    have hZ : (cZ s).data.toList = y := by unfold cZ; rw [hc]
    exact ⟨data_inj (by rw [hA, h1]), data_inj (by rw [hZ, ← h3]; simp)⟩
theorem words_few {s : ByteArray} {k : Nat} (h : ¬ (splS 32 s).length = 2) : oneK k (cZ s) = false := by
  cases hk : oneK k (cZ s) with
  | false => rfl
  | true => rw [(words_of hk).1] at h; exact absurd rfl h
theorem words4 {s a b c d : ByteArray} (h : splS 32 s = [a, b, c, d]) : a ++ ⟨#[32]⟩ ++ b ++ ⟨#[32]⟩ ++ c ++ ⟨#[32]⟩ ++ d = s := by
  have hd := splS_data 32 s
  rw [h] at hd
  have hj := splL_join 32 s.data.toList [a.data.toList, b.data.toList, c.data.toList] d.data.toList hd.symm
  refine data_inj ?_
  rw [Go.Joins.data_append, Go.Joins.data_append, Go.Joins.data_append, Go.Joins.data_append, Go.Joins.data_append, Go.Joins.data_append, ← hj]; simp
theorem made2 (v : Value) : madeCells #[v] 2 = #[v, v] := by
  unfold madeCells
  rw [show Array.range 2 = #[0, 1] from by decide]
  simp [Nat.mod_one]
theorem made3R (v : Value) : madeCells #[v] 3 = #[v, v, v] := by
  unfold madeCells
  rw [show Array.range 3 = #[0, 1, 2] from by decide]
  simp [Nat.mod_one]
theorem splitN_any (s : ByteArray) (c : UInt8) (m : Int) (w : World) (hs : s.size ≤ 1048576) (hm : w.cell? ⟨0, 0, none⟩ = some (.int .i64 m)) :
    Calls Tryz.prog 72 #[.string s, .string ⟨#[c]⟩] w fun e w' => OwnRT fStr 9 w (splS c s) e w' := by
  refine (Tryz.strings_Split s ⟨#[c]⟩ m w (by omega) hm (Nat.le_refl 1)).mono ?_
  rintro e w' ⟨rfl, rfl⟩
  have hl := Lib.splitB_all ⟨#[c]⟩ (Nat.le_refl 1) 0 _ s rfl
  rw [splS_split] at hl ⊢
  rw [← hl]
  have hb0 : Below w.heap.size w (w.alloc (.cells ((splS c s).map Value.string).toArray 9)) := (Below.refl _ _).alloc (Nat.le_refl _) _
  refine ⟨_, rfl, ?_, hb0⟩
  have hll : (splS c s).length ≤ s.size + 1 := by
    have h1 := Lib.countB_le ⟨#[c]⟩ (Nat.le_refl 1) s.size s (Nat.le_refl _)
    omega
  have h := World.ownsRow_lit (e := 9) (size := 1) (base := w.heap.size) w ((splS c s).map Value.string).toArray (splS c s).length (Nat.le_refl _) (by unfold maxLen; omega) (by simp)
  have e1 : (splS c s).map Value.string = (splS c s).flatMap fStr.enc := by
    generalize splS c s = L
    induction L with
    | nil => rfl
    | cons x L ih => rw [List.map_cons, List.flatMap_cons, ih]; rfl
  rw [show ((splS c s).map Value.string).toArray.toList = (splS c s).flatMap fStr.enc from by simpa using e1] at h
  exact h
theorem New.drewR {α : Type} {E : Cod α} {w w' : World} {v : Value} {xs : List α} (h : New E w v xs w') : New E w v xs w'.drew := by
  obtain ⟨⟨fp, h1, h2, h3⟩, hb⟩ := h
  exact ⟨⟨fp, h1.below' (Below.drew (Below.refl _ _)), h2, h3⟩, Below.drew hb⟩
def wiA (s : ByteArray) : ByteArray := if oneK 2 (cZ s) then cA s else ⟨#[]⟩
set_option maxRecDepth 100000 in
set_option maxHeartbeats 4000000 in
theorem readWithId_any (s : ByteArray) (m : Int) (w : World) (hs : s.size ≤ 1048576) (hm : w.cell? ⟨0, 0, none⟩ = some (.int .i64 m)) (ht : RdTabs w) :
    Calls Tryz.prog 55 #[.string s, .int .i64 2] w fun e w' => ∃ v, e = .returned (.tuple #[.string (wiA s), v, .bool (oneK 2 (cZ s))]) ∧ New fInt.cod w v (numK 2 (cZ s)) w' := by
  obtain ⟨i0, hi, hz0, hz1, hz2⟩ := info_parts infoIntR
  have hmk : ∀ W : World, (Instr.makeSlice 30 (.int .i64 2) (.int .i64 2)).run Tryz.prog W = .ok (.slice (some ⟨W.heap.size, 0, none⟩) 2 2) (W.alloc (.cells (madeCells (Value.int .i64 0).cells (2 * i0.size)) 2)) := fun W => run_make_rowN (P := Tryz.prog) 30 2 i0 _ Tryz.underlying30 hi hz0 .i64 .i64 2 2 (Nat.le_refl _) (by rw [hz2]; decide) (by decide) W
  rw [hz1] at hmk
  have hzero : ∀ W : World, Own fInt (W.alloc (.cells (madeCells #[Value.int .i64 0] 2) 2)) W.heap.size 2 (.slice (some ⟨W.heap.size, 0, none⟩) 2 2) [0, 0] := fun W => by
    rw [made2]
    exact World.ownsRow_lit (e := 2) (size := 1) W #[Value.int .i64 0, .int .i64 0] 2 (Nat.le_refl _) (by decide) rfl
  have hsz := (cAZ_size s).2
  have hsA := (cAZ_size s).1
  have hcut : Calls Tryz.prog 88 #[.string s, .string ⟨#[32]⟩] w fun e w' => e = .returned (.tuple #[.string (cA s), .string (cZ s), .bool (Lib.cut s.data.toList [32]).2.2]) ∧ ∃ n, w' = w.drewN n := Tryz.strings_Cut s ⟨#[32]⟩ m w (by omega) hm
  have hWA : wiA s = if oneK 2 (cZ s) then cA s else ⟨#[]⟩ := rfl
  generalize (Lib.cut s.data.toList [32]).2.2 = fnd at *
  generalize cA s = sa at *
  generalize cZ s = sz at *
  generalize wiA s = ra at *
  go_enter Tryz.func55, Tryz.ntmps55
  go_wp2_with fail
  refine hcut.mono ?_
  rintro e w' ⟨rfl, n, rfl⟩
  have hW : Below w.heap.size w (w.drewN n) := below_drewN (Below.refl _ _) _
  generalize hwn : w.drewN n = wn at *
  go_wp2_with fail
  refine (implReadList_any sz m _ (by omega) (cell_below hW hm) (ht.below hW)).mono ?_
  rintro e w1 ⟨v1, rfl, hn1⟩
  have hb1 := hW.trans (hn1.below.mono hW.size)
  have hn1' := hn1.later hW
  have HFAIL : Hid (oneK 2 sz = false → ∃ v, Ending.returned (.tuple #[.string ⟨#[]⟩, .slice (some ⟨w1.heap.size, 0, none⟩) 2 2, .bool false]) = .returned (.tuple #[.string ra, v, .bool (oneK 2 sz)]) ∧ New fInt.cod w v (numK 2 sz) (w1.alloc (.cells (madeCells #[Value.int .i64 0] 2) 2)).drew) := fun h => by
    refine ⟨_, by rw [hWA, h]; rfl, ?_⟩
    rw [oneK_no h]
    exact (((hzero w1).new ((Below.refl _ _).alloc (Nat.le_refl _) _) (by intro x hx; simp at hx; subst hx; show _ ∧ _; simp)).later hb1).drewR
  clear hzero
  cases hr : rlF sz with
  | none =>
    have h1 := oneK_none (k := 2) hr
    rw [show (none : Option (List Int)).isSome = false from rfl]
    clear hn1 hn1' hr hWA
    go_wp2
    refine wp_region_mixed [0, 2, 1, 3, 4] (C := fun w' => ∃ p : Regrown, w' = Go.Sort.grow (redrawn w1 p.d) p.os) [true, true, false, true, true] (by kernel_rfl) (by kernel_rfl) (by kernel_rfl) (fun _ _ d _ _ h => by cases d <;> exact h) (regrown_of_below (Below.drew (Below.refl _ _))) ?_
    simp only [List.map_cons, List.map_nil, List.getD_cons_zero, List.getD_cons_succ]
    have hS0 : Below (w1.heap.size) w1 w1.drew := Below.drew (Below.refl _ _)
    refine wpMix_pure (by kernel_rfl) (fun K hK => ?_); go_big_quiet_op; refine hK _ ?_; clear hK K
    refine wpMix_pure (by kernel_rfl) (fun K hK => ?_); go_big_quiet_op; refine hK _ ?_; clear hK K
    refine wpMix_act (by kernel_rfl) (fun K hK => ?_)
    go_big_op
    refine hK _ _ (regrown_of_below (by first | exact hS0.alloc hS0.size _ | exact Below.drew ((Below.refl _ _).alloc (Nat.le_refl _) _) | exact (Below.drew (Below.refl _ _)).alloc (Nat.le_refl _) _)) ?_
    clear hK K
    refine wpMix_pure (by kernel_rfl) (fun K hK => ?_); go_big_quiet_op; refine hK _ ?_; clear hK K
    refine wpMix_pure (by kernel_rfl) (fun K hK => ?_); go_big_quiet_op; refine hK _ ?_; clear hK K
    refine wpMix_nil ?_
    have HQ := Lib.hid (HFAIL.out h1)
    clear h1 hS0
    go_wp2
    go_ret3
    exact HQ.out
  | some xs =>
    have h1 := oneK_some (k := 2) hr
    rw [show (some xs : Option (List Int)).isSome = true from rfl]
    rw [hr] at hn1'
    have hn2 : New fInt.cod w v1 xs w1 := hn1'
    obtain ⟨⟨fpy, hsy, _, _⟩, _⟩ := id hn2
    obtain ⟨A, cap, rfl, _, _⟩ := hsy.form
    clear hn1 hn1' hsy
    by_cases h2 : xs.length = 2
    · rw [decide_eq_true h2] at h1
      have HN := Lib.hid (numK_some hr h2)
      have hn3 : New fInt.cod w (.slice A 2 cap) xs w1 := by rw [← h2]; exact hn2
      have HA : Hid (ra = sa) := by show _ = _; rw [hWA, h1]; rfl
      have H1 := Lib.hid h1
      have e5 : ((xs.length : Int) == 2) = true := by rw [beq_iff_eq]; omega
      have e6 : ((xs.length : Int) != 2) = false := by unfold bne; rw [e5]; rfl
      clear hr h1 hWA
      go_wp2
      go_ret3
      exact ⟨_, by rw [H1.out, HA.out]; rfl, by rw [HN.out]; exact hn3⟩
    · rw [decide_eq_false h2] at h1
      have e5 : ((xs.length : Int) == 2) = false := by rw [beq_eq_false_iff_ne]; omega
      have e6 : ((xs.length : Int) != 2) = true := by unfold bne; rw [e5]; rfl
      clear hr hn2 hWA
      go_wp2
      refine wp_region_mixed [0, 2, 1, 3, 4] (C := fun w' => ∃ p : Regrown, w' = Go.Sort.grow (redrawn w1 p.d) p.os) [true, true, false, true, true] (by kernel_rfl) (by kernel_rfl) (by kernel_rfl) (fun _ _ d _ _ h => by cases d <;> exact h) (regrown_of_below (Below.drew (Below.refl _ _))) ?_
      simp only [List.map_cons, List.map_nil, List.getD_cons_zero, List.getD_cons_succ]
      have hS0 : Below (w1.heap.size) w1 w1.drew := Below.drew (Below.refl _ _)
      refine wpMix_pure (by kernel_rfl) (fun K hK => ?_); go_big_quiet_op; refine hK _ ?_; clear hK K
      refine wpMix_pure (by kernel_rfl) (fun K hK => ?_); go_big_quiet_op; refine hK _ ?_; clear hK K
      refine wpMix_act (by kernel_rfl) (fun K hK => ?_)
      go_big_op
      refine hK _ _ (regrown_of_below (by first | exact hS0.alloc hS0.size _ | exact Below.drew ((Below.refl _ _).alloc (Nat.le_refl _) _) | exact (Below.drew (Below.refl _ _)).alloc (Nat.le_refl _) _)) ?_
      clear hK K
      refine wpMix_pure (by kernel_rfl) (fun K hK => ?_); go_big_quiet_op; refine hK _ ?_; clear hK K
      refine wpMix_pure (by kernel_rfl) (fun K hK => ?_); go_big_quiet_op; refine hK _ ?_; clear hK K
      refine wpMix_nil ?_
      have HQ := Lib.hid (HFAIL.out h1)
      clear h1 hS0
      go_wp2
      go_ret3
      exact HQ.out

end Go.Proofs.YthabmofkjdiccaaGreatDoor

namespace Go.Proofs.YthabmofkjdiccaaGreatDoor
open Go.RowKit
set_option linter.unusedVariables false

def v00 : DVerified := ⟨0, 0, 0⟩
def vAg (x : DVerified) : Value := .agg #[.int .i64 x.day, .int .i64 x.told, .int .i64 x.seen]
def rvX (s : ByteArray) (d : Int) : DVerified := ⟨d, (numK 2 (cZ s)).getD 0 0, (numK 2 (cZ s)).getD 1 0⟩
def rvF (s : ByteArray) : Option DVerified := if oneK 2 (cZ s) then (match rdF (cA s) with | some d => if verB (rvX s d) then some (rvX s d) else none | none => none) else none
def VRet (s : ByteArray) (e : Ending) : Prop := e = .returned (.tuple #[vAg ((rvF s).getD v00), .bool (rvF s).isSome])
theorem VRet.no {s : ByteArray} (h : rvF s = none) : VRet s (.returned (.tuple #[vAg v00, .bool false])) := by unfold VRet; rw [h]; rfl
theorem VRet.yes {s : ByteArray} {x : DVerified} (h : rvF s = some x) : VRet s (.returned (.tuple #[vAg x, .bool true])) := by unfold VRet; rw [h]; rfl
theorem rvF_one {s : ByteArray} (h : oneK 2 (cZ s) = false) : rvF s = none := by unfold rvF; rw [h]; rfl
theorem rvF_day {s : ByteArray} (h : rdF (cA s) = none) : rvF s = none := by unfold rvF; rw [h]; split <;> rfl
theorem rvF_bad {s : ByteArray} {d p q : Int} (h : numK 2 (cZ s) = [p, q]) (hd : rdF (cA s) = some d) (hv : verB ⟨d, p, q⟩ = false) : rvF s = none := by
  have e : rvX s d = ⟨d, p, q⟩ := by unfold rvX; rw [h]; rfl
  unfold rvF; rw [hd]; simp only [e, hv]; split <;> rfl
theorem rvF_yes {s : ByteArray} {d p q : Int} (h1 : oneK 2 (cZ s) = true) (h : numK 2 (cZ s) = [p, q]) (hd : rdF (cA s) = some d) (hv : verB ⟨d, p, q⟩ = true) : rvF s = some ⟨d, p, q⟩ := by
  have e : rvX s d = ⟨d, p, q⟩ := by unfold rvX; rw [h]; rfl
  unfold rvF; rw [hd]; simp only [e, hv, h1]; rfl
theorem num2_ab (b : ByteArray) : ∃ p q, numK 2 b = [p, q] := by
  have h := numK_len 2 b
  match hn : numK 2 b, h with
  | [p, q], _ => exact ⟨p, q, rfl⟩
structure BoxV (w : World) (g : Nat) : Prop where
  d0 : w.cell? ⟨g, 0, none⟩ = some (.int .i64 0)
  d1 : w.cell? ⟨g, 1, none⟩ = some (.int .i64 0)
  d2 : w.cell? ⟨g, 2, none⟩ = some (.int .i64 0)
  z0 : w.frozen? ⟨g, 0, none⟩ = false
  z1 : w.frozen? ⟨g, 1, none⟩ = false
  z2 : w.frozen? ⟨g, 2, none⟩ = false
theorem BoxV.new (w : World) (T : TypeId) : BoxV (w.alloc (.cells #[.int .i64 0, .int .i64 0, .int .i64 0] T)) w.heap.size := by
  constructor <;> simp
theorem BoxV.below {w w' : World} {g B : Nat} (h : BoxV w g) (hb : Below B w w') (hg : g < B) : BoxV w' g :=
  ⟨(hb.cell (p := ⟨g, _, none⟩) hg).trans h.d0, (hb.cell (p := ⟨g, _, none⟩) hg).trans h.d1, (hb.cell (p := ⟨g, _, none⟩) hg).trans h.d2,
   (hb.frozen (p := ⟨g, _, none⟩) hg).trans h.z0, (hb.frozen (p := ⟨g, _, none⟩) hg).trans h.z1, (hb.frozen (p := ⟨g, _, none⟩) hg).trans h.z2⟩
theorem BoxV.far {V : World} {b g j : Nat} {v : Value} (h : BoxV V b) (hne : b ≠ g) : BoxV (V.setCell ⟨g, j, none⟩ v) b := by
  have k : ∀ i, (V.setCell ⟨g, j, none⟩ v).cell? ⟨b, i, none⟩ = V.cell? ⟨b, i, none⟩ := fun i => World.cell?_setCell_far V ⟨g, j, none⟩ ⟨b, i, none⟩ v (fun e => hne e.symm)
  have f : ∀ i, (V.setCell ⟨g, j, none⟩ v).frozen? ⟨b, i, none⟩ = V.frozen? ⟨b, i, none⟩ := fun i => frozen?_setCell _ _ _ _
  exact ⟨(k _).trans h.d0, (k _).trans h.d1, (k _).trans h.d2, (f _).trans h.z0, (f _).trans h.z1, (f _).trans h.z2⟩
theorem hit_cellV {w : World} {p : Addr} {x : Value} (h : (w.cell? p).isSome = true) : (w.setCell p x).cell? p = some x := by
  obtain ⟨v, hv⟩ := Option.isSome_iff_exists.1 h
  exact World.cell?_setCell_same w p x hv
set_option maxRecDepth 100000 in
set_option maxHeartbeats 2000000 in
theorem l02Day_any (n : Int) (w : World) : Calls Tryz.prog 117 #[.int .i64 n] w fun e w' => e = .returned (.bool (inB n 0 36524)) ∧ w = w' := by
  go_enter Tryz.func117, Tryz.ntmps117
  go_wp2_with (go_at_call 132; refine (l00InB_any _ _ _ _).mono ?_; rintro e w' ⟨rfl, rfl⟩)
  go_ret
  exact ⟨rfl, rfl⟩
set_option maxRecDepth 100000 in
set_option maxHeartbeats 2000000 in
theorem l17IsR_any (n : Int) (w : World) : Calls Tryz.prog 118 #[.int .i64 n] w fun e w' => e = .returned (.bool (inB n 1 5)) ∧ w = w' := by
  go_enter Tryz.func118, Tryz.ntmps118
  go_wp2_with (go_at_call 132; refine (l00InB_any _ _ _ _).mono ?_; rintro e w' ⟨rfl, rfl⟩)
  go_ret
  exact ⟨rfl, rfl⟩
set_option maxRecDepth 100000 in
set_option maxHeartbeats 2000000 in
theorem l20OneR_any (pb po : Nat) (x : DVerified) (w : World) (hp : PVerified w pb po x) :
    Calls Tryz.prog 95 #[.pointer (some ⟨pb, po, none⟩)] w fun e w' => e = .returned (.bool (verB x)) ∧ Below w.heap.size w w' := by
  obtain ⟨c0, c1, c2⟩ := id hp
  have HV := Lib.hid (show verB x = (inB x.day 0 36524 && inB x.told 1 5 && inB x.seen 1 5) from rfl)
  go_enter Tryz.func95, Tryz.ntmps95
  go_wp2_with fail
  refine (l02Day_any _ _).mono ?_
  rintro e w' ⟨rfl, rfl⟩
  cases h1 : inB x.day 0 36524
  · have HX : Hid (verB x = false) := by show _ = _; rw [HV.out, h1]; rfl
    go_wp2
    go_ret
    exact ⟨ret_bool HX.out.symm, Below.refl _ _⟩
  · go_wp2_with fail
    refine (l17IsR_any _ _).mono ?_
    rintro e w' ⟨rfl, rfl⟩
    cases h2 : inB x.told 1 5
    · have HX : Hid (verB x = false) := by show _ = _; rw [HV.out, h1, h2]; rfl
      go_wp2
      go_ret
      exact ⟨ret_bool HX.out.symm, Below.refl _ _⟩
    · have HX : Hid (verB x = inB x.seen 1 5) := by show _ = _; rw [HV.out, h1, h2]; rfl
      go_wp2_with fail
      refine (l17IsR_any _ _).mono ?_
      rintro e w' ⟨rfl, rfl⟩
      rw [← HX.out]
      go_wp2
      go_ret
      exact ⟨rfl, Below.refl _ _⟩
set_option maxRecDepth 100000 in
set_option maxHeartbeats 2000000 in
theorem levelOkR_any (n : Int) (w : World) : Calls Tryz.prog 80 #[.int .i64 n] w fun e w' => e = .returned (.bool (inB n 1 5)) ∧ w = w' := by
  go_enter Tryz.func80, Tryz.ntmps80
  go_wp2_with (go_at_call 100; refine (withinB_any _ _ _ _).mono ?_; rintro e w' ⟨rfl, rfl⟩)
  go_ret
  exact ⟨rfl, rfl⟩
set_option maxRecDepth 100000 in
set_option maxHeartbeats 2000000 in
theorem verValid_any (x : DVerified) (w : World) :
    Calls Tryz.prog 52 #[.agg #[.int .i64 x.day, .int .i64 x.told, .int .i64 x.seen]] w fun e w' => e = .returned (.bool (verB x)) ∧ Below w.heap.size w w' := by
  have HV := Lib.hid (show verB x = (inB x.day 0 36524 && inB x.told 1 5 && inB x.seen 1 5) from rfl)
  go_enter Tryz.func52, Tryz.ntmps52
  go_wp2_with fail
  refine (dayValid_any _ _).mono ?_
  rintro e w' ⟨rfl, rfl⟩
  cases h1 : inB x.day 0 36524
  · have HX : Hid (verB x = false) := by show _ = _; rw [HV.out, h1]; rfl
    go_wp2
    go_ret
    exact ⟨ret_bool HX.out.symm, (Below.refl _ _).alloc (Nat.le_refl _) _⟩
  · go_wp2_with fail
    refine (levelOkR_any _ _).mono ?_
    rintro e w' ⟨rfl, rfl⟩
    cases h2 : inB x.told 1 5
    · have HX : Hid (verB x = false) := by show _ = _; rw [HV.out, h1, h2]; rfl
      go_wp2
      go_ret
      exact ⟨ret_bool HX.out.symm, (Below.refl _ _).alloc (Nat.le_refl _) _⟩
    · have HX : Hid (verB x = inB x.seen 1 5) := by show _ = _; rw [HV.out, h1, h2]; rfl
      go_wp2_with fail
      refine (levelOkR_any _ _).mono ?_
      rintro e w' ⟨rfl, rfl⟩
      rw [← HX.out]
      go_wp2
      go_ret
      exact ⟨rfl, (Below.refl _ _).alloc (Nat.le_refl _) _⟩
def vtF (x : DVerified) (t : ByteArray) : ByteArray := if verB x then t ++ ⟨#[32]⟩ ++ listT [x.told, x.seen] else ⟨#[]⟩
set_option maxRecDepth 100000 in
set_option maxHeartbeats 4000000 in
theorem VerifiedText_any (x : DVerified) (y m d : Int) (w : World) (h : dateOk y m d) (hd : x.day = numD y m d) (hok : fVerified.ok x) (ht : Tab10 w) :
    Calls Tryz.prog 16 #[.agg #[.int .i64 x.day, .int .i64 x.told, .int .i64 x.seen]] w fun e w' => e = .returned (.string (vtF x (dayS y m d))) ∧ Below w.heap.size w w' := by
  have hDT := fun (w : World) (ht : Tab10 w) => DateText_any y m d x.day w h hd ht
  have h10 := dayS_size h
  have HF := Lib.hid (show vtF x (dayS y m d) = if verB x then dayS y m d ++ ⟨#[32]⟩ ++ listT [x.told, x.seen] else ⟨#[]⟩ from rfl)
  have hl2 : Hid (∀ y ∈ [x.told, x.seen], fInt.ok y) := fun y hy => by
    rcases List.mem_cons.1 hy with rfl | hy
    · exact hok.2.1
    · rw [List.mem_singleton] at hy; subst hy; exact hok.2.2
  generalize vtF x (dayS y m d) = R at *
  generalize dayS y m d = t at *
  clear h hd hok
  have hbx := PVerified.box w x 34
  obtain ⟨c0, c1, c2⟩ := id hbx
  have hB0 : Below w.heap.size w (w.alloc (.cells #[.int .i64 x.day, .int .i64 x.told, .int .i64 x.seen] 34)) := (Below.refl _ _).alloc (Nat.le_refl _) _
  have ht0 := ht.below hB0
  go_enter Tryz.func16, Tryz.ntmps16
  go_wp2_with fail
  refine (verValid_any x _).mono ?_
  rintro e w1 ⟨rfl, hb1⟩
  have hB1 := hB0.trans (hb1.mono hB0.size)
  have hp1 := hbx.below' hb1
  have ht1 := ht0.below hb1
  clear hbx c0 c1 c2 ht0 hb1
  obtain ⟨c0, c1, c2⟩ := id hp1
  have hg1 : w.heap.size < w1.heap.size := hp1.lt
  cases hv : verB x
  · have HX : Hid (R = ⟨#[]⟩) := by show _ = _; rw [HF.out, hv]; rfl
    go_wp2
    go_ret
    exact ⟨ret_str HX.out.symm, hB1⟩
  · have HX : Hid (R = t ++ ⟨#[32]⟩ ++ listT [x.told, x.seen]) := by show _ = _; rw [HF.out, hv]; rfl
    go_wp2
    have gc0 := cell_regrown c0
    have gc1 := cell_regrown c1
    have gc2 := cell_regrown c2
    refine wp_region_fork (C := fun w' => ∃ p : Regrown, w' = Go.Sort.grow (redrawn w1 p.d) p.os) [0, 1, 3, 4, 5, 6] 2 [7, 8, 9] [false, false, true] 7 [2, 8, 9] [false, false, true] (by kernel_rfl) (by kernel_rfl) (by kernel_rfl) (fun _ _ d _ _ h => by cases d <;> exact h) (regrown_of_below (Below.drew (Below.refl _ _))) ?_
    simp only [List.map_cons, List.map_nil, List.getD_cons_zero, List.getD_cons_succ]
    have hS0 : Below (w1.heap.size) w1 w1.drew := Below.drew (Below.refl _ _)
    refine wpFork_pure (by kernel_rfl) (fun K hK => ?_)
    go_big_quiet_op
    refine hK _ ?_; clear hK K
    refine wpFork_pure (by kernel_rfl) (fun K hK => ?_)
    go_big_quiet_op
    refine hK _ ?_; clear hK K
    refine wpFork_pure (by kernel_rfl) (fun K hK => ?_)
    go_big_quiet_op
    refine hK _ ?_; clear hK K
    refine wpFork_pure (by kernel_rfl) (fun K hK => ?_)
    go_big_quiet_op
    refine hK _ ?_; clear hK K
    refine wpFork_pure (by kernel_rfl) (fun K hK => ?_)
    go_big_quiet_op
    refine hK _ ?_; clear hK K
    refine wpFork_pure (by kernel_rfl) (fun K hK => ?_)
    go_big_quiet_op
    refine hK _ ?_; clear hK K
    refine wpFork_split ?_ ?_
    · skip
      refine wpMix_act (by kernel_rfl) (fun K hK => ?_)
      go_big_op
      refine (hDT _ (ht1.below hS0)).mono ?_
      rintro e wr1 ⟨rfl, hbr1⟩
      have hbr1S : Below (w1.heap.size) w1 wr1 := hS0.trans (hbr1.mono hS0.size)
      refine hK _ _ (regrown_of_below hbr1S) ?_
      clear hK K
      refine wpMix_act (by kernel_rfl) (fun K hK => ?_)
      go_big_op
      refine hK _ _ (regrown_of_below (hbr1S.alloc hbr1S.size _)) ?_
      clear hK K
      refine mix_world (fun N => Below (w1.heap.size) w1 N ∧ Sl fInt.cod N (.slice (some ⟨wr1.heap.size, 0, none⟩) 2 2) [x.told, x.seen] [wr1.heap.size]) ⟨hbr1S.alloc hbr1S.size _, Sl.lit2 (E := fInt) wr1 [x.told, x.seen] _ _ rfl hl2.out (by show 0 < 2; decide) (by show 2 ≤ _; decide)⟩ ?_
      rintro wr2 ⟨hbr2S, hbr2F⟩
      refine wpMix_act (by kernel_rfl) (fun K hK => ?_)
      go_big_op
      refine (withId_any t _ [x.told, x.seen] _ _ (by first | exact hbr2F | exact hbr4F.below' hbr5 | exact hbr5F) (by show 2 ≤ _; decide) (by omega) (ht1.below hbr2S)).mono ?_
      rintro e wr3 ⟨rfl, hbr3⟩
      have hbr3S : Below (w1.heap.size) w1 wr3 := hbr2S.trans (hbr3.mono hbr2S.size)
      refine hK _ _ (regrown_of_below hbr3S) ?_
      clear hK K
      refine wpMix_pure (by kernel_rfl) (fun K hK => ?_); go_big_quiet_op; refine hK _ ?_; clear hK K
      refine wpMix_nil ?_
      have hS := hbr3S
      have hB9 := hB1.trans (hS.mono hB1.size)
      go_wp2
      go_ret
      exact ⟨ret_str HX.out.symm, hB9⟩
    · skip
      refine wpMix_act (by kernel_rfl) (fun K hK => ?_)
      go_big_op
      refine hK _ _ (regrown_of_below (hS0.alloc hS0.size _)) ?_
      clear hK K
      refine mix_world (fun N => Below (w1.heap.size) w1 N ∧ Sl fInt.cod N (.slice (some ⟨w1.drew.heap.size, 0, none⟩) 2 2) [x.told, x.seen] [w1.drew.heap.size]) ⟨hS0.alloc hS0.size _, Sl.lit2 (E := fInt) w1.drew [x.told, x.seen] _ _ rfl hl2.out (by show 0 < 2; decide) (by show 2 ≤ _; decide)⟩ ?_
      rintro wr4 ⟨hbr4S, hbr4F⟩
      refine wpMix_act (by kernel_rfl) (fun K hK => ?_)
      go_big_op
      refine (hDT _ (ht1.below hbr4S)).mono ?_
      rintro e wr5 ⟨rfl, hbr5⟩
      have hbr5S : Below (w1.heap.size) w1 wr5 := hbr4S.trans (hbr5.mono hbr4S.size)
      refine hK _ _ (regrown_of_below hbr5S) ?_
      clear hK K
      refine wpMix_act (by kernel_rfl) (fun K hK => ?_)
      go_big_op
      refine (withId_any t _ [x.told, x.seen] _ _ (by first | exact hbr2F | exact hbr4F.below' hbr5 | exact hbr5F) (by show 2 ≤ _; decide) (by omega) (ht1.below hbr5S)).mono ?_
      rintro e wr6 ⟨rfl, hbr6⟩
      have hbr6S : Below (w1.heap.size) w1 wr6 := hbr5S.trans (hbr6.mono hbr5S.size)
      refine hK _ _ (regrown_of_below hbr6S) ?_
      clear hK K
      refine wpMix_pure (by kernel_rfl) (fun K hK => ?_); go_big_quiet_op; refine hK _ ?_; clear hK K
      refine wpMix_nil ?_
      have hS := hbr6S
      have hB9 := hB1.trans (hS.mono hB1.size)
      go_wp2
      go_ret
      exact ⟨ret_str HX.out.symm, hB9⟩


set_option maxRecDepth 100000 in
set_option maxHeartbeats 8000000 in
theorem implReadVerified_any (s : ByteArray) (m : Int) (w : World) (hs : s.size ≤ 1048576) (hm : w.cell? ⟨0, 0, none⟩ = some (.int .i64 m)) (ht : RdTabs w) :
    Calls Tryz.prog 15 #[.string s] w fun e w' => VRet s e ∧ Below w.heap.size w w' := by
  have HW := Lib.hid (show wiA s = if oneK 2 (cZ s) then cA s else ⟨#[]⟩ from rfl)
  have HCA := Lib.hid (fun h => (words_of (s := s) (k := 2) h).2)
  have HLT := Lib.hid (fun h => (numK_text (k := 2) (b := cZ s) h).1)
  have HBAD := Lib.hid (fun p q d hn hd hv => rvF_bad (s := s) (d := d) (p := p) (q := q) hn hd hv)
  have HYES := Lib.hid (fun p q d h1 hn hd hv => rvF_yes (s := s) (d := d) (p := p) (q := q) h1 hn hd hv)
  have HONE := Lib.hid (fun h => rvF_one (s := s) h)
  have HDAY := Lib.hid (fun h => rvF_day (s := s) h)
  have hokn := numK_ok (k := 2) (b := cZ s)
  obtain ⟨p, q, hnum⟩ := num2_ab (cZ s)
  have hsA : (wiA s).size ≤ 1048576 := by
    unfold wiA; split
    · have := (cAZ_size s).1; omega
    · show 0 ≤ _; omega
  go_enter Tryz.func15, Tryz.ntmps15
  go_wp2_with fail
  refine (readWithId_any s m _ hs (cell_below ((Below.refl _ _).alloc (Nat.le_refl _) _) hm) (ht.below ((Below.refl _ _).alloc (Nat.le_refl _) _))).mono ?_
  rintro e w1 ⟨v1, rfl, ⟨⟨fpy, hsy, _, _⟩, hb1⟩⟩
  have hX1 : BoxV w1 w.heap.size := (BoxV.new w _).below hb1 (by simp)
  have hB1 : Below w.heap.size w w1 := ((Below.refl _ _).alloc (Nat.le_refl _) _).trans (hb1.mono (by simp))
  have hg1 : w.heap.size < w1.heap.size := by have := hb1.size; simp at this; omega
  have hnum' := hnum
  rw [hnum] at hsy hokn
  generalize cZ s = sz at *
  generalize cA s = sa at *
  generalize wiA s = sw at *
  clear hb1
  obtain ⟨A2, cap2, rfl, hle2, _⟩ := hsy.form
  obtain ⟨g2, o2, rfl, _, okp, n0, _⟩ := hsy.cell1 rfl (k := 0) (by simp) rfl
  obtain ⟨g2', o2', hA2, _, okq, n1, _⟩ := hsy.cell1 rfl (k := 1) (by simp) rfl
  injection hA2 with hA2; injection hA2 with ha1 ha2 _; subst ha1 ha2
  have n00 : w1.cell? ⟨g2, o2, none⟩ = some (.int .i64 p) := by simpa using n0
  have n11 : w1.cell? ⟨g2, o2 + 1, none⟩ = some (.int .i64 q) := n1
  have hgl := block_lt_of_cell n00
  clear n0 n1 hsy
  have e3 : (([p, q] : List Int).length : Int) = 2 := rfl
  have e3' : ([p, q] : List Int).length = 2 := rfl
  go_wp2_with fail
  refine (implReadDate_any sw _ hsA (ht.below hB1).tab).mono ?_
  rintro e w2 ⟨rfl, hb2⟩
  have hB2 := hB1.trans (hb2.mono hB1.size)
  have hX2 := hX1.below hb2 hg1
  have n02 := (hb2.cell (p := ⟨g2, o2, none⟩) hgl).trans n00
  have n12 := (hb2.cell (p := ⟨g2, o2 + 1, none⟩) hgl).trans n11
  have hg2 : w.heap.size < w2.heap.size := Nat.lt_of_lt_of_le hg1 hb2.size
  clear n00 n11 hX1 hb2
  have hDR : ∀ d, (rdF sw).getD 0 = d → -9223372036854775808 ≤ d ∧ d ≤ 9223372036854775807 := fun d hd => by
    cases hr : rdF sw with
    | none => rw [hr] at hd; have : d = 0 := hd.symm; omega
    | some d' =>
      rw [hr] at hd
      have e : d' = d := hd
      obtain ⟨_, _, _, h1, h2, _⟩ := rdF_is hr
      have := numD_bounds h1
      omega
  generalize hdd : (rdF sw).getD 0 = d at *
  have HDD := Lib.hid hdd
  have hdr := hDR d rfl
  have hokX : fVerified.ok ⟨d, p, q⟩ := ⟨hdr, okp, okq⟩
  generalize hds : (rdF sw).isSome = two at *
  have HDS := Lib.hid hds
  clear hdd hds hDR
  generalize hon : oneK 2 sz = one at *
  have HON := Lib.hid hon
  clear hon
  go_wp2
  have gn02 := cell_regrown n02
  have gn12 := cell_regrown n12
  refine wp_region_mix (C := fun w' => ∃ p : Regrown, w' = Go.Sort.grow (redrawn w2 p.d) p.os) [true, true, true, true, true, true, true, true, false, false] (by kernel_rfl) (by kernel_rfl) (by kernel_rfl) (fun _ _ d _ _ h => by cases d <;> exact h) (regrown_of_below (Below.drew (Below.refl _ _))) ?_
  have hS0 : Below (w2.heap.size) w2 w2.drew := Below.drew (Below.refl _ _)
  refine wpMix_pure (by kernel_rfl) (fun K hK => ?_); go_big_quiet_op; refine hK _ ?_; clear hK K
  refine wpMix_pure (by kernel_rfl) (fun K hK => ?_); go_big_quiet_op; refine hK _ ?_; clear hK K
  refine wpMix_pure (by kernel_rfl) (fun K hK => ?_); go_big_quiet_op; refine hK _ ?_; clear hK K
  refine wpMix_pure (by kernel_rfl) (fun K hK => ?_); go_big_quiet_op; refine hK _ ?_; clear hK K
  refine wpMix_pure (by kernel_rfl) (fun K hK => ?_); go_big_quiet_op; refine hK _ ?_; clear hK K
  refine wpMix_pure (by kernel_rfl) (fun K hK => ?_); go_big_quiet_op; refine hK _ ?_; clear hK K
  refine wpMix_pure (by kernel_rfl) (fun K hK => ?_); go_big_quiet_op; refine hK _ ?_; clear hK K
  refine wpMix_pure (by kernel_rfl) (fun K hK => ?_); go_big_quiet_op; refine hK _ ?_; clear hK K
  refine wpMix_act (by kernel_rfl) (fun K hK => ?_)
  go_big_op
  refine hK _ _ (regrown_of_below (by first | exact hS0.alloc hS0.size _ | exact Below.drew ((Below.refl _ _).alloc (Nat.le_refl _) _) | exact (Below.drew (Below.refl _ _)).alloc (Nat.le_refl _) _)) ?_
  clear hK K
  refine wpMix_act (by kernel_rfl) (fun K hK => ?_)
  go_big_op
  refine hK _ _ (regrown_of_below (by first | exact hS0.alloc hS0.size _ | exact Below.drew ((Below.refl _ _).alloc (Nat.le_refl _) _) | exact (Below.drew (Below.refl _ _)).alloc (Nat.le_refl _) _)) ?_
  clear hK K
  refine wpMix_nil ?_
  have hBx : Below w2.heap.size w2 (w2.alloc (.cells #[.int .i64 d, .int .i64 p, .int .i64 q] 34)).drew := Below.drew ((Below.refl _ _).alloc (Nat.le_refl _) _)
  have hBV := hB2.trans (hBx.mono hB2.size)
  have hXV := hX2.below hBx hg2
  have hpx : PVerified (w2.alloc (.cells #[.int .i64 d, .int .i64 p, .int .i64 q] 34)).drew w2.heap.size 0 ⟨d, p, q⟩ := (PVerified.box w2 ⟨d, p, q⟩ _).below' (Below.drew (Below.refl _ _))
  have hgV : w2.heap.size < (w2.alloc (.cells #[.int .i64 d, .int .i64 p, .int .i64 q] 34)).drew.heap.size := by
    show _ < (w2.alloc _).heap.size
    simp
  clear hX2 n02 n12 hBx gn02 gn12 hS0
  generalize (w2.alloc (.cells #[.int .i64 d, .int .i64 p, .int .i64 q] 34)).drew = V at *
  generalize hwq : w2.heap.size = wq at *
  obtain ⟨d0, d1, d2, z0, z1, z2⟩ := id hXV
  obtain ⟨x0, x1, x2⟩ := id hpx
  cases one
  · have HN := Lib.hid (HONE.out rfl)
    go_wp2
    exact bodyPost_ret (v := .tuple #[vAg v00, .bool false]) (by simp [vAg, v00, results, hit_cellV, d0, d1, d2, Tryz.results15, go_sem]) rfl ⟨VRet.no HN.out, by (repeat (refine Below.setCell ?_ (by first | exact Nat.le_refl _ | (show _ ≤ _; omega)) _)); assumption⟩
  · cases two
    · have HN : Hid (rvF s = none) := by
        refine Lib.hid (HDAY.out ?_)
        have h2 := HDS.out
        rw [show sw = sa from HW.out] at h2
        cases hr : rdF sa with
        | none => rfl
        | some _ => rw [hr] at h2; cases h2
      go_wp2
      exact bodyPost_ret (v := .tuple #[vAg v00, .bool false]) (by simp [vAg, v00, results, hit_cellV, d0, d1, d2, Tryz.results15, go_sem]) rfl ⟨VRet.no HN.out, by (repeat (refine Below.setCell ?_ (by first | exact Nat.le_refl _ | (show _ ≤ _; omega)) _)); assumption⟩
    · have hd1 : rdF sa = some d := by
        have h2 := HDS.out
        have h3 := HDD.out
        rw [show sw = sa from HW.out] at h2 h3
        cases hr : rdF sa with
        | none => rw [hr] at h2; cases h2
        | some d' => rw [hr] at h3; rw [show d' = d from h3]
      obtain ⟨dy, dm, dd, hdok, hdn, hds⟩ := rdF_is hd1
      have hcat := HCA.out rfl
      have hlt := HLT.out rfl
      rw [hnum'] at hlt
      have htx : vtF ⟨d, p, q⟩ (dayS dy dm dd) = if verB ⟨d, p, q⟩ then s else ⟨#[]⟩ := by
        unfold vtF
        rw [show listT [(⟨d, p, q⟩ : DVerified).told, (⟨d, p, q⟩ : DVerified).seen] = sz from hlt, show dayS dy dm dd = sa from hds.symm, hcat]
      have hne : s ≠ ⟨#[]⟩ := fun e => by
        have := congrArg ByteArray.size (hcat.trans e)
        rw [ByteArray.size_append, ByteArray.size_append] at this
        exact absurd this (by show ¬ (sa.size + 1 + sz.size = 0); omega)
      have HNO := Lib.hid (HBAD.out p q d hnum' hd1)
      have HYE := Lib.hid (HYES.out p q d rfl hnum' hd1)
      have HTX := Lib.hid htx
      have htV := (ht.below hBV).tab
      have HDN := Lib.hid hdn
      clear htx hcat hlt hds hd1 hdn hnum' hnum
      go_wp2_with fail
      refine (VerifiedText_any ⟨d, p, q⟩ dy dm dd _ hdok HDN.out hokX htV).mono ?_
      rintro e U ⟨rfl, hbU⟩
      have hBU := hBV.trans (hbU.mono hBV.size)
      have hXU := hXV.below hbU (by omega)
      have hpU := hpx.below' hbU
      clear hXV hpx x0 x1 x2 d0 d1 d2 z0 z1 z2
      obtain ⟨d0, d1, d2, z0, z1, z2⟩ := hXU
      obtain ⟨x0, x1, x2⟩ := hpU
      cases hgb : verB ⟨d, p, q⟩
      · have HN := Lib.hid (HNO.out hgb)
        have e9 : s.toList.isEmpty = false := by
          rw [ByteArray.toList_eq, ← Bool.not_eq_true, List.isEmpty_iff]
          exact fun e => hne (data_inj (by rw [e]))
        rw [show vtF ⟨d, p, q⟩ (dayS dy dm dd) = ⟨#[]⟩ from by rw [HTX.out, hgb]; rfl]
        clear hgb
        go_wp2
        exact bodyPost_ret (v := .tuple #[vAg v00, .bool false]) (by simp [vAg, v00, results, hit_cellV, d0, d1, d2, Tryz.results15, go_sem]) rfl ⟨VRet.no HN.out, by (repeat (refine Below.setCell ?_ (by first | exact Nat.le_refl _ | (show _ ≤ _; omega)) _)); assumption⟩
      · have HY := Lib.hid (HYE.out hgb)
        have e9 : (s.toList == s.toList) = true := beq_self_eq_true _
        have e10 : (s.toList != s.toList) = false := by unfold bne; rw [e9]; rfl
        rw [show vtF ⟨d, p, q⟩ (dayS dy dm dd) = s from by rw [HTX.out, hgb]; rfl]
        clear hgb
        go_wp2
        exact bodyPost_ret (v := .tuple #[vAg ⟨d, p, q⟩, .bool true]) (by simp [vAg, v00, results, hit_cellV, d0, d1, d2, Tryz.results15, go_sem]) rfl ⟨VRet.yes HY.out, by (repeat (refine Below.setCell ?_ (by first | exact Nat.le_refl _ | (show _ ≤ _; omega)) _)); assumption⟩

end Go.Proofs.YthabmofkjdiccaaGreatDoor

namespace Go.Proofs.YthabmofkjdiccaaGreatDoor
open Go.RowKit
section
variable {P : Program} {ops : Array Oper} {Q : Exit → Act → World → Prop} {md : Region.Mode} {C : World → Prop} {t : Nat}

/-- Whichever comes up: behind each but number 't' the class holds. -/
def wpSink (P : Program) (md : Region.Mode) (ops : Array Oper) (Q : Exit → Act → World → Prop) (C : World → Prop) (t : Nat) : Nat → Array Bool → Act → World → Prop
  | 0, L, a, w => Region.ready md ops L = [] ∧ Q .normal a w
  | n + 1, L, a, w => (Region.ready md ops L = [] → Q .normal a w) ∧ ∀ i, i ∈ Region.ready md ops L → wpOp P ops Q i (fun b v => (i ≠ t → C v) ∧ wpSink P md ops Q C t n (L.setIfInBounds i true) b v) a w
theorem any_of_sink : ∀ (n : Nat) (L : Array Bool) (a : Act) (w : World), wpSink P md ops Q C t n L a w → wpAny P md ops Q n L a w
  | 0, _, _, _, h => h
  | n + 1, _, _, _, h => And.intro h.1 fun i hi => wpOp_mono (fun b v g => any_of_sink n _ b v g.2) (h.2 i hi)
/-- Does number 't' wait for number 'i'? -/
def waitsOn (md : Region.Mode) (ops : Array Oper) (t i : Nat) : Bool := match ops[t]? with | some o => o.after.any (fun e => Region.binds md e && e.on == i) | none => false
theorem waitsOn_not {i : Nat} {L : Array Bool} (hw : waitsOn md ops t i = true) (hi : L.getD i true = false) : t ∉ Region.ready md ops L := by
  intro ht
  obtain ⟨_, o, ho, hall⟩ := mem_ready.1 ht
  unfold waitsOn at hw
  rw [ho] at hw
  simp only at hw
  obtain ⟨e, he, hb⟩ := Array.any_eq_true'.1 hw
  simp only [Bool.and_eq_true, beq_iff_eq] at hb
  have h1 := hall e he hb.1
  rw [hb.2] at h1
  rcases Nat.lt_or_ge i L.size with h' | h'
  · simp [h'] at hi h1; rw [hi] at h1; cases h1
  · simp [Array.getElem?_eq_none h'] at h1
theorem sink_first {i : Nat} {o : Oper} {v : Value} (ho : ops[i]? = some o) (hs : Region.noSelect ops = true) (hit : i ≠ t) (hwt : waitsOn md ops t i = true)
    (hQ : ∀ c a w, Q (.panic c) (a.put o.dst v) w → Q (.panic c) a w) : ∀ (n : Nat) (L : Array Bool) (a : Act) (w : World),
      (∀ j p, ops[j]? = some p → j ≠ i → L.getD j true = false → (∀ e ∈ p.after, Region.binds md e = true → e.on ≠ i) → o.apart ops p = true) →
      i ∈ Region.ready md ops L → YieldsIf P ops C o v a → C w → wpSink P md ops Q C t n (L.setIfInBounds i true) (a.put o.dst v) w → wpSink P md ops Q C t (n + 1) L a w := by
  intro n
  induction n with
  | zero =>
    intro L a w _ hr hy hC H
    constructor
    · intro h; rw [h] at hr; exact absurd hr List.not_mem_nil
    · intro j hj
      rcases Decidable.em (j = i) with rfl | e
      · exact hy.wpOp ho hC ⟨fun _ => hC, H⟩
      · have h2 := ready_mono hj e
        rw [H.1] at h2
        exact absurd h2 List.not_mem_nil
  | succ n ih =>
    intro L a w hf hr hy hC H
    constructor
    · intro h; rw [h] at hr; exact absurd hr List.not_mem_nil
    · intro j hj
      rcases Decidable.em (j = i) with rfl | e
      · exact hy.wpOp ho hC ⟨fun _ => hC, H⟩
      · have hun := (mem_ready.1 hr).1
        have hjt : j ≠ t := fun h => waitsOn_not hwt hun (h ▸ hj)
        obtain ⟨hju, p, hp, hall⟩ := mem_ready.1 hj
        have hno : ∀ e ∈ p.after, Region.binds md e = true → e.on ≠ i := fun e he hb h => by
          have h1 := hall e he hb
          rw [h] at h1
          rcases Nat.lt_or_ge i L.size with h' | h'
          · simp [h'] at hun h1; rw [hun] at h1; cases h1
          · simp [Array.getElem?_eq_none h'] at h1
        have h2 := wpOp_putIf hp (hf j p hp e hju hno) (fun cs b => Region.noSelect_spec hs i o cs b ho) (fun cs b => Region.noSelect_spec hs j p cs b hp) hQ hy (H.2 j (ready_mono hj e))
        refine wpOp_mono (fun b u g => ?_) h2
        have hCu := g.2.1 hjt
        refine ⟨fun _ => hCu, ih _ b u (fun k q hk hki hku hkn => ?_) (ready_mono hr (Ne.symm e)) g.1 hCu ?_⟩
        · refine hf k q hk hki ?_ hkn
          rcases Decidable.em (j = k) with rfl | hjk
          · exact hju
          · rw [getD_set_ne true hjk] at hku; exact hku
        · rw [Array.setIfInBounds_comm _ _ e]
          exact g.2.2

def wpMixS (P : Program) (ops : Array Oper) (Q : Exit → Act → World → Prop) (C : World → Prop) : List Bool → List Oper → Act → World → Prop
  | _, [], a, w => Q .normal a w
  | [], _ :: _, _, _ => False
  | true :: ks, o :: l, a, w => if Region.wanted o (yielded ops a.tmps) then o.quiet P a C (fun a' => wpMixS P ops Q C ks l a' w) else wpMixS P ops Q C ks l (a.put o.dst undef) w
  | false :: ks, o :: l, a, w => if Region.wanted o (yielded ops a.tmps) then o.wp P a w (fun a' w' => (l ≠ [] → C w') ∧ wpMixS P ops Q C ks l a' w') Q else wpMixS P ops Q C ks l (a.put o.dst undef) w
def mixSB (md : Region.Mode) (ops : Array Oper) (t : Nat) : List Nat → List Bool → Array Bool → Bool
  | [], _, L => (Region.ready md ops L).isEmpty
  | i :: is, true :: ks, L => (Region.ready md ops L).contains i && Region.free md ops L i && ((ops[i]?).map valueOnly).getD false && !(i == t) && waitsOn md ops t i && mixSB md ops t is ks (L.setIfInBounds i true)
  | i :: is, false :: ks, L => (Region.ready md ops L == [i]) && (is.isEmpty == (i == t)) && mixSB md ops t is ks (L.setIfInBounds i true)
  | _ :: _, [], _ => false
theorem sink_of_mix (hs : Region.noSelect ops = true) (hQ : ∀ (c : _) (a : Act) (d : Option Tmp) (v : Value) (w : World), Q (.panic c) (a.put d v) w → Q (.panic c) a w) :
    ∀ (is : List Nat) (ks : List Bool) (l : List Oper) (L : Array Bool) (a : Act) (w : World), (∀ j : Nat, l[j]? = (is[j]?).bind (fun i => ops[i]?)) → l.length = is.length →
      mixSB md ops t is ks L = true → (l ≠ [] → C w) → wpMixS P ops Q C ks l a w → wpSink P md ops Q C t is.length L a w := by
  intro is
  induction is with
  | nil =>
    intro ks l L a w _ hn hB _ h
    obtain rfl : l = [] := List.eq_nil_of_length_eq_zero hn
    have h' : Q .normal a w := by cases ks <;> exact h
    exact ⟨by simpa [mixSB] using hB, h'⟩
  | cons i is ih =>
    intro ks l L a w hl hn hB hC h
    cases l with
    | nil => simp at hn
    | cons o l =>
      have hC := hC (by simp)
      have ho : ops[i]? = some o := by simpa using (hl 0).symm
      have hl' : ∀ j : Nat, l[j]? = (is[j]?).bind (fun i => ops[i]?) := fun j => by simpa using hl (j + 1)
      have hn' : l.length = is.length := by simpa using hn
      cases ks with
      | nil => simp [mixSB] at hB
      | cons k ks =>
        cases k with
        | true =>
          simp only [mixSB, Bool.and_eq_true, ho, Option.map_some, Option.getD_some, Bool.not_eq_true', beq_eq_false_iff_ne] at hB
          obtain ⟨⟨⟨⟨⟨hr, hf⟩, hv⟩, hit⟩, hwt⟩, hB'⟩ := hB
          simp only [wpMixS] at h
          have hr' : i ∈ Region.ready md ops L := by simpa using hr
          by_cases hw : Region.wanted o (yielded ops a.tmps) = true
          · rw [if_pos hw] at h
            obtain ⟨v, h1, h2⟩ := yieldsIf_of_quiet hv h
            exact sink_first ho hs hit hwt (fun c a w => hQ c a _ _ w) _ L a w (Region.free_spec ho hf) hr' (.inl ⟨hw, h1⟩) hC (ih ks l _ _ w hl' hn' hB' (fun _ => hC) h2)
          · rw [if_neg hw] at h
            exact sink_first ho hs hit hwt (fun c a w => hQ c a _ _ w) _ L a w (Region.free_spec ho hf) hr' (.inr ⟨by simpa using hw, rfl⟩) hC (ih ks l _ _ w hl' hn' hB' (fun _ => hC) h)
        | false =>
          simp only [mixSB, Bool.and_eq_true, beq_iff_eq] at hB
          obtain ⟨⟨hr, he⟩, hB'⟩ := hB
          simp only [wpMixS] at h
          have hlt : i ≠ t → l ≠ [] := fun hne hl0 => by
            subst hl0
            have : is = [] := List.eq_nil_of_length_eq_zero hn'.symm
            rw [this] at he
            exact hne (by simpa using he.symm)
          refine ⟨fun h0 => by rw [h0] at hr; simp at hr, fun j hj => ?_⟩
          rw [hr, List.mem_singleton] at hj
          subst hj
          unfold wpOp
          simp only [ho]
          by_cases hw : Region.wanted o (yielded ops a.tmps) = true
          · rw [if_pos hw] at h ⊢
            exact .inl (Oper.wp_mono (fun a' w' hh => ⟨fun hne => hh.1 (hlt hne), ih ks l _ a' w' hl' hn' hB' hh.1 hh.2⟩) h)
          · rw [if_neg hw] at h ⊢
            exact ⟨fun _ => hC, ih ks l _ _ w hl' hn' hB' (fun _ => hC) h⟩
structure MixS (P : Program) (ops : Array Oper) (Q : Exit → Act → World → Prop) (C : World → Prop) (ks : List Bool) (l : List Oper) (a : Act) (w : World) : Prop where
  out : wpMixS P ops Q C ks l a w
theorem wp_region_sink {id : Nat} {l : List Oper} {a : Act} {w : World} (is : List Nat) (ks : List Bool) (t : Nat) (hm : P.follows .mixedOrders = true) (hs : Region.noSelect l.toArray = true)
    (hB : (is.all (fun i => decide (i < l.length)) && decide (is.length = l.length) && mixSB .any l.toArray t is ks (Array.replicate l.length false)) = true)
    (hQ : ∀ (c : _) (a : Act) (d : Option Tmp) (v : Value) (w : World), Q (.panic c) (a.put d v) w → Q (.panic c) a w) (hC : C w.drew) (h : MixS P l.toArray Q C ks (is.map fun i => l.getD i default) a w.drew) : (Code.region id l.toArray true).wp P Q a w := by
  simp only [Bool.and_eq_true, decide_eq_true_eq, List.all_eq_true] at hB
  obtain ⟨⟨h1, h2⟩, h3⟩ := hB
  refine wp_region_any hm (any_of_sink (C := C) (t := t) _ _ _ _ ?_)
  have := sink_of_mix (md := .any) hs hQ is ks (is.map fun i => l.getD i default) (Array.replicate l.length false) a w.drew (fun j => by
    rw [List.getElem?_map]
    cases hj : is[j]? with
    | none => rfl
    | some i =>
      have hi := h1 i (List.mem_of_getElem? hj)
      simp [hi, List.getD_eq_getElem?_getD]) (by simp) h3 (fun _ => hC) h.out
  rw [h2] at this
  simpa using this
theorem wpMixS_pure {ks : List Bool} {o : Oper} {l : List Oper} {a : Act} {w : World} (hw : Region.wanted o (yielded ops a.tmps) = true)
    (h : ∀ K : Act → Prop, (∀ a', MixS P ops Q C ks l a' w → K a') → o.quiet P a C K) : MixS P ops Q C (true :: ks) (o :: l) a w := by
  refine ⟨?_⟩
  simp only [wpMixS]; rw [if_pos hw]; exact h _ fun _ h => h.out
theorem wpMixS_skip {k : Bool} {ks : List Bool} {o : Oper} {l : List Oper} {a : Act} {w : World} (hw : Region.wanted o (yielded ops a.tmps) = false)
    (h : ∀ K : Act → Prop, (∀ a', MixS P ops Q C ks l a' w → K a') → K (a.put o.dst undef)) : MixS P ops Q C (k :: ks) (o :: l) a w := by
  have h' : wpMixS P ops Q C ks l (a.put o.dst undef) w := h _ fun _ h => h.out
  refine ⟨?_⟩
  cases k <;> (simp only [wpMixS]; rw [if_neg (by rw [hw]; exact Bool.false_ne_true)]; exact h')
theorem wpMixS_act {ks : List Bool} {o : Oper} {l : List Oper} {a : Act} {w : World} (hw : Region.wanted o (yielded ops a.tmps) = true)
    (h : ∀ K : Act → World → Prop, (∀ a' w', C w' → MixS P ops Q C ks l a' w' → K a' w') → o.wp P a w K Q) : MixS P ops Q C (false :: ks) (o :: l) a w := by
  refine ⟨?_⟩
  simp only [wpMixS]; rw [if_pos hw]; exact h _ fun _ _ hc h => ⟨fun _ => hc, h.out⟩
theorem wpMixS_last {ks : List Bool} {o : Oper} {a : Act} {w : World} (hw : Region.wanted o (yielded ops a.tmps) = true)
    (h : ∀ K : Act → World → Prop, (∀ a' w', Q .normal a' w' → K a' w') → o.wp P a w K Q) : MixS P ops Q C (false :: ks) [o] a w := by
  refine ⟨?_⟩
  simp only [wpMixS]; rw [if_pos hw]; exact h _ fun _ _ hq => ⟨fun h0 => absurd rfl h0, by cases ks <;> exact hq⟩
theorem mixS_world {ks : List Bool} {l : List Oper} {a : Act} {w : World} (X : World → Prop) (hX : X w) (h : ∀ N, X N → MixS P ops Q C ks l a N) : MixS P ops Q C ks l a w := h w hX
end
end Go.Proofs.YthabmofkjdiccaaGreatDoor

namespace Go.Proofs.YthabmofkjdiccaaGreatDoor
open Go.RowKit
set_option linter.unusedVariables false

theorem ret_ii {a b c d : Int} (h1 : a = b) (h2 : c = d) : Ending.returned (.tuple #[.int .i64 a, .int .i64 c]) = Ending.returned (.tuple #[.int .i64 b, .int .i64 d]) := by rw [h1, h2]
theorem ret_iii {a b c d e f : Int} (h1 : a = b) (h2 : c = d) (h3 : e = f) : Ending.returned (.tuple #[.int .i64 a, .int .i64 c, .int .i64 e]) = Ending.returned (.tuple #[.int .i64 b, .int .i64 d, .int .i64 f]) := by rw [h1, h2, h3]
theorem ret_vii {v : Value} {c d e f : Int} (h2 : c = d) (h3 : e = f) : Ending.returned (.tuple #[v, .int .i64 c, .int .i64 e]) = Ending.returned (.tuple #[v, .int .i64 d, .int .i64 f]) := by rw [h2, h3]
set_option maxRecDepth 100000 in
set_option maxHeartbeats 2000000 in
theorem shC_any (x : DVerified) (a : Addr) (s : Int) (w : World) (hc : w.cell? a = some (.int .i64 s)) (hs : -2 ≤ s ∧ s ≤ 2) (hv : verB x = true) :
    Calls Tryz.prog 39 #[.agg #[.int .i64 x.day, .int .i64 x.told, .int .i64 x.seen], .pointer (some a)] w fun e w' => e = .returned (.bool (shB s x)) ∧ Below w.heap.size w w' := by
  obtain ⟨h1, h2, h3, h4, h5, h6⟩ := verB_parts hv
  have hB := (Below.refl w.heap.size w).alloc (Nat.le_refl _) (.cells #[.int .i64 x.day, .int .i64 x.told, .int .i64 x.seen] 34)
  have hca := (hB.cell (p := a) (block_lt_of_cell hc)).trans hc
  clear hv
  go_enter Tryz.func39, Tryz.ntmps39
  go_wp2
  go_ret
  exact ⟨ret_bool (by rw [Bool.eq_iff_iff]; unfold shB; simp), hB⟩
set_option maxRecDepth 100000 in
set_option maxHeartbeats 2000000 in
theorem hitC_any (x : DVerified) (w : World) (hv : verB x = true) :
    Calls Tryz.prog 40 #[.agg #[.int .i64 x.day, .int .i64 x.told, .int .i64 x.seen]] w fun e w' => e = .returned (.bool (hitV x)) ∧ Below w.heap.size w w' := by
  obtain ⟨h1, h2, h3, h4, h5, h6⟩ := verB_parts hv
  have hB := (Below.refl w.heap.size w).alloc (Nat.le_refl _) (.cells #[.int .i64 x.day, .int .i64 x.told, .int .i64 x.seen] 34)
  clear hv
  go_enter Tryz.func40, Tryz.ntmps40
  go_wp2
  go_ret
  exact ⟨ret_bool (by rw [Bool.eq_iff_iff]; unfold hitV; simp), hB⟩
set_option maxRecDepth 100000 in
set_option maxHeartbeats 2000000 in
theorem toldC_any (x : DVerified) (a : Addr) (s : Int) (w : World) (hc : w.cell? a = some (.int .i64 s)) (hv : verB x = true) :
    Calls Tryz.prog 41 #[.agg #[.int .i64 x.day, .int .i64 x.told, .int .i64 x.seen], .pointer (some a)] w fun e w' => e = .returned (.bool (toldV s x)) ∧ Below w.heap.size w w' := by
  obtain ⟨h1, h2, h3, h4, h5, h6⟩ := verB_parts hv
  have hB := (Below.refl w.heap.size w).alloc (Nat.le_refl _) (.cells #[.int .i64 x.day, .int .i64 x.told, .int .i64 x.seen] 34)
  have hca := (hB.cell (p := a) (block_lt_of_cell hc)).trans hc
  clear hv
  go_enter Tryz.func41, Tryz.ntmps41
  go_wp2
  go_ret
  exact ⟨ret_bool (by rw [Bool.eq_iff_iff]; unfold toldV; simp), hB⟩
set_option maxRecDepth 100000 in
set_option maxHeartbeats 2000000 in
theorem seenC_any (x : DVerified) (a : Addr) (s : Int) (w : World) (hc : w.cell? a = some (.int .i64 s)) (hv : verB x = true) :
    Calls Tryz.prog 42 #[.agg #[.int .i64 x.day, .int .i64 x.told, .int .i64 x.seen], .pointer (some a)] w fun e w' => e = .returned (.bool (seenV s x)) ∧ Below w.heap.size w w' := by
  obtain ⟨h1, h2, h3, h4, h5, h6⟩ := verB_parts hv
  have hB := (Below.refl w.heap.size w).alloc (Nat.le_refl _) (.cells #[.int .i64 x.day, .int .i64 x.told, .int .i64 x.seen] 34)
  have hca := (hB.cell (p := a) (block_lt_of_cell hc)).trans hc
  clear hv
  go_enter Tryz.func42, Tryz.ntmps42
  go_wp2
  go_ret
  exact ⟨ret_bool (by rw [Bool.eq_iff_iff]; unfold seenV; simp), hB⟩
set_option maxRecDepth 100000 in
set_option maxHeartbeats 2000000 in
theorem difC_any (x : DVerified) (a : Addr) (s : Int) (w : World) (hc : w.cell? a = some (.int .i64 s)) (hv : verB x = true) :
    Calls Tryz.prog 46 #[.agg #[.int .i64 x.day, .int .i64 x.told, .int .i64 x.seen], .pointer (some a)] w fun e w' => e = .returned (.bool (difB s x)) ∧ Below w.heap.size w w' := by
  obtain ⟨h1, h2, h3, h4, h5, h6⟩ := verB_parts hv
  have hB := (Below.refl w.heap.size w).alloc (Nat.le_refl _) (.cells #[.int .i64 x.day, .int .i64 x.told, .int .i64 x.seen] 34)
  have hca := (hB.cell (p := a) (block_lt_of_cell hc)).trans hc
  clear hv
  have hp := PVerified.box w x 34
  generalize hW : w.alloc (.cells #[.int .i64 x.day, .int .i64 x.told, .int .i64 x.seen] 34) = W at *
  have hb1 : -1000000000000000000 ≤ x.told - x.seen ∧ x.told - x.seen ≤ 1000000000000000000 := by omega
  go_enter Tryz.func46, Tryz.ntmps46
  go_wp2
  clear hW
  obtain ⟨d0, d1, d2⟩ := hp
  have gd1 := cell_regrown d1
  have gd2 := cell_regrown d2
  have ghca := cell_regrown hca
  refine wp_region_mixed [0, 1, 2, 3, 4, 6, 5, 7, 8] (C := fun w' => ∃ p : Regrown, w' = Go.Sort.grow (redrawn W p.d) p.os) [true, true, true, true, true, true, false, true, true] (by kernel_rfl) (by kernel_rfl) (by kernel_rfl) (fun _ _ d _ _ h => by cases d <;> exact h) (regrown_of_below (Below.drew (Below.refl _ _))) ?_
  simp only [List.map_cons, List.map_nil, List.getD_cons_zero, List.getD_cons_succ]
  have hS0 : Below (W.heap.size) W W.drew := Below.drew (Below.refl _ _)
  refine wpMix_pure (by kernel_rfl) (fun K hK => ?_); go_big_quiet_op; refine hK _ ?_; clear hK K
  refine wpMix_pure (by kernel_rfl) (fun K hK => ?_); go_big_quiet_op; refine hK _ ?_; clear hK K
  refine wpMix_pure (by kernel_rfl) (fun K hK => ?_); go_big_quiet_op; refine hK _ ?_; clear hK K
  refine wpMix_pure (by kernel_rfl) (fun K hK => ?_); go_big_quiet_op; refine hK _ ?_; clear hK K
  refine wpMix_pure (by kernel_rfl) (fun K hK => ?_); go_big_quiet_op; refine hK _ ?_; clear hK K
  refine wpMix_pure (by kernel_rfl) (fun K hK => ?_); go_big_quiet_op; refine hK _ ?_; clear hK K
  refine wpMix_act (by kernel_rfl) (fun K hK => ?_)
  go_big_op
  refine (abs_any (x.told - x.seen) _ hb1).mono ?_
  rintro e w' ⟨rfl,  rfl⟩
  refine hK _ _ (regrown_of_below hS0) ?_
  clear hK K
  refine wpMix_pure (by kernel_rfl) (fun K hK => ?_); go_big_quiet_op; refine hK _ ?_; clear hK K
  refine wpMix_pure (by kernel_rfl) (fun K hK => ?_); go_big_quiet_op; refine hK _ ?_; clear hK K
  refine wpMix_nil ?_
  go_wp2
  go_ret
  exact ⟨ret_bool (by unfold difB difV; rfl), hB.trans ((hS0).mono hB.size)⟩
set_option maxRecDepth 100000 in
set_option maxHeartbeats 4000000 in
theorem count_sh_any (v : Value) (L : List DVerified) (fp : List Nat) (a : Addr) (s : Int) (w : World) (hx : Sl fVerified.cod w v L fp) (hc : w.cell? a = some (.int .i64 s)) (hs : -2 ≤ s ∧ s ≤ 2) (hv : ∀ x ∈ L, verB x = true) (hl : L.length ≤ 64) :
    Calls Tryz.prog 38 #[v, .func (.func 39) #[] #[.pointer (some a)]] w fun e w' => e = .returned (.int .i64 (cntB (shB s) L)) ∧ Below w.heap.size w w' := by
  obtain ⟨A, cap, rfl, hlen, hcap⟩ := hx.form
  have hal := block_lt_of_cell hc
  go_enter Tryz.func38, Tryz.ntmps38
  go_wp2
  go_loopw [5, 10] (fun n i wr => ∃ (k : Nat) (c : Int), k ≤ L.length ∧ Hid (cntB (shB s) (L.take k) = c) ∧ 0 ≤ c ∧ c ≤ 64 ∧ n = .int .i64 c ∧ i = .int .i64 k ∧ Below w.heap.size w wr) (fun _ i _ => L.length - (intOf i).toNat)
  case atStart => exact ⟨0, 0, Nat.zero_le _, rfl, Int.le_refl _, by decide, rfl, rfl, Below.refl _ _⟩
  case round =>
    obtain ⟨k, c, hk, HC, g0, g1, rfl, rfl, hb⟩ := hrel
    by_cases hlt : k < L.length
    · obtain ⟨b, off, rfl, hmem, hok, hp⟩ := PVerified.elem (hx.below' hb) hlt
      obtain ⟨c0, c1, c2⟩ := id hp
      have hvk := hv _ (List.getElem_mem hlt)
      cases hq : shB s L[k]
      · have HN := Lib.hid ((cntB_no hlt hq).trans (by rw [HC.out]))
        have g2 : 0 ≤ c ∧ c ≤ 64 := by
          have h1 := cntB_le (shB s) (L.take (k + 1))
          have h2 := List.length_take_le' (k + 1) L
          rw [HN.out] at h1
          omega
        go_wp2_with fail
        refine (shC_any L[k] a s _ (((hb.alloc hb.size _).cell (p := a) hal).trans hc) hs hvk).mono ?_
        rintro e w1 ⟨rfl, hb1⟩
        rw [hq]
        have hb2 := (hb.alloc hb.size _).trans (hb1.mono (hb.alloc hb.size _).size)
        clear hb1 hvk hq
        go_wp2
        go_roundw
        case rel => exact ⟨k + 1, _, by omega, HN, g2.1, g2.2, by go_num, by go_num, hb2⟩
        case measure => simp [intOf]; omega
      · have HN := Lib.hid ((cntB_yes hlt hq).trans (by rw [HC.out]))
        have g2 : 0 ≤ c + 1 ∧ c + 1 ≤ 64 := by
          have h1 := cntB_le (shB s) (L.take (k + 1))
          have h2 := List.length_take_le' (k + 1) L
          rw [HN.out] at h1
          omega
        go_wp2_with fail
        refine (shC_any L[k] a s _ (((hb.alloc hb.size _).cell (p := a) hal).trans hc) hs hvk).mono ?_
        rintro e w1 ⟨rfl, hb1⟩
        rw [hq]
        have hb2 := (hb.alloc hb.size _).trans (hb1.mono (hb.alloc hb.size _).size)
        clear hb1 hvk hq
        go_wp2
        go_roundw
        case rel => exact ⟨k + 1, _, by omega, HN, g2.1, g2.2, by go_num, by go_num, hb2⟩
        case measure => simp [intOf]; omega
    · have HF := Lib.hid ((cntB_full (p := shB s) (by omega)).symm.trans HC.out)
      go_wp2
      go_ret
      exact ⟨ret_int HF.out.symm, hb⟩
set_option maxRecDepth 100000 in
set_option maxHeartbeats 4000000 in
theorem count_hit_any (v : Value) (L : List DVerified) (fp : List Nat) (w : World) (hx : Sl fVerified.cod w v L fp) (hv : ∀ x ∈ L, verB x = true) (hl : L.length ≤ 64) :
    Calls Tryz.prog 38 #[v, .func (.func 40) #[] #[]] w fun e w' => e = .returned (.int .i64 (cntB hitV L)) ∧ Below w.heap.size w w' := by
  obtain ⟨A, cap, rfl, hlen, hcap⟩ := hx.form
  go_enter Tryz.func38, Tryz.ntmps38
  go_wp2
  go_loopw [5, 10] (fun n i wr => ∃ (k : Nat) (c : Int), k ≤ L.length ∧ Hid (cntB hitV (L.take k) = c) ∧ 0 ≤ c ∧ c ≤ 64 ∧ n = .int .i64 c ∧ i = .int .i64 k ∧ Below w.heap.size w wr) (fun _ i _ => L.length - (intOf i).toNat)
  case atStart => exact ⟨0, 0, Nat.zero_le _, rfl, Int.le_refl _, by decide, rfl, rfl, Below.refl _ _⟩
  case round =>
    obtain ⟨k, c, hk, HC, g0, g1, rfl, rfl, hb⟩ := hrel
    by_cases hlt : k < L.length
    · obtain ⟨b, off, rfl, hmem, hok, hp⟩ := PVerified.elem (hx.below' hb) hlt
      obtain ⟨c0, c1, c2⟩ := id hp
      have hvk := hv _ (List.getElem_mem hlt)
      cases hq : hitV L[k]
      · have HN := Lib.hid ((cntB_no hlt hq).trans (by rw [HC.out]))
        have g2 : 0 ≤ c ∧ c ≤ 64 := by
          have h1 := cntB_le hitV (L.take (k + 1))
          have h2 := List.length_take_le' (k + 1) L
          rw [HN.out] at h1
          omega
        go_wp2_with fail
        refine (hitC_any L[k] _ hvk).mono ?_
        rintro e w1 ⟨rfl, hb1⟩
        rw [hq]
        have hb2 := (hb.alloc hb.size _).trans (hb1.mono (hb.alloc hb.size _).size)
        clear hb1 hvk hq
        go_wp2
        go_roundw
        case rel => exact ⟨k + 1, _, by omega, HN, g2.1, g2.2, by go_num, by go_num, hb2⟩
        case measure => simp [intOf]; omega
      · have HN := Lib.hid ((cntB_yes hlt hq).trans (by rw [HC.out]))
        have g2 : 0 ≤ c + 1 ∧ c + 1 ≤ 64 := by
          have h1 := cntB_le hitV (L.take (k + 1))
          have h2 := List.length_take_le' (k + 1) L
          rw [HN.out] at h1
          omega
        go_wp2_with fail
        refine (hitC_any L[k] _ hvk).mono ?_
        rintro e w1 ⟨rfl, hb1⟩
        rw [hq]
        have hb2 := (hb.alloc hb.size _).trans (hb1.mono (hb.alloc hb.size _).size)
        clear hb1 hvk hq
        go_wp2
        go_roundw
        case rel => exact ⟨k + 1, _, by omega, HN, g2.1, g2.2, by go_num, by go_num, hb2⟩
        case measure => simp [intOf]; omega
    · have HF := Lib.hid ((cntB_full (p := hitV) (by omega)).symm.trans HC.out)
      go_wp2
      go_ret
      exact ⟨ret_int HF.out.symm, hb⟩
set_option maxRecDepth 100000 in
set_option maxHeartbeats 4000000 in
theorem count_told_any (v : Value) (L : List DVerified) (fp : List Nat) (a : Addr) (s : Int) (w : World) (hx : Sl fVerified.cod w v L fp) (hc : w.cell? a = some (.int .i64 s)) (hv : ∀ x ∈ L, verB x = true) (hl : L.length ≤ 64) :
    Calls Tryz.prog 38 #[v, .func (.func 41) #[] #[.pointer (some a)]] w fun e w' => e = .returned (.int .i64 (cntB (toldV s) L)) ∧ Below w.heap.size w w' := by
  obtain ⟨A, cap, rfl, hlen, hcap⟩ := hx.form
  have hal := block_lt_of_cell hc
  go_enter Tryz.func38, Tryz.ntmps38
  go_wp2
  go_loopw [5, 10] (fun n i wr => ∃ (k : Nat) (c : Int), k ≤ L.length ∧ Hid (cntB (toldV s) (L.take k) = c) ∧ 0 ≤ c ∧ c ≤ 64 ∧ n = .int .i64 c ∧ i = .int .i64 k ∧ Below w.heap.size w wr) (fun _ i _ => L.length - (intOf i).toNat)
  case atStart => exact ⟨0, 0, Nat.zero_le _, rfl, Int.le_refl _, by decide, rfl, rfl, Below.refl _ _⟩
  case round =>
    obtain ⟨k, c, hk, HC, g0, g1, rfl, rfl, hb⟩ := hrel
    by_cases hlt : k < L.length
    · obtain ⟨b, off, rfl, hmem, hok, hp⟩ := PVerified.elem (hx.below' hb) hlt
      obtain ⟨c0, c1, c2⟩ := id hp
      have hvk := hv _ (List.getElem_mem hlt)
      cases hq : toldV s L[k]
      · have HN := Lib.hid ((cntB_no hlt hq).trans (by rw [HC.out]))
        have g2 : 0 ≤ c ∧ c ≤ 64 := by
          have h1 := cntB_le (toldV s) (L.take (k + 1))
          have h2 := List.length_take_le' (k + 1) L
          rw [HN.out] at h1
          omega
        go_wp2_with fail
        refine (toldC_any L[k] a s _ (((hb.alloc hb.size _).cell (p := a) hal).trans hc) hvk).mono ?_
        rintro e w1 ⟨rfl, hb1⟩
        rw [hq]
        have hb2 := (hb.alloc hb.size _).trans (hb1.mono (hb.alloc hb.size _).size)
        clear hb1 hvk hq
        go_wp2
        go_roundw
        case rel => exact ⟨k + 1, _, by omega, HN, g2.1, g2.2, by go_num, by go_num, hb2⟩
        case measure => simp [intOf]; omega
      · have HN := Lib.hid ((cntB_yes hlt hq).trans (by rw [HC.out]))
        have g2 : 0 ≤ c + 1 ∧ c + 1 ≤ 64 := by
          have h1 := cntB_le (toldV s) (L.take (k + 1))
          have h2 := List.length_take_le' (k + 1) L
          rw [HN.out] at h1
          omega
        go_wp2_with fail
        refine (toldC_any L[k] a s _ (((hb.alloc hb.size _).cell (p := a) hal).trans hc) hvk).mono ?_
        rintro e w1 ⟨rfl, hb1⟩
        rw [hq]
        have hb2 := (hb.alloc hb.size _).trans (hb1.mono (hb.alloc hb.size _).size)
        clear hb1 hvk hq
        go_wp2
        go_roundw
        case rel => exact ⟨k + 1, _, by omega, HN, g2.1, g2.2, by go_num, by go_num, hb2⟩
        case measure => simp [intOf]; omega
    · have HF := Lib.hid ((cntB_full (p := toldV s) (by omega)).symm.trans HC.out)
      go_wp2
      go_ret
      exact ⟨ret_int HF.out.symm, hb⟩
set_option maxRecDepth 100000 in
set_option maxHeartbeats 4000000 in
theorem count_seen_any (v : Value) (L : List DVerified) (fp : List Nat) (a : Addr) (s : Int) (w : World) (hx : Sl fVerified.cod w v L fp) (hc : w.cell? a = some (.int .i64 s)) (hv : ∀ x ∈ L, verB x = true) (hl : L.length ≤ 64) :
    Calls Tryz.prog 38 #[v, .func (.func 42) #[] #[.pointer (some a)]] w fun e w' => e = .returned (.int .i64 (cntB (seenV s) L)) ∧ Below w.heap.size w w' := by
  obtain ⟨A, cap, rfl, hlen, hcap⟩ := hx.form
  have hal := block_lt_of_cell hc
  go_enter Tryz.func38, Tryz.ntmps38
  go_wp2
  go_loopw [5, 10] (fun n i wr => ∃ (k : Nat) (c : Int), k ≤ L.length ∧ Hid (cntB (seenV s) (L.take k) = c) ∧ 0 ≤ c ∧ c ≤ 64 ∧ n = .int .i64 c ∧ i = .int .i64 k ∧ Below w.heap.size w wr) (fun _ i _ => L.length - (intOf i).toNat)
  case atStart => exact ⟨0, 0, Nat.zero_le _, rfl, Int.le_refl _, by decide, rfl, rfl, Below.refl _ _⟩
  case round =>
    obtain ⟨k, c, hk, HC, g0, g1, rfl, rfl, hb⟩ := hrel
    by_cases hlt : k < L.length
    · obtain ⟨b, off, rfl, hmem, hok, hp⟩ := PVerified.elem (hx.below' hb) hlt
      obtain ⟨c0, c1, c2⟩ := id hp
      have hvk := hv _ (List.getElem_mem hlt)
      cases hq : seenV s L[k]
      · have HN := Lib.hid ((cntB_no hlt hq).trans (by rw [HC.out]))
        have g2 : 0 ≤ c ∧ c ≤ 64 := by
          have h1 := cntB_le (seenV s) (L.take (k + 1))
          have h2 := List.length_take_le' (k + 1) L
          rw [HN.out] at h1
          omega
        go_wp2_with fail
        refine (seenC_any L[k] a s _ (((hb.alloc hb.size _).cell (p := a) hal).trans hc) hvk).mono ?_
        rintro e w1 ⟨rfl, hb1⟩
        rw [hq]
        have hb2 := (hb.alloc hb.size _).trans (hb1.mono (hb.alloc hb.size _).size)
        clear hb1 hvk hq
        go_wp2
        go_roundw
        case rel => exact ⟨k + 1, _, by omega, HN, g2.1, g2.2, by go_num, by go_num, hb2⟩
        case measure => simp [intOf]; omega
      · have HN := Lib.hid ((cntB_yes hlt hq).trans (by rw [HC.out]))
        have g2 : 0 ≤ c + 1 ∧ c + 1 ≤ 64 := by
          have h1 := cntB_le (seenV s) (L.take (k + 1))
          have h2 := List.length_take_le' (k + 1) L
          rw [HN.out] at h1
          omega
        go_wp2_with fail
        refine (seenC_any L[k] a s _ (((hb.alloc hb.size _).cell (p := a) hal).trans hc) hvk).mono ?_
        rintro e w1 ⟨rfl, hb1⟩
        rw [hq]
        have hb2 := (hb.alloc hb.size _).trans (hb1.mono (hb.alloc hb.size _).size)
        clear hb1 hvk hq
        go_wp2
        go_roundw
        case rel => exact ⟨k + 1, _, by omega, HN, g2.1, g2.2, by go_num, by go_num, hb2⟩
        case measure => simp [intOf]; omega
    · have HF := Lib.hid ((cntB_full (p := seenV s) (by omega)).symm.trans HC.out)
      go_wp2
      go_ret
      exact ⟨ret_int HF.out.symm, hb⟩
def biasC (L : List DVerified) : Int := if versB L = false then 1 else if L.length = 0 then 3 else 0
def biasR (L : List DVerified) : Int := if biasC L = 0 then biasV L else 0
theorem biasR_bad {L : List DVerified} (h : ¬ biasC L = 0) : biasR L = 0 := by unfold biasR; rw [if_neg h]
theorem biasR_ok {L : List DVerified} (h : biasC L = 0) : biasR L = biasV L := by unfold biasR; rw [if_pos h]
set_option maxRecDepth 100000 in
set_option maxHeartbeats 4000000 in
theorem BiasOf_any (v : Value) (L : List DVerified) (fp : List Nat) (w : World) (hx : Sl fVerified.cod w v L fp) :
    Calls Tryz.prog 14 #[v] w fun e w' => e = .returned (.tuple #[.int .i64 (biasR L), .int .i64 (biasC L)]) ∧ Below w.heap.size w w' := by
  obtain ⟨A, cap, rfl, hlen, hcap⟩ := hx.form
  go_enter Tryz.func14, Tryz.ntmps14
  go_wp2_with fail
  refine (ValidVerified_any _ L fp _ hx).mono ?_
  rintro e w1 ⟨rfl, hb1⟩
  cases hv : versB L
  · have HC := Lib.hid (show biasC L = 1 by unfold biasC; rw [hv]; rfl)
    clear hv
    go_wp2
    go_ret2
    exact ⟨ret_ii (biasR_bad (by rw [HC.out]; decide)).symm HC.out.symm, hb1⟩
  have hx1 := hx.below' hb1
  have hl := versB_len hv
  have hva := vers_one hv
  by_cases h0 : L.length = 0
  · have HC := Lib.hid (show biasC L = 3 by unfold biasC; rw [hv, if_pos h0]; rfl)
    have e0 : ((L.length : Int) == 0) = true := by rw [h0]; rfl
    clear hv h0
    go_wp2
    go_ret2
    exact ⟨ret_ii (biasR_bad (by rw [HC.out]; decide)).symm HC.out.symm, hb1⟩
  have HC := Lib.hid (show biasC L = 0 by unfold biasC; rw [hv, if_neg h0]; rfl)
  have e0 : ((L.length : Int) == 0) = false := by rw [beq_eq_false_iff_ne]; omega
  clear hv
  go_wp2
  go_loopw [4, 17] (fun n i wr => ∃ (k : Nat) (c : Int), k ≤ L.length ∧ Hid (biasS L k = c) ∧ -400 ≤ c ∧ c ≤ 400 ∧ n = .int .i64 c ∧ i = .int .i64 k ∧ Below w1.heap.size w1 wr) (fun _ i _ => L.length - (intOf i).toNat)
  case atStart => exact ⟨0, 0, Nat.zero_le _, rfl, by decide, by decide, rfl, rfl, Below.refl _ _⟩
  case round =>
    obtain ⟨k, c, hk, HB, g0, g1, rfl, rfl, hb⟩ := hrel
    by_cases hlt : k < L.length
    · obtain ⟨b, off, rfl, hmem, hok, hp⟩ := PVerified.elem (hx1.below' hb) hlt
      obtain ⟨c0, c1, c2⟩ := id hp
      have HN := Lib.hid ((biasS_succ hlt).trans (by rw [HB.out]))
      have hbb := biasS_bounds hva (k + 1)
      rw [HN.out] at hbb
      obtain ⟨q1, q2, q3, q4, _⟩ := verB_parts (hva _ (List.getElem_mem hlt))
      have hb2 := fun X => hb.alloc hb.size X
      have hbb2 : -400 ≤ c + (L[k].told - L[k].seen) ∧ c + (L[k].told - L[k].seen) ≤ 400 := by omega
      clear hbb
      go_wp2
      go_roundw
      case rel => exact ⟨k + 1, _, by omega, HN, hbb2.1, hbb2.2, by go_num, by go_num, hb2 _⟩
      case measure => simp [intOf]; omega
    · have hkl : k = L.length := by omega
      subst hkl
      have hpos : (0 : Int) < L.length := by omega
      have HV := Lib.hid (show biasV L = drF (100 * c) L.length by unfold biasV; rw [HB.out])
      clear HB h0
      go_wp2_with fail
      refine (divRound_any (100 * c) L.length _ (by omega) (by omega)).mono ?_
      rintro e w2 ⟨rfl, hb2⟩
      go_wp2
      go_ret2
      exact ⟨ret_ii ((biasR_ok HC.out).trans HV.out).symm HC.out.symm, hb1.trans ((hb.trans (hb2.mono hb.size)).mono hb1.size)⟩
theorem skillV_bad {L : List DVerified} (h : ¬ skillC L = 0) : skillV L = 0 := by unfold skillV; rw [if_neg h]
theorem mul_64 {a b : Int} (h1 : 0 ≤ a) (h2 : a ≤ 64) (h3 : 0 ≤ b) (h4 : b ≤ 64) : 0 ≤ a * b ∧ a * b ≤ 4096 := by
  have h5 := Int.mul_nonneg h1 h3
  have h6 : a * b ≤ 64 * 64 := Int.mul_le_mul h2 h4 h3 (by decide)
  omega
set_option maxRecDepth 100000 in
set_option maxHeartbeats 8000000 in
theorem SkillOf_any (v : Value) (L : List DVerified) (fp : List Nat) (w : World) (hx : Sl fVerified.cod w v L fp) :
    Calls Tryz.prog 8 #[v] w fun e w' => e = .returned (.tuple #[.int .i64 (skillV L), .int .i64 (skillC L)]) ∧ Below w.heap.size w w' := by
  obtain ⟨A, cap, rfl, hlen, hcap⟩ := hx.form
  have hmf : ∀ (fn : Fn) (first cap : Array Value) (W : World), (Instr.makeFunc fn first cap).run Tryz.prog W = .ok (.func fn first cap) W := fun _ _ _ _ => rfl
  go_enter Tryz.func8, Tryz.ntmps8
  go_wp2_with fail
  refine (ValidVerified_any _ L fp _ hx).mono ?_
  rintro e w1 ⟨rfl, hb1⟩
  cases hv : versB L
  · have HC := Lib.hid (show skillC L = 1 by unfold skillC; rw [hv]; rfl)
    clear hv
    go_wp2
    go_ret2
    exact ⟨ret_ii (skillV_bad (by rw [HC.out]; decide)).symm HC.out.symm, hb1⟩
  have hx1 := hx.below' hb1
  have hl := versB_len hv
  have hva := vers_one hv
  by_cases h0 : L.length = 0
  · have HC := Lib.hid (show skillC L = 3 by unfold skillC; rw [hv, if_pos h0]; rfl)
    have e0 : ((L.length : Int) == 0) = true := by rw [h0]; rfl
    clear hv h0
    go_wp2
    go_ret2
    exact ⟨ret_ii (skillV_bad (by rw [HC.out]; decide)).symm HC.out.symm, hb1⟩
  have e0 : ((L.length : Int) == 0) = false := by rw [beq_eq_false_iff_ne]; omega
  have HV := Lib.hid hv
  clear hv
  go_wp2_with fail
  refine (count_hit_any _ L fp _ hx1 hva hl).mono ?_
  rintro e w2 ⟨rfl, hb2⟩
  have hH0 := cntB_nonneg hitV L
  have hH1 := cntB_le hitV L
  have HH := Lib.hid (rfl : cntB hitV L = cntB hitV L)
  obtain ⟨H, hH⟩ : ∃ H, cntB hitV L = H := ⟨_, rfl⟩
  rw [hH] at hH0 hH1 ⊢
  clear HH
  have hH := Lib.hid hH
  have hx2 := hx1.below' hb2
  go_wp2
  go_loopw [5, 7] (fun n p wr => ∃ (k : Nat) (c : Int) (a : Addr), k ≤ 5 ∧ Hid (expF L k = c) ∧ 0 ≤ c ∧ c ≤ 4096 ∧ n = .int .i64 c ∧ p = .pointer (some a) ∧ wr.cell? a = some (.int .i64 ((k : Int) + 1)) ∧ Below w2.heap.size w2 wr) (fun n p wr => 6 - (match p with | .pointer (some a) => (match wr.cell? a with | some (.int .i64 m) => m.toNat | _ => 0) | _ => 0))
  case atStart => exact ⟨0, 0, ⟨w2.heap.size, 0, none⟩, by decide, rfl, by decide, by decide, rfl, rfl, by simp, (Below.refl _ _).alloc (Nat.le_refl _) _⟩
  case round =>
    obtain ⟨k, c, a, hk, HE, g0, g1, rfl, rfl, hca, hb⟩ := hrel
    have hx3 := hx2.below' hb
    by_cases hlt : k < 5
    · have hk1 : (k : Int) + 1 ≤ 5 := by omega
      go_wp2_with fail
      refine (count_told_any _ L fp a ((k : Int) + 1) _ hx3 hca hva hl).mono ?_
      rintro e w3 ⟨rfl, hb3⟩
      have hal := block_lt_of_cell hca
      have hx4 := hx3.below' hb3
      have hca3 := (hb3.cell (p := a) hal).trans hca
      have hca0 := hca
      have hb4 := hb.trans (hb3.mono hb.size)
      clear hca hx3 hb hb3
      go_wp2_with fail
      refine (count_seen_any _ L fp a ((k : Int) + 1) _ hx4 hca3 hva hl).mono ?_
      rintro e w4 ⟨rfl, hb5⟩
      have hca4 := (hb5.cell (p := a) (block_lt_of_cell hca3)).trans hca3
      have hb6 := hb4.trans (hb5.mono hb4.size)
      have HN : Hid (expF L (k + 1) = c + cntB (toldV ((k : Int) + 1)) L * cntB (seenV ((k : Int) + 1)) L) := by show expF L k + _ = _; rw [HE.out]
      have hle := expF_le L (k + 1)
      have hsq := sq_le (n := (L.length : Int)) (by omega) (by omega)
      have hm := mul_64 (cntB_nonneg (toldV ((k : Int) + 1)) L) (Int.le_trans (cntB_le _ L) (by omega)) (cntB_nonneg (seenV ((k : Int) + 1)) L) (Int.le_trans (cntB_le _ L) (by omega))
      rw [HN.out] at hle
      generalize cntB (toldV ((k : Int) + 1)) L = t at *
      generalize cntB (seenV ((k : Int) + 1)) L = s at *
      clear hca3 hx4 hb4 hb5
      have hle2 : 0 ≤ c + t * s ∧ c + t * s ≤ 4096 := by omega
      clear hle hsq
      go_wp2
      go_roundw
      case rel => exact ⟨k + 1, _, ⟨w4.heap.size, 0, none⟩, by omega, HN, hle2.1, hle2.2, by go_num, rfl, by simp, hb6.alloc hb6.size _⟩
      case measure => simp [hca0]; omega
    · obtain rfl : k = 5 := by omega
      have hsq := sq_le (n := (L.length : Int)) (by omega) (by omega)
      by_cases heq : (L.length : Int) * L.length = c
      · have HC := Lib.hid (show skillC L = 6 by unfold skillC; rw [HV.out, if_neg (by decide), if_neg h0, if_pos (by rw [HE.out]; exact heq)])
        have eq1 : ((L.length : Int) * L.length == c) = true := by rw [beq_iff_eq]; exact heq
        clear heq h0
        go_wp2
        go_ret2
        exact ⟨ret_ii (skillV_bad (by rw [HC.out]; decide)).symm HC.out.symm, hb1.trans ((hb2.trans (hb.mono hb2.size)).mono hb1.size)⟩
      · have HC := Lib.hid (show skillC L = 0 by unfold skillC; rw [HV.out, if_neg (by decide), if_neg h0, if_neg (by rw [HE.out]; exact heq)])
        have HS := Lib.hid (show skillV L = drF (1000 * (L.length * H - c)) (L.length * L.length - c) by unfold skillV; rw [if_pos HC.out, hH.out, HE.out])
        have eq1 : ((L.length : Int) * L.length == c) = false := by rw [beq_eq_false_iff_ne]; exact heq
        have hle := (expF_le L 5).2
        rw [HE.out] at hle
        have hpos : 0 < (L.length : Int) * L.length - c := by omega
        have hm := mul_64 (show (0 : Int) ≤ L.length by omega) (by omega) hH0 (by omega)
        clear heq h0 hle
        go_wp2_with fail
        refine (divRound_any (1000 * ((L.length : Int) * H - c)) ((L.length : Int) * L.length - c) _ (by omega) (by omega)).mono ?_
        rintro e w5 ⟨rfl, hb5⟩
        go_wp2
        go_ret2
        exact ⟨ret_ii HS.out.symm HC.out.symm, hb1.trans ((hb2.trans ((hb.trans (hb5.mono hb.size)).mono hb2.size)).mono hb1.size)⟩
def shAt (k : Nat) : Int := ([0, -1, 1, -2, 2] : List Int).getD k 0
theorem shAt_in (k : Nat) : -2 ≤ shAt k ∧ shAt k ≤ 2 := by
  unfold shAt
  match k with
  | 0 => decide
  | 1 => decide
  | 2 => decide
  | 3 => decide
  | 4 => decide
  | k + 5 => exact ⟨by simp, by simp⟩
theorem shTab0 (W : World) : (Instr.index 72 (.agg #[.int .i64 0, .int .i64 (-1), .int .i64 1, .int .i64 (-2), .int .i64 2]) (.int .i64 0)).run Tryz.prog W = .ok (.int .i64 (0)) W := by kernel_rfl
theorem shTab1 (W : World) : (Instr.index 72 (.agg #[.int .i64 0, .int .i64 (-1), .int .i64 1, .int .i64 (-2), .int .i64 2]) (.int .i64 1)).run Tryz.prog W = .ok (.int .i64 (-1)) W := by kernel_rfl
theorem shTab2 (W : World) : (Instr.index 72 (.agg #[.int .i64 0, .int .i64 (-1), .int .i64 1, .int .i64 (-2), .int .i64 2]) (.int .i64 2)).run Tryz.prog W = .ok (.int .i64 (1)) W := by kernel_rfl
theorem shTab3 (W : World) : (Instr.index 72 (.agg #[.int .i64 0, .int .i64 (-1), .int .i64 1, .int .i64 (-2), .int .i64 2]) (.int .i64 3)).run Tryz.prog W = .ok (.int .i64 (-2)) W := by kernel_rfl
theorem shTab4 (W : World) : (Instr.index 72 (.agg #[.int .i64 0, .int .i64 (-1), .int .i64 1, .int .i64 (-2), .int .i64 2]) (.int .i64 4)).run Tryz.prog W = .ok (.int .i64 (2)) W := by kernel_rfl
theorem shTab (k : Nat) (h : k < 5) (W : World) : (Instr.index 72 (.agg #[.int .i64 0, .int .i64 (-1), .int .i64 1, .int .i64 (-2), .int .i64 2]) (.int .i64 k)).run Tryz.prog W = .ok (.int .i64 (shAt k)) W := by
  match k, h with
  | 0, _ => exact shTab0 W
  | 1, _ => exact shTab1 W
  | 2, _ => exact shTab2 W
  | 3, _ => exact shTab3 W
  | 4, _ => exact shTab4 W
def bsN (L : List DVerified) (k : Nat) : Int × Int := (([0, -1, 1, -2, 2] : List Int).take k).foldl (bsStep L) (0, -1)
theorem bsN_succ (L : List DVerified) (k : Nat) (h : k < 5) : bsN L (k + 1) = bsStep L (bsN L k) (shAt k) := by
  match k, h with
  | 0, _ => rfl
  | 1, _ => rfl
  | 2, _ => rfl
  | 3, _ => rfl
  | 4, _ => rfl
def bestC (L : List DVerified) : Int := if versB L then 0 else 1
def bestP (L : List DVerified) : Int := if versB L then (bsF L).1 else 0
def bestH (L : List DVerified) : Int := if versB L then (bsF L).2 else 0
set_option maxRecDepth 100000 in
set_option maxHeartbeats 8000000 in
theorem BestShift_any (v : Value) (L : List DVerified) (fp : List Nat) (w : World) (hx : Sl fVerified.cod w v L fp) :
    Calls Tryz.prog 7 #[v] w fun e w' => e = .returned (.tuple #[.int .i64 (bestP L), .int .i64 (bestH L), .int .i64 (bestC L)]) ∧ Below w.heap.size w w' := by
  obtain ⟨A, cap, rfl, hlen, hcap⟩ := hx.form
  have hmf : ∀ (fn : Fn) (first cap : Array Value) (W : World), (Instr.makeFunc fn first cap).run Tryz.prog W = .ok (.func fn first cap) W := fun _ _ _ _ => rfl
  go_enter Tryz.func7, Tryz.ntmps7
  go_wp2_with fail
  refine (ValidVerified_any _ L fp _ hx).mono ?_
  rintro e w1 ⟨rfl, hb1⟩
  have HP : Hid (bestP L = if versB L then (bsF L).1 else 0) := rfl
  have HQ : Hid (bestH L = if versB L then (bsF L).2 else 0) := rfl
  have HR : Hid (bestC L = if versB L then 0 else 1) := rfl
  cases hv : versB L
  · have HP2 := Lib.hid (HP.out.trans (by rw [hv]; rfl : _ = (0 : Int)))
    have HQ2 := Lib.hid (HQ.out.trans (by rw [hv]; rfl : _ = (0 : Int)))
    have HR2 := Lib.hid (HR.out.trans (by rw [hv]; rfl : _ = (1 : Int)))
    clear hv
    go_wp2
    go_ret3
    exact ⟨ret_iii HP2.out.symm HQ2.out.symm HR2.out.symm, hb1⟩
  have HP2 := Lib.hid (HP.out.trans (by rw [hv]; rfl : _ = (bsF L).1))
  have HQ2 := Lib.hid (HQ.out.trans (by rw [hv]; rfl : _ = (bsF L).2))
  have HR2 := Lib.hid (HR.out.trans (by rw [hv]; rfl : _ = (0 : Int)))
  clear HP HQ HR
  have hx1 := hx.below' hb1
  have hl := versB_len hv
  have hva := vers_one hv
  clear hv
  go_wp2
  go_loopw [5, 6, 14] (fun b m i wr => ∃ (k : Nat) (p q : Int), k ≤ 5 ∧ Hid (bsN L k = (p, q)) ∧ -2 ≤ p ∧ p ≤ 2 ∧ -1 ≤ q ∧ q ≤ 64 ∧ b = .int .i64 p ∧ m = .int .i64 q ∧ i = .int .i64 k ∧ Below w1.heap.size w1 wr) (fun _ _ i _ => 5 - (intOf i).toNat)
  case atStart => exact ⟨0, 0, -1, by decide, rfl, by decide, by decide, by decide, by decide, rfl, rfl, rfl, Below.refl _ _⟩
  case round =>
    obtain ⟨k, p, q, hk, HB, p0, p1, q0, q1, rfl, rfl, rfl, hb⟩ := hrel
    by_cases hlt : k < 5
    · have hix := shTab k hlt
      obtain ⟨s0, s1⟩ := shAt_in k
      have HN : Hid (bsN L (k + 1) = bsStep L (p, q) (shAt k)) := by show _ = _; rw [bsN_succ L k hlt, HB.out]
      have hlt5 : (k : Int) < 5 := by omega
      generalize shAt k = s at *
      have hb2 := hb.alloc hb.size (.cells #[.int .i64 s] 2)
      have hx2 := (hx1.below' hb).below' ((Below.refl wr.heap.size wr).alloc (Nat.le_refl _) (.cells #[.int .i64 s] 2))
      have hc : (wr.alloc (.cells #[.int .i64 s] 2)).cell? ⟨wr.heap.size, 0, none⟩ = some (.int .i64 s) := by simp
      go_wp2_with fail
      refine (count_sh_any _ L fp ⟨wr.heap.size, 0, none⟩ s _ hx2 hc ⟨s0, s1⟩ hva hl).mono ?_
      rintro e w2 ⟨rfl, hb3⟩
      have hc2 := (hb3.cell (p := ⟨wr.heap.size, 0, none⟩) (by simp)).trans hc
      have hb4 := hb2.trans (hb3.mono hb2.size)
      have g0 := cntB_nonneg (shB s) L
      have g1 := cntB_le (shB s) L
      have HN2 : Hid (bsN L (k + 1) = if q < cntB (shB s) L then (s, cntB (shB s) L) else (p, q)) := by show _ = _; rw [HN.out]; rfl
      clear hb2 hx2 hc hb3 hb HN hix
      generalize cntB (shB s) L = c at *
      have hc64 : c ≤ 64 := by omega
      clear g1
      by_cases hq : q < c
      · have HN3 : Hid (bsN L (k + 1) = (s, c)) := by show _ = _; rw [HN2.out, if_pos hq]
        go_wp2
        go_roundw
        case rel => exact ⟨k + 1, _, _, by omega, HN3, s0, s1, by omega, hc64, rfl, rfl, by go_num, hb4⟩
        case measure => simp [intOf]; omega
      · have HN3 : Hid (bsN L (k + 1) = (p, q)) := by show _ = _; rw [HN2.out, if_neg hq]
        go_wp2
        go_roundw
        case rel => exact ⟨k + 1, _, _, by omega, HN3, p0, p1, q0, q1, rfl, rfl, by go_num, hb4⟩
        case measure => simp [intOf]; omega
    · obtain rfl : k = 5 := by omega
      have HF : Hid (bsF L = (p, q)) := HB.out
      go_wp2
      go_ret3
      exact ⟨ret_iii (HP2.out.trans (by rw [HF.out])).symm (HQ2.out.trans (by rw [HF.out])).symm HR2.out.symm, hb1.trans (hb.mono hb1.size)⟩
theorem infoInt64K : (Tryz.prog.info? 2).map (fun i => (i.zero, i.size, i.bytes)) = some (some (.int .i64 0), 1, 8) := by kernel_rfl
set_option maxRecDepth 100000 in
set_option maxHeartbeats 8000000 in
theorem daysDif_any (v : Value) (L : List DVerified) (fp : List Nat) (a : Addr) (s : Int) (w : World) (hx : Sl fVerified.cod w v L fp) (hc : w.cell? a = some (.int .i64 s)) (hv : versB L = true) :
    Calls Tryz.prog 45 #[v, .int .i64 1, .func (.func 46) #[] #[.pointer (some a)]] w fun e w' => ∃ v', e = .returned (.tuple #[v', .int .i64 0]) ∧ New fInt.cod w v' ((L.filter (difB s)).map (·.day)) w' := by
  obtain ⟨A, cap, rfl, hlen, hcap⟩ := hx.form
  obtain ⟨i0, hi, hz0, hz1, hz2⟩ := info_parts infoInt64K
  have hal := block_lt_of_cell hc
  go_enter Tryz.func45, Tryz.ntmps45
  go_wp2_with fail
  refine (ValidVerified_any _ L fp _ hx).mono ?_
  rintro e w1 ⟨rfl, hb1⟩
  rw [hv]
  have hx1 := hx.below' hb1
  have hl := versB_len hv
  have hva := vers_one hv
  have hc1 := (hb1.cell (p := a) hal).trans hc
  have hal1 := block_lt_of_cell hc1
  clear hv hx hc
  go_wp2_with fail
  refine (levelOkR_any _ _).mono ?_
  rintro e w' ⟨rfl, rfl⟩
  rw [show inB 1 1 5 = true from rfl]
  go_wp2
  go_loopw [8, 21] (fun v i wr => ∃ k : Nat, k ≤ L.length ∧ i = .int .i64 k ∧ Own fInt wr w1.heap.size 2 v (keptL (difB s) (·.day) L k) ∧ Below w1.heap.size w1 wr) (fun _ i _ => L.length - (intOf i).toNat)
  case atStart => exact ⟨0, Nat.zero_le _, rfl, Own.nil _ _ _ _, Below.refl _ _⟩
  case round =>
    obtain ⟨k, hk, rfl, ho, hb⟩ := hrel
    have hkl := keptL_len (p := difB s) (f := fun x : DVerified => x.day) (xs := L) (k := k)
    by_cases hlt : k < L.length
    · obtain ⟨b, off, rfl, hmem, hok, hp⟩ := PVerified.elem (hx1.below' hb) hlt
      obtain ⟨c0, c1, c2⟩ := id hp
      have hvk := hva _ (List.getElem_mem hlt)
      have hB := hb.alloc hb.size (.cells #[.int .i64 L[k].day, .int .i64 L[k].told, .int .i64 L[k].seen] 34)
      have hpb := PVerified.box wr L[k] 34
      have hcw := (hB.cell (p := a) hal1).trans hc1
      have ho2 := ho.below ((Below.refl wr.heap.size wr).alloc (Nat.le_refl _) (.cells #[.int .i64 L[k].day, .int .i64 L[k].told, .int .i64 L[k].seen] 34))
      clear hp
      go_wp2_with fail
      refine (difC_any L[k] a s _ hcw hvk).mono ?_
      rintro e w3 ⟨rfl, hb3⟩
      have hb4 := hB.trans (hb3.mono hB.size)
      have ho3 := ho2.below hb3
      replace hpb := hpb.below' hb3
      clear hB hb3 ho2 ho hcw hvk c0 c1 c2
      cases hq : difB s L[k]
      · have hkn := Lib.hid (keptL_no (f := fun x : DVerified => x.day) hlt hq)
        clear hq
        go_wp2
        go_roundw
        case rel => exact ⟨k + 1, by omega, by go_num, by rw [hkn.out]; exact ho3, hb4⟩
        case measure => simp [intOf]; omega
      · have hkn := Lib.hid (keptL_yes (f := fun x : DVerified => x.day) hlt hq)
        obtain ⟨d0, d1, d2⟩ := hpb
        have hs2 := hb4.size
        have hoW : w3.ownsRow w1.heap.size 2 1 u8 (keptL (difB s) (fun x : DVerified => x.day) L k).length ((keptL (difB s) (fun x : DVerified => x.day) L k).flatMap fInt.enc) := ho3
        clear hq ho3
        go_wp2_with (at_builtin; refine wpList_append_one rfl _ _ 30 rfl w1.heap.size 2 i0 (.int .i64 0) 1 8 Tryz.underlying30 hi hz0 hz1 hz2 rfl (by decide) u8 (keptL (difB s) (fun x : DVerified => x.day) L k).length _ rfl hoW [.int .i64 L[k].day] rfl (by intro u hu; rw [List.mem_singleton] at hu; subst hu; rfl) rfl (by omega) (by decide) hs2 ?_)
        intro v' u hown hbu _ _
        have hoD : Own fInt u w1.heap.size 2 v' (keptL (difB s) (fun x : DVerified => x.day) L k ++ [L[k].day]) := Own.push _ (by simp) hown
        rw [← hkn.out] at hoD
        clear hown
        have hb5 := hb4.trans hbu
        go_wp2
        go_roundw
        case rel => exact ⟨k + 1, by omega, by go_num, hoD, hb5⟩
        case measure => simp [intOf]; omega
    · have hkf := keptL_full (p := difB s) (f := fun x : DVerified => x.day) (xs := L) (k := k) (by omega)
      rw [hkf] at ho
      have hn := (Own.new ho hb (fun x hx => by
        obtain ⟨y, hy, rfl⟩ := List.mem_map.1 hx
        have := verB_parts (hva _ ((List.mem_filter.1 hy).1))
        show _ ∧ _; omega)).later hb1
      obtain ⟨A2, c2, hv2⟩ := ho.form
      clear ho hkf hkl
      go_wp2
      go_ret2
      exact ⟨_, rfl, hn⟩
def worstM (L : List DVerified) : Int := if biasC L = 0 then wmF L L.length else 0
def worstD (L : List DVerified) : List Int := if biasC L = 0 then worstF L else []
theorem worst_bad {L : List DVerified} (h : ¬ biasC L = 0) : worstM L = 0 ∧ worstD L = [] := by unfold worstM worstD; rw [if_neg h, if_neg h]; exact ⟨rfl, rfl⟩
theorem worst_ok {L : List DVerified} (h : biasC L = 0) : worstM L = wmF L L.length ∧ worstD L = worstF L := by unfold worstM worstD; rw [if_pos h, if_pos h]; exact ⟨rfl, rfl⟩
set_option maxRecDepth 100000 in
set_option maxHeartbeats 8000000 in
theorem WorstDays_any (v : Value) (L : List DVerified) (fp : List Nat) (w : World) (hx : Sl fVerified.cod w v L fp) :
    Calls Tryz.prog 9 #[v] w fun e w' => ∃ v', e = .returned (.tuple #[v', .int .i64 (worstM L), .int .i64 (biasC L)]) ∧ New fInt.cod w v' (worstD L) w' := by
  obtain ⟨A, cap, rfl, hlen, hcap⟩ := hx.form
  have hmf : ∀ (fn : Fn) (first cap : Array Value) (W : World), (Instr.makeFunc fn first cap).run Tryz.prog W = .ok (.func fn first cap) W := fun _ _ _ _ => rfl
  go_enter Tryz.func9, Tryz.ntmps9
  go_wp2_with fail
  refine (ValidVerified_any _ L fp _ hx).mono ?_
  rintro e w1 ⟨rfl, hb1⟩
  cases hv : versB L
  · have HC := Lib.hid (show biasC L = 1 by unfold biasC; rw [hv]; rfl)
    clear hv
    go_wp2
    go_ret3
    exact ⟨_, ret_vii (worst_bad (by rw [HC.out]; decide)).1.symm HC.out.symm, by rw [(worst_bad (L := L) (by rw [HC.out]; decide)).2]; exact New.nil hb1⟩
  have hx1 := hx.below' hb1
  have hl := versB_len hv
  have hva := vers_one hv
  by_cases h0 : L.length = 0
  · have HC := Lib.hid (show biasC L = 3 by unfold biasC; rw [hv, if_pos h0]; rfl)
    have e0 : ((L.length : Int) == 0) = true := by rw [h0]; rfl
    clear hv h0
    go_wp2
    go_ret3
    exact ⟨_, ret_vii (worst_bad (by rw [HC.out]; decide)).1.symm HC.out.symm, by rw [(worst_bad (L := L) (by rw [HC.out]; decide)).2]; exact New.nil hb1⟩
  have HC := Lib.hid (show biasC L = 0 by unfold biasC; rw [hv, if_neg h0]; rfl)
  have e0 : ((L.length : Int) == 0) = false := by rw [beq_eq_false_iff_ne]; omega
  have HV := Lib.hid hv
  clear hv
  go_wp2
  go_loopw [20] (fun i wr => ∃ (k : Nat) (c : Int), k ≤ L.length ∧ Hid (wmF L k = c) ∧ i = .int .i64 k ∧ wr.cell? ⟨w1.heap.size, 0, none⟩ = some (.int .i64 c) ∧ wr.frozen? ⟨w1.heap.size, 0, none⟩ = false ∧ Below w1.heap.size w1 wr) (fun i _ => L.length - (intOf i).toNat)
  case atStart => exact ⟨0, 0, Nat.zero_le _, rfl, rfl, by simp, by simp, (by repeat (first | exact Below.refl _ _ | assumption | refine Below.alloc ?_ (by first | omega | (simp <;> omega)) _ | refine Below.setCell ?_ (by first | (show _ ≤ _; omega) | (simp <;> omega)) _ | refine Below.drew ?_ | refine below_drewN ?_ _))⟩
  case round =>
    obtain ⟨k, c, hk, HW, rfl, hcc, hzz, hb⟩ := hrel
    by_cases hlt : k < L.length
    · obtain ⟨b, off, rfl, hmem, hok, hp⟩ := PVerified.elem (hx1.below' hb) hlt
      obtain ⟨c0, c1, c2⟩ := id hp
      obtain ⟨q1, q2, q3, q4, _⟩ := verB_parts (hva _ (List.getElem_mem hlt))
      have HN := Lib.hid ((wmF_succ hlt).trans (by rw [HW.out]))
      have hwb := wmF_bounds hva k
      rw [HW.out] at hwb
      have hdb := difV_bounds (hva _ (List.getElem_mem hlt))
      have hB := (Below.refl wr.heap.size wr).alloc (Nat.le_refl _) (.cells #[.int .i64 L[k].day, .int .i64 L[k].told, .int .i64 L[k].seen] 34)
      have hpb := PVerified.box wr L[k] 34
      have hgl := block_lt_of_cell hcc
      have hcw := (hB.cell (p := ⟨w1.heap.size, 0, none⟩) hgl).trans hcc
      have hzw := (hB.frozen (p := ⟨w1.heap.size, 0, none⟩) hgl).trans hzz
      have hb2 := hb.trans (hB.mono hb.size)
      have hbd : -1000000000000000000 ≤ L[k].told - L[k].seen ∧ L[k].told - L[k].seen ≤ 1000000000000000000 := by omega
      clear hp
      obtain ⟨d0, d1, d2⟩ := hpb
      have HD : Hid (difV L[k] = absF (L[k].told - L[k].seen)) := rfl
      go_wp2
      generalize hW : wr.alloc (.cells #[.int .i64 L[k].day, .int .i64 L[k].told, .int .i64 L[k].seen] 34) = W at *
      clear hW c0 c1 c2
      have gd1 := cell_regrown d1
      have gd2 := cell_regrown d2
      have ghcw := cell_regrown hcw
      refine wp_region_sink (C := fun w' => ∃ p : Regrown, w' = Go.Sort.grow (redrawn W p.d) p.os) [0, 1, 2, 3, 4, 5, 6, 7, 8] [true, true, true, true, true, true, false, true, false] 8 (by kernel_rfl) (by kernel_rfl) (by kernel_rfl) (fun _ _ d _ _ h => by cases d <;> exact h) (regrown_of_below (Below.drew (Below.refl _ _))) ?_
      simp only [List.map_cons, List.map_nil, List.getD_cons_zero, List.getD_cons_succ]
      have hS0 : Below (W.heap.size) W W.drew := Below.drew (Below.refl _ _)
      refine wpMixS_pure (by kernel_rfl) (fun K hK => ?_)
      go_big_quiet_op
      refine hK _ ?_; clear hK K
      refine wpMixS_pure (by kernel_rfl) (fun K hK => ?_)
      go_big_quiet_op
      refine hK _ ?_; clear hK K
      refine wpMixS_pure (by kernel_rfl) (fun K hK => ?_)
      go_big_quiet_op
      refine hK _ ?_; clear hK K
      refine wpMixS_pure (by kernel_rfl) (fun K hK => ?_)
      go_big_quiet_op
      refine hK _ ?_; clear hK K
      refine wpMixS_pure (by kernel_rfl) (fun K hK => ?_)
      go_big_quiet_op
      refine hK _ ?_; clear hK K
      refine wpMixS_pure (by kernel_rfl) (fun K hK => ?_)
      go_big_quiet_op
      refine hK _ ?_; clear hK K
      refine wpMixS_act (by kernel_rfl) (fun K hK => ?_)
      go_big_op
      refine (abs_any (L[k].told - L[k].seen) _ hbd).mono ?_
      rintro e w' ⟨rfl,  rfl⟩
      refine hK _ _ (regrown_of_below hS0) ?_
      clear hK K
      refine wpMixS_pure (by kernel_rfl) (fun K hK => ?_)
      go_big_quiet_op
      refine hK _ ?_; clear hK K
      refine wpMixS_last (by kernel_rfl) (fun K hK => ?_)
      go_big_op
      try simp only [Act.put, List.setIfInBounds_toArray, List.set_cons_zero, List.set_cons_succ]
      refine hK _ _ ?_
      clear hK K
      go_wp2
      go_roundw
      case rel => exact ⟨k + 1, _, by omega, HN, by go_num, by (rw [HD.out]; exact hit_cellV (w := W) (by rw [hcw]; rfl)), by exact (frozen?_setCell _ _ _ _).trans hzw, (by repeat (first | exact Below.refl _ _ | assumption | refine Below.alloc ?_ (by first | omega | (simp <;> omega)) _ | refine Below.setCell ?_ (by first | (show _ ≤ _; omega) | (simp <;> omega)) _ | refine Below.drew ?_ | refine below_drewN ?_ _))⟩
      case measure => simp [intOf]; omega
    · have hkl : k = L.length := by omega
      subst hkl
      have hx2 := hx1.below' hb
      have hal := block_lt_of_cell hcc
      go_wp2_with fail
      refine (daysDif_any _ L fp ⟨w1.heap.size, 0, none⟩ c _ hx2 hcc HV.out).mono ?_
      rintro e w3 ⟨v', rfl, hn⟩
      have hcc2 := (hn.2.cell (p := ⟨w1.heap.size, 0, none⟩) hal).trans hcc
      have hn2 := hn.later (hb1.trans (hb.mono hb1.size))
      clear hn hcc hb hx2 hal
      go_wp2
      have ghcc2 := cell_regrown hcc2
      refine wp_region_mix (C := fun w' => ∃ p : Regrown, w' = Go.Sort.grow (redrawn w3 p.d) p.os) [true, true, true, true, true] (by kernel_rfl) (by kernel_rfl) (by kernel_rfl) (fun _ _ d _ _ h => by cases d <;> exact h) (regrown_of_below (Below.drew (Below.refl _ _))) ?_
      have hS0 : Below (w3.heap.size) w3 w3.drew := Below.drew (Below.refl _ _)
      refine wpMix_pure (by kernel_rfl) (fun K hK => ?_); go_big_quiet_op; refine hK _ ?_; clear hK K
      refine wpMix_pure (by kernel_rfl) (fun K hK => ?_); go_big_quiet_op; refine hK _ ?_; clear hK K
      refine wpMix_pure (by kernel_rfl) (fun K hK => ?_); go_big_quiet_op; refine hK _ ?_; clear hK K
      refine wpMix_pure (by kernel_rfl) (fun K hK => ?_); go_big_quiet_op; refine hK _ ?_; clear hK K
      refine wpMix_pure (by kernel_rfl) (fun K hK => ?_); go_big_quiet_op; refine hK _ ?_; clear hK K
      refine wpMix_nil ?_
      go_wp2
      go_ret3
      exact ⟨_, ret_vii ((worst_ok HC.out).1.trans HW.out).symm HC.out.symm, by rw [(worst_ok HC.out).2]; unfold worstF; rw [HW.out]; exact ⟨hn2.1.imp fun fp h => ⟨h.1.below' (hS0), h.2⟩, hn2.2.trans ((hS0).mono hn2.2.size)⟩⟩

end Go.Proofs.YthabmofkjdiccaaGreatDoor
