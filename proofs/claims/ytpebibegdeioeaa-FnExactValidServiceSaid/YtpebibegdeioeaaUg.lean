
/- Grids: the ways down. By hand. -/
import Derived.Test.YtpebibegdeioeaaUr
import Derived.Test.YtpebibegdeioeaaQd
namespace Go.Proofs.Ytpebibegdeioeaa
open Go.RowKit
set_option linter.unusedVariables false

structure DGrid where
  rows : Int
  columns : Int
  size : Int
  he : List Int
def allG (xs : List Int) (lo hi : Int) : Bool := xs.all fun x => inB x lo hi
def gridB (g : DGrid) : Bool := inB g.rows 1 8 && inB g.columns 1 8 && inB g.size 1 100 && decide ((g.he.length : Int) = g.rows * g.columns) && allG g.he 0 5000
structure GridP (g : DGrid) : Prop where
  r : 1 ≤ g.rows ∧ g.rows ≤ 8
  c : 1 ≤ g.columns ∧ g.columns ≤ 8
  s : 1 ≤ g.size ∧ g.size ≤ 100
  l : (g.he.length : Int) = g.rows * g.columns
  h : ∀ x ∈ g.he, 0 ≤ x ∧ x ≤ 5000
theorem allG_true {xs : List Int} {lo hi : Int} : allG xs lo hi = true ↔ ∀ x ∈ xs, lo ≤ x ∧ x ≤ hi := by
  unfold allG
  rw [List.all_eq_true]
  exact ⟨fun h x hx => inB_true.1 (h x hx), fun h x hx => inB_true.2 (h x hx)⟩
theorem gridP_of {g : DGrid} (h : gridB g = true) : GridP g := by
  unfold gridB at h
  simp only [Bool.and_eq_true, decide_eq_true_eq] at h
  obtain ⟨⟨⟨⟨h1, h2⟩, h3⟩, h4⟩, h5⟩ := h
  exact ⟨inB_true.1 h1, inB_true.1 h2, inB_true.1 h3, h4, allG_true.1 h5⟩
theorem GridP.len {g : DGrid} (h : GridP g) : 1 ≤ g.he.length ∧ g.he.length ≤ 64 := by
  have h1 := h.l
  have h2 : g.rows * g.columns ≤ 8 * 8 := Int.le_trans (Int.mul_le_mul_of_nonneg_right h.r.2 (by have := h.c; omega)) (Int.mul_le_mul_of_nonneg_left h.c.2 (by omega))
  have h3 : 1 * 1 ≤ g.rows * g.columns := Int.le_trans (Int.mul_le_mul_of_nonneg_right h.r.1 (by omega)) (Int.mul_le_mul_of_nonneg_left h.c.1 (by have := h.r; omega))
  omega
def heI (g : DGrid) (c : Nat) : Int := g.he.getD c 0
theorem GridP.hb {g : DGrid} (h : GridP g) (c : Nat) : 0 ≤ heI g c ∧ heI g c ≤ 5000 := by
  unfold heI
  rw [List.getD_eq_getElem?_getD]
  by_cases hc : c < g.he.length
  · rw [List.getElem?_eq_getElem hc]; exact h.h _ (List.getElem_mem hc)
  · rw [List.getElem?_eq_none (by omega)]; simp
def rowD (a : Nat) : Int := [-1, -1, 0, 1, 1, 1, 0, -1].getD a 0
def colD (a : Nat) : Int := [0, 1, 1, 1, 0, -1, -1, -1].getD a 0
def rowF (g : DGrid) (c a : Nat) : Int := (c : Int) / g.columns + rowD a
def colF (g : DGrid) (c a : Nat) : Int := (c : Int) % g.columns + colD a
def goB (g : DGrid) (c a : Nat) : Bool := inB (rowF g c a) 0 (g.rows - 1) && inB (colF g c a) 0 (g.columns - 1)
def goF (g : DGrid) (c a : Nat) : Int := if goB g c a then rowF g c a * g.columns + colF g c a else -1
theorem goF_in {g : DGrid} (h : GridP g) {c a : Nat} (hb : goB g c a = true) : 0 ≤ goF g c a ∧ goF g c a < (g.he.length : Int) := by
  unfold goF
  rw [if_pos hb, h.l]
  unfold goB at hb
  rw [Bool.and_eq_true] at hb
  have h1 := inB_true.1 hb.1
  have h2 := inB_true.1 hb.2
  have h3 := h.c
  have h4 : rowF g c a * g.columns ≤ (g.rows - 1) * g.columns := Int.mul_le_mul_of_nonneg_right h1.2 (by omega)
  have h5 : 0 ≤ rowF g c a * g.columns := Int.mul_nonneg h1.1 (by omega)
  rw [Int.sub_mul, Int.one_mul] at h4
  omega
theorem goF_out {g : DGrid} {c a : Nat} (hb : goB g c a = false) : goF g c a = -1 := by unfold goF; rw [hb]; rfl
theorem goB_iff {g : DGrid} (h : GridP g) (c a : Nat) : goB g c a = decide (0 ≤ goF g c a) := by
  cases hb : goB g c a
  · rw [goF_out hb]; rfl
  · exact (decide_eq_true (goF_in h hb).1).symm
def toN (g : DGrid) (c a : Nat) : Nat := (goF g c a).toNat
def slopeF (g : DGrid) (c a : Nat) : Int := if a % 2 = 1 then drF ((heI g c - heI g (toN g c a)) * 1000000) (g.size * 1414) else drF ((heI g c - heI g (toN g c a)) * 1000) g.size
theorem slopeF_le {g : DGrid} (h : GridP g) (c a : Nat) : -5000000 ≤ slopeF g c a ∧ slopeF g c a ≤ 5000000 := by
  have h1 := h.hb c
  have h2 := h.hb (toN g c a)
  have h3 := h.s
  unfold slopeF
  split <;> exact drF_between (by omega) (by omega) (by omega)
def goodA (g : DGrid) (fr : Int) (c a : Nat) : Bool := goB g c a && (decide (heI g (toN g c a) < heI g c) && decide (fr ≤ slopeF g c a))
def aspTo (g : DGrid) (fr : Int) (c k : Nat) : List Nat := (List.range k).filter (goodA g fr c)
def wayOf (g : DGrid) (c a : Nat) : Nat × Int := (toN g c a, slopeF g c a)
def waysF (g : DGrid) (fr : Int) (c : Nat) : List (Nat × Int) := (aspTo g fr c 8).map (wayOf g c)
theorem aspTo_succ (g : DGrid) (fr : Int) (c k : Nat) : aspTo g fr c (k + 1) = aspTo g fr c k ++ if goodA g fr c k then [k] else [] := by
  unfold aspTo
  rw [List.range_succ, List.filter_append]
  congr 1
  cases h : goodA g fr c k <;> simp [h]
theorem aspTo_len (g : DGrid) (fr : Int) (c k : Nat) : (aspTo g fr c k).length ≤ k := by
  have := List.length_filter_le (goodA g fr c) (List.range k)
  rw [List.length_range] at this
  exact this
theorem aspTo_mem {g : DGrid} {fr : Int} {c k a : Nat} (h : a ∈ aspTo g fr c k) : a < k ∧ goodA g fr c a = true := by
  unfold aspTo at h
  have := List.mem_filter.1 h
  exact ⟨by simpa using this.1, this.2⟩
theorem waysOk_of {g : DGrid} (h : GridP g) {fr : Int} (hf : 1 ≤ fr) : WaysOk g.he.length (waysF g fr) (heI g) := by
  have key : ∀ c x, x ∈ waysF g fr c → ∃ a, goodA g fr c a = true ∧ x = wayOf g c a := fun c x hx => by
    unfold waysF at hx
    obtain ⟨a, ha, rfl⟩ := List.mem_map.1 hx
    exact ⟨a, (aspTo_mem ha).2, rfl⟩
  refine ⟨fun c hc x hx => ?_, fun c hc x hx => ?_, fun c hc x hx => ?_, fun c hc => (h.hb c).1⟩
  all_goals
    obtain ⟨a, ha, rfl⟩ := key c x hx
    unfold goodA at ha
    simp only [Bool.and_eq_true, decide_eq_true_eq] at ha
  · have := goF_in h ha.1
    show (goF g c a).toNat < _
    omega
  · show 0 < slopeF g c a
    omega
  · exact ha.2.1
def nextA (g : DGrid) (c k : Nat) : List Nat := (List.range k).filter (goB g c)
theorem nextA_succ (g : DGrid) (c k : Nat) : nextA g c (k + 1) = nextA g c k ++ if goB g c k then [k] else [] := by
  unfold nextA
  rw [List.range_succ, List.filter_append]
  congr 1
  cases h : goB g c k <;> simp [h]
theorem asp_next (g : DGrid) (fr : Int) (c k : Nat) : aspTo g fr c k = (nextA g c k).filter fun a => decide (heI g (toN g c a) < heI g c) && decide (fr ≤ slopeF g c a) := by
  unfold aspTo nextA
  rw [List.filter_filter]
  apply List.filter_congr
  intro a _
  unfold goodA
  rw [Bool.and_comm]
end Go.Proofs.Ytpebibegdeioeaa
