/- Tables as lines: plain laws. -/
import Derived.Test.YtjlnjeogaokkoaaGreatDoorAll
import Derived.Test.YtjlnjeogaokkoaaGreatDoorLn
import Derived.Lib.TrimByte
namespace Go.Proofs.YtjlnjeogaokkoaaGreatDoor
open Go.RowKit
set_option linter.unusedVariables false

/-! ### Tables as lines: plain laws -/
def spN (n : Nat) : List UInt8 := List.replicate n 32
/-- Cell k of a row, empty behind its end. -/
def cellA (r : List ByteArray) (k : Nat) : ByteArray := r[k]?.getD ⟨#[]⟩
/-- The width of column k. -/
def wdN (rows : List (List ByteArray)) (k : Nat) : Nat := rows.foldl (fun m r => max m (cellA r k).size) 0
theorem wdN_snoc {rows : List (List ByteArray)} {i : Nat} (h : i < rows.length) (k : Nat) : wdN (rows.take (i + 1)) k = max (wdN (rows.take i) k) (cellA rows[i] k).size := by
  unfold wdN; rw [List.take_succ_eq_append_getElem h, List.foldl_append]; rfl
theorem foldl_ge (k : Nat) : ∀ (rows : List (List ByteArray)) (a : Nat), a ≤ rows.foldl (fun m r => max m (cellA r k).size) a
  | [], a => Nat.le_refl _
  | r :: rows, a => by rw [List.foldl_cons]; exact Nat.le_trans (Nat.le_max_left _ _) (foldl_ge k rows _)
theorem foldl_mem (k : Nat) : ∀ (rows : List (List ByteArray)) (a : Nat), ∀ r ∈ rows, (cellA r k).size ≤ rows.foldl (fun m r => max m (cellA r k).size) a
  | [], a, r, h => by cases h
  | q :: rows, a, r, h => by
    rw [List.foldl_cons]
    rcases List.mem_cons.1 h with rfl | h
    · exact Nat.le_trans (Nat.le_max_right _ _) (foldl_ge k rows _)
    · exact foldl_mem k rows _ r h
theorem foldl_le {B : Nat} (k : Nat) : ∀ (rows : List (List ByteArray)) (a : Nat), a ≤ B → (∀ r ∈ rows, (cellA r k).size ≤ B) → rows.foldl (fun m r => max m (cellA r k).size) a ≤ B
  | [], a, h, _ => h
  | q :: rows, a, h, h2 => by
    rw [List.foldl_cons]
    exact foldl_le k rows _ (Nat.max_le.2 ⟨h, h2 q (by simp)⟩) (fun r hr => h2 r (by simp [hr]))
theorem wdN_mem {rows : List (List ByteArray)} {r : List ByteArray} (h : r ∈ rows) (k : Nat) : (cellA r k).size ≤ wdN rows k := foldl_mem k rows 0 r h
theorem wdN_le {B : Nat} {rows : List (List ByteArray)} (h : ∀ r ∈ rows, ∀ c ∈ r, c.size ≤ B) (k : Nat) : wdN rows k ≤ B := by
  refine foldl_le k rows 0 (Nat.zero_le _) fun r hr => ?_
  unfold cellA
  cases hk : r[k]? with
  | none => show (ByteArray.mk #[]).size ≤ B; exact Nat.zero_le _
  | some c => exact h r hr c (List.mem_of_getElem? hk)
/-- The widths while row i is being looked at, its cells below k done. -/
def wdAt (rows : List (List ByteArray)) (i k j : Nat) : Nat := if j < k then wdN (rows.take (i + 1)) j else wdN (rows.take i) j
theorem wdAt_zero (rows : List (List ByteArray)) (i j : Nat) : wdAt rows i 0 j = wdN (rows.take i) j := by unfold wdAt; rw [if_neg (by omega)]
theorem wdAt_full {rows : List (List ByteArray)} {i : Nat} (h : i < rows.length) {k : Nat} (hk : rows[i].length ≤ k) (j : Nat) : wdAt rows i k j = wdN (rows.take (i + 1)) j := by
  unfold wdAt
  split
  · rfl
  · rename_i hj
    rw [wdN_snoc h]
    have : cellA rows[i] j = ⟨#[]⟩ := by unfold cellA; rw [List.getElem?_eq_none (by omega)]; rfl
    rw [this]
    show _ = max _ 0
    omega
theorem wdAt_step {rows : List (List ByteArray)} {i : Nat} (h : i < rows.length) (k j : Nat) : wdAt rows i (k + 1) j = if j = k then max (wdAt rows i k j) (cellA rows[i] k).size else wdAt rows i k j := by
  unfold wdAt
  by_cases e : j = k
  · subst e
    rw [if_pos (by omega), if_pos rfl, if_neg (by omega), wdN_snoc h]
  · rw [if_neg e]
    by_cases hj : j < k
    · rw [if_pos hj, if_pos (by omega)]
    · rw [if_neg hj, if_neg (by omega)]
theorem cellA_at {r : List ByteArray} {k : Nat} (h : k < r.length) : cellA r k = r[k] := by unfold cellA; rw [List.getElem?_eq_getElem h]; rfl
/-- The piece of a line that the program writes for cell j, and the reference's. -/
def pcI (wd : Nat → Nat) (r : List ByteArray) (j : Nat) : List UInt8 := (cellA r j).data.toList ++ spN (wd j - (cellA r j).size + 2)
def pcS (wd : Nat → Nat) (r : List ByteArray) (j : Nat) : List UInt8 := (if j = 0 then [] else [32, 32]) ++ (cellA r j).data.toList ++ spN (wd j - (cellA r j).size)
def rawI (wd : Nat → Nat) (r : List ByteArray) (k : Nat) : List UInt8 := (List.range k).flatMap (pcI wd r)
def rawS (wd : Nat → Nat) (r : List ByteArray) (k : Nat) : List UInt8 := (List.range k).flatMap (pcS wd r)
theorem rawI_step (wd : Nat → Nat) (r : List ByteArray) (k : Nat) : rawI wd r (k + 1) = rawI wd r k ++ pcI wd r k := by unfold rawI; rw [List.range_succ, List.flatMap_append]; simp
theorem rawS_step (wd : Nat → Nat) (r : List ByteArray) (k : Nat) : rawS wd r (k + 1) = rawS wd r k ++ pcS wd r k := by unfold rawS; rw [List.range_succ, List.flatMap_append]; simp
theorem raw_eq (wd : Nat → Nat) (r : List ByteArray) : ∀ k, rawI wd r (k + 1) = rawS wd r (k + 1) ++ [32, 32]
  | 0 => by rw [rawI_step, rawS_step]; show [] ++ pcI wd r 0 = [] ++ pcS wd r 0 ++ [32, 32]; unfold pcI pcS spN; rw [if_pos rfl, List.replicate_succ', List.replicate_succ']; simp
  | k + 1 => by
    rw [rawI_step wd r (k + 1), raw_eq wd r k, rawS_step wd r (k + 1)]
    unfold pcI pcS spN
    rw [if_neg (by omega), List.replicate_succ', List.replicate_succ']
    simp
theorem trim_sp (l : List UInt8) : Lib.trimRightB (l ++ [32]) 32 = Lib.trimRightB l 32 := by unfold Lib.trimRightB; rw [List.reverse_append]; simp
theorem trim_raw (wd : Nat → Nat) (r : List ByteArray) (k : Nat) : Lib.trimRightB (rawI wd r k) 32 = Lib.trimRightB (rawS wd r k) 32 := by
  cases k with
  | zero => rfl
  | succ k => rw [raw_eq, show rawS wd r (k + 1) ++ [32, 32] = (rawS wd r (k + 1) ++ [32]) ++ [32] by simp, trim_sp, trim_sp]
def lineF (wd : Nat → Nat) (r : List ByteArray) : ByteArray := ⟨(Lib.trimRightB (rawI wd r r.length) 32).toArray⟩
def tabF (rows : List (List ByteArray)) : List ByteArray := rows.map (lineF (wdN rows))
def cellOk (c : ByteArray) : Bool := bwAll c.data.toList 33 126
def rowOk (r : List ByteArray) : Bool := decide (r.length ≤ 12) && r.all cellOk
def rowsOk (rows : List (List ByteArray)) : Bool := rows.all rowOk
theorem trim_len (l : List UInt8) (c : UInt8) : (Lib.trimRightB l c).length ≤ l.length := by
  unfold Lib.trimRightB; rw [List.length_reverse]; exact Nat.le_trans (List.dropWhile_sublist _).length_le (by simp)
theorem pcI_len {wd : Nat → Nat} {r : List ByteArray} {B : Nat} (j : Nat) (h : wd j ≤ B) (h2 : (cellA r j).size ≤ B) : (pcI wd r j).length ≤ 2 * B + 2 := by
  unfold pcI spN; rw [List.length_append, List.length_replicate, show (cellA r j).data.toList.length = (cellA r j).size by simp]; omega
theorem rawI_len {wd : Nat → Nat} {r : List ByteArray} {B : Nat} (h : ∀ j, wd j ≤ B) (h2 : ∀ j, (cellA r j).size ≤ B) : ∀ k, (rawI wd r k).length ≤ (2 * B + 2) * k
  | 0 => Nat.zero_le _
  | k + 1 => by rw [rawI_step, List.length_append, Nat.mul_succ]; have := rawI_len h h2 k; have := pcI_len (wd := wd) (r := r) k (h k) (h2 k); omega
theorem rawS_len {wd : Nat → Nat} {r : List ByteArray} {B : Nat} (h : ∀ j, wd j ≤ B) (h2 : ∀ j, (cellA r j).size ≤ B) (k : Nat) : (rawS wd r k).length ≤ (2 * B + 2) * k := by
  cases k with
  | zero => exact Nat.zero_le _
  | succ k => have := rawI_len h h2 (k + 1); rw [raw_eq, List.length_append] at this; omega
theorem cellA_le {r : List ByteArray} {B : Nat} (h : ∀ c ∈ r, c.size ≤ B) (j : Nat) : (cellA r j).size ≤ B := by
  unfold cellA
  cases hk : r[j]? with
  | none => show (ByteArray.mk #[]).size ≤ B; exact Nat.zero_le _
  | some c => exact h c (List.mem_of_getElem? hk)
/-- One byte fewer at the end. -/
theorem trim_cut {l : List UInt8} {k : Nat} (h : l[k]? = some 32) : Lib.trimRightB (l.take (k + 1)) 32 = Lib.trimRightB (l.take k) 32 := by
  obtain ⟨hk, e⟩ := List.getElem?_eq_some_iff.1 h
  rw [List.take_succ_eq_append_getElem hk, e, trim_sp]
theorem trim_stop {l : List UInt8} {k : Nat} {b : UInt8} (h : l[k]? = some b) (hb : b ≠ 32) : Lib.trimRightB (l.take (k + 1)) 32 = l.take (k + 1) := by
  obtain ⟨hk, e⟩ := List.getElem?_eq_some_iff.1 h
  rw [List.take_succ_eq_append_getElem hk, e]
  unfold Lib.trimRightB
  rw [List.reverse_append]
  have : (b == (32 : UInt8)) = false := beq_eq_false_iff_ne.2 hb
  simp [this]

end Go.Proofs.YtjlnjeogaokkoaaGreatDoor
