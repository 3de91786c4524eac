/- LoadBlocks: plain laws. Written by wip/gen/ld.py. -/
import Derived.Test.YtaaholabodchaaaGreatDoorDm
import Derived.Test.YtaaholabodchaaaGreatDoorNu
namespace Go.Proofs.YtaaholabodchaaaGreatDoor
open Go.RowKit
set_option linter.unusedVariables false

def lineAt (L : List ByteArray) (k : Nat) : ByteArray := L.getD k ⟨#[]⟩
theorem lineAt_get {L : List ByteArray} {k : Nat} (h : k < L.length) : lineAt L k = L[k] := by
  unfold lineAt; rw [List.getD_eq_getElem?_getD, List.getElem?_eq_getElem h]; rfl
def ldC (L : List ByteArray) (k : Nat) : Int := if parseC (lineAt L k) ≠ 0 then parseC (lineAt L k) else if 1 < k ∧ beforeB (parseB (lineAt L (k - 1))) (parseB (lineAt L k)) = false then 7 else 0
def ldP (L : List ByteArray) (k : Nat) : Bool := decide (0 < k) && decide (ldC L k ≠ 0)
def ldBad (L : List ByteArray) : Option Nat := (List.range L.length).find? (ldP L)
def ldFine (L : List ByteArray) (k : Nat) : Prop := ∀ j, 0 < j → j < k → ldC L j = 0
theorem ldFine_one (L : List ByteArray) : ldFine L 1 := fun j h1 h2 => by omega
theorem ldFine_step {L : List ByteArray} {k : Nat} (h : ldFine L k) (h1 : ldC L k = 0) : ldFine L (k + 1) := fun j h2 h3 => by
  rcases Nat.lt_or_ge j k with h4 | h4
  · exact h j h2 h4
  · obtain rfl : j = k := by omega
    exact h1
theorem ldBad_some {L : List ByteArray} {k : Nat} (hk : k < L.length) (h0 : 0 < k) (hf : ldFine L k) (h1 : ldC L k ≠ 0) : ldBad L = some k := by
  unfold ldBad
  rw [List.find?_range_eq_some]
  refine ⟨by unfold ldP; simp [h0, h1], List.mem_range.2 hk, fun j hj => ?_⟩
  unfold ldP
  rcases Nat.eq_zero_or_pos j with rfl | hp
  · rfl
  · simp [hf j hp hj]
theorem ldBad_none {L : List ByteArray} (hf : ldFine L L.length) : ldBad L = none := by
  unfold ldBad
  rw [List.find?_eq_none]
  intro j hj
  have hj' := List.mem_range.1 hj
  unfold ldP
  rcases Nat.eq_zero_or_pos j with rfl | hp
  · simp
  · simp [hf j hp hj']
def ldRows (L : List ByteArray) (k : Nat) : List DBlock := ((L.take k).drop 1).map parseB
theorem ldRows_one (L : List ByteArray) : ldRows L 1 = [] := by
  unfold ldRows; rw [List.drop_of_length_le (by rw [List.length_take]; omega)]; rfl
theorem ldRows_step {L : List ByteArray} {k : Nat} (hk : k < L.length) (h0 : 0 < k) : ldRows L (k + 1) = ldRows L k ++ [parseB L[k]] := by
  unfold ldRows
  rw [List.take_succ_eq_append_getElem hk, List.drop_append_of_le_length (by rw [List.length_take]; omega), List.map_append]; rfl
theorem ldRows_len {L : List ByteArray} {k : Nat} (hk : k ≤ L.length) : (ldRows L k).length = k - 1 := by
  unfold ldRows; simp; omega
theorem ldRows_last {L : List ByteArray} {k : Nat} (hk : k ≤ L.length) (h1 : 1 < k) : (ldRows L k)[k - 2]'(by rw [ldRows_len hk]; omega) = parseB (lineAt L (k - 1)) := by
  unfold ldRows
  rw [List.getElem_map, List.getElem_drop, List.getElem_take, lineAt_get (by omega)]
  congr 2; omega
theorem ldRows_ok {L : List ByteArray} {k : Nat} (hk : k ≤ L.length) (hf : ldFine L k) : ∀ x ∈ ldRows L k, fBlock.ok x := by
  intro x hx
  unfold ldRows at hx
  obtain ⟨y, hy, rfl⟩ := List.mem_map.1 hx
  obtain ⟨j, hj, rfl⟩ := List.getElem_of_mem hy
  rw [List.length_drop, List.length_take] at hj
  have h1 := hf (j + 1) (by omega) (by omega)
  rw [List.getElem_drop, List.getElem_take]
  have e : L[1 + j]'(by omega) = lineAt L (j + 1) := by rw [lineAt_get (by omega)]; congr 1; omega
  rw [e]
  unfold ldC at h1
  split at h1
  · rename_i h2; exact absurd h1 h2
  · rename_i h2
    exact blockB_ok (parse_valid (by simpa using h2))
def arcL : List UInt8 := [97, 114, 99, 104, 105, 118, 101, 32]
def inHead (n : Int) : Bool := decide (0 ≤ n) && decide (n ≤ 32)
def ldHead (line : ByteArray) : Option Int := if arcL.isPrefixOf line.data.toList then (match numL (line.data.toList.drop 8) with | some n => if inHead n then some n else none | none => none) else none
def ldGo (s : ByteArray) : Bool := emptyB (linQ s) && !(linL s).isEmpty
def ldRes (s : ByteArray) : List DBlock × Int × Int :=
  if ldGo s then
    match ldHead (lineAt (linL s) 0) with
    | none => ([], 1, 9)
    | some n => match ldBad (linL s) with
      | some k => ([], (k : Int) + 1, ldC (linL s) k)
      | none => if ((ldRows (linL s) (linL s).length).length : Int) = n then (ldRows (linL s) (linL s).length, 0, 0) else ([], 0, 11)
  else ([], 0, 11)
theorem ldRes_no {s : ByteArray} (h : ldGo s = false) : ldRes s = ([], 0, 11) := by unfold ldRes; rw [h]; rfl
theorem ldRes_head {s : ByteArray} (h : ldGo s = true) (h1 : ldHead (lineAt (linL s) 0) = none) : ldRes s = ([], 1, 9) := by unfold ldRes; rw [h, h1]; rfl
theorem ldRes_bad {s : ByteArray} {n : Int} {k : Nat} (h : ldGo s = true) (h1 : ldHead (lineAt (linL s) 0) = some n) (h2 : ldBad (linL s) = some k) : ldRes s = ([], (k : Int) + 1, ldC (linL s) k) := by unfold ldRes; rw [h, h1, h2]; rfl
theorem ldRes_short {s : ByteArray} {n : Int} (h : ldGo s = true) (h1 : ldHead (lineAt (linL s) 0) = some n) (h2 : ldBad (linL s) = none) (h3 : ¬ ((ldRows (linL s) (linL s).length).length : Int) = n) : ldRes s = ([], 0, 11) := by
  unfold ldRes; rw [h, h1, h2, if_pos rfl]; simp only; rw [if_neg h3]
theorem ldRes_ok {s : ByteArray} {n : Int} (h : ldGo s = true) (h1 : ldHead (lineAt (linL s) 0) = some n) (h2 : ldBad (linL s) = none) (h3 : ((ldRows (linL s) (linL s).length).length : Int) = n) : ldRes s = (ldRows (linL s) (linL s).length, 0, 0) := by
  unfold ldRes; rw [h, h1, h2, if_pos rfl]; simp only; rw [if_pos h3]
theorem ldRes_len {s : ByteArray} (hs : s.size ≤ 1048576) : (ldRes s).1.length ≤ 100000000000 := by
  unfold ldRes
  repeat' split
  all_goals first
    | (simp; done)
    | (show (ldRows _ _).length ≤ _; rw [ldRows_len (Nat.le_refl _)]; have := lin_len s; omega)

/-- A newline at the end. -/
theorem splL_end (c : UInt8) (p : List UInt8) : splL c (p ++ [c]) = splL c p ++ [[]] := by
  obtain ⟨P, q, h⟩ : ∃ P q, splL c p = P ++ [q] := ⟨_, _, (List.dropLast_concat_getLast (splL_ne c p)).symm⟩
  rw [splL_snoc c c p P q h, if_pos rfl, h]
theorem suffix_one (l : List UInt8) (c : UInt8) : Lib.hasSuffix l [c] = true ↔ ∃ p, l = p ++ [c] := by
  unfold Lib.hasSuffix
  rw [List.isSuffixOf_iff_suffix]
  exact ⟨fun ⟨p, h⟩ => ⟨p, h.symm⟩, fun ⟨p, h⟩ => ⟨p, h.symm⟩⟩
theorem lin_end {s : ByteArray} {p : List UInt8} (h : s.data.toList = p ++ [10]) : linL s = splS 10 ⟨p.toArray⟩ ∧ linQ s = ⟨#[]⟩ := by
  have h1 : splS 10 s = splS 10 ⟨p.toArray⟩ ++ [⟨#[]⟩] := by
    unfold splS; rw [h, splL_end, List.map_append]; rfl
  constructor
  · unfold linL; rw [h1, List.dropLast_concat]
  · unfold linQ; rw [h1]; simp [List.getLastD_eq_getLast?]
theorem splS_ne (c : UInt8) (s : ByteArray) : splS c s ≠ [] := by unfold splS; rw [Ne, List.map_eq_nil_iff]; exact splL_ne c _
theorem ldGo_suffix (s : ByteArray) : Lib.hasSuffix s.data.toList [10] = ldGo s := by
  rw [Bool.eq_iff_iff, suffix_one]
  constructor
  · rintro ⟨p, h⟩
    obtain ⟨h1, h2⟩ := lin_end h
    unfold ldGo emptyB
    rw [h2, h1, decide_eq_true rfl]
    have := splS_ne 10 ⟨p.toArray⟩
    cases hq : splS 10 ⟨p.toArray⟩ with
    | nil => exact absurd hq this
    | cons a l => rfl
  · intro h
    unfold ldGo emptyB at h
    simp only [Bool.and_eq_true, decide_eq_true_eq, Bool.not_eq_true', List.isEmpty_eq_false_iff] at h
    obtain ⟨h1, h2⟩ := h
    obtain ⟨_, h3⟩ := lin_cut s
    rw [h1] at h3
    have h4 : s.data.toList = (linL s).flatMap fun p : ByteArray => p.data.toList ++ [10] := by simpa using h3.symm
    obtain ⟨A, a, hA⟩ : ∃ A a, linL s = A ++ [a] := ⟨_, _, (List.dropLast_concat_getLast h2).symm⟩
    rw [hA, List.flatMap_append] at h4
    exact ⟨(A.flatMap fun p : ByteArray => p.data.toList ++ [10]) ++ a.data.toList, by rw [h4]; simp⟩
theorem lin_trim {s : ByteArray} (h : ldGo s = true) : splS 10 ⟨(Lib.trimSuffix s.data.toList [10]).toArray⟩ = linL s := by
  rw [← ldGo_suffix] at h
  unfold Lib.trimSuffix
  rw [if_pos h]
  obtain ⟨p, hp⟩ := (suffix_one _ _).1 h
  rw [(lin_end hp).1, hp]
  simp
/-- The head. -/
theorem num_noblank {r : List UInt8} {v : Int} (h : numL r = some v) : splL 32 r = [r] := by
  refine splL_none fun b hb e => ?_
  subst e
  unfold numL at h
  split at h
  · cases h
  · rename_i hc
    simp only [Bool.or_eq_true, not_or, Bool.not_eq_true', Bool.not_eq_false] at hc
    have ha := hc.2
    have hm : (32 : UInt8) ∈ bodyL r := by
      unfold bodyL
      split
      · rename_i h45
        cases r with
        | nil => cases hb
        | cons c r =>
          rw [List.head?_cons, Option.some.injEq] at h45
          rcases List.mem_cons.1 hb with h1 | h1
          · rw [← h1] at h45; exact absurd h45 (by decide)
          · exact h1
      · exact hb
    have := List.all_eq_true.1 ha _ hm
    exact absurd this (by decide)
theorem spl_arc (r : List UInt8) : splL 32 (arcL ++ r) = [97, 114, 99, 104, 105, 118, 101] :: splL 32 r := by
  unfold arcL
  simp [splL]
theorem head_two {line a b : ByteArray} (h : splS 32 line = [a, b]) : ldHead line = if a = ⟨#[97, 114, 99, 104, 105, 118, 101]⟩ then (match numL b.data.toList with | some n => if inHead n then some n else none | none => none) else none := by
  have hd := splS_data 32 line
  rw [h] at hd
  have hj := splL_join 32 line.data.toList [a.data.toList] b.data.toList hd.symm
  by_cases ha : a = ⟨#[97, 114, 99, 104, 105, 118, 101]⟩
  · rw [if_pos ha]
    subst ha
    have hl : line.data.toList = arcL ++ b.data.toList := by rw [← hj]; rfl
    unfold ldHead
    rw [hl, if_pos (by unfold arcL; simp), show (arcL ++ b.data.toList).drop 8 = b.data.toList from rfl]
  · rw [if_neg ha]
    unfold ldHead
    rw [if_neg]
    intro hp
    obtain ⟨r, hr⟩ := List.isPrefixOf_iff_prefix.1 hp
    rw [← hr, spl_arc] at hd
    have h1 : a.data.toList = [97, 114, 99, 104, 105, 118, 101] := by
      have := congrArg (fun l : List (List UInt8) => l.head?) hd
      simpa using this
    exact ha (data_inj h1)
theorem head_other {line : ByteArray} (h : (splS 32 line).length ≠ 2) : ldHead line = none := by
  unfold ldHead
  split
  · rename_i hp
    obtain ⟨r, hr⟩ := List.isPrefixOf_iff_prefix.1 hp
    have hd := splS_data 32 line
    rw [← hr, spl_arc] at hd
    rw [← hr, show (arcL ++ r).drop 8 = r from rfl]
    cases hn : numL r with
    | none => rfl
    | some v =>
      rw [num_noblank hn] at hd
      have := congrArg List.length hd
      rw [List.length_map] at this
      exact absurd this h
  · rfl

end Go.Proofs.YtaaholabodchaaaGreatDoor
