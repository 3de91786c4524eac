/- Numbers read: the reference's l01Number, the program's ReadDecimal. -/
import Derived.Test.YtjlnjeogaokkoaaGreatDoorNu
import Derived.Test.YtjlnjeogaokkoaaGreatDoorNm
import Derived.Test.YtjlnjeogaokkoaaGreatDoorTb
import Derived.Stop.LaidErr
import Derived.RowKitTokens
namespace Go.Proofs.YtjlnjeogaokkoaaGreatDoor
open Go.RowKit
set_option linter.unusedVariables false

def numOk (s : ByteArray) : Bool := (numL s.data.toList).isSome
def numV (s : ByteArray) : Int := (numL s.data.toList).getD 0
theorem num_none {s : ByteArray} (h : numL s.data.toList = none) : numOk s = false ∧ numV s = 0 := by unfold numOk numV; rw [h]; exact ⟨rfl, rfl⟩
theorem num_some {s : ByteArray} {v : Int} (h : numL s.data.toList = some v) : numOk s = true ∧ numV s = v := by unfold numOk numV; rw [h]; exact ⟨rfl, rfl⟩
theorem trim_minus (l : List UInt8) : Lib.trimPrefix l [45] = bodyL l := by
  unfold Lib.trimPrefix Lib.hasPrefix bodyL
  cases l with
  | nil => rfl
  | cons c r =>
    by_cases h : c = 45
    · subst h; simp
    · have h' : ¬ 45 = c := fun e => h e.symm
      simp [h, h']
--NUMBER
theorem num_len {l : List UInt8} (h : (bodyL l).length = 0 ∨ 18 < (bodyL l).length) : numL l = none := by
  unfold numL; rw [if_pos]
  rcases h with h | h
  · rw [List.eq_nil_of_length_eq_zero h]; rfl
  · simp [h]
theorem num_zero {l : List UInt8} (h : (bodyL l).head? = some 48) (h1 : 1 < l.length) : numL l = none := by
  unfold numL; rw [if_pos]; simp [h, h1]
theorem num_bad {l : List UInt8} {k : Nat} (hk : k < (bodyL l).length) (h : digB (bodyL l)[k] = false) : numL l = none := by
  unfold numL; rw [if_pos]
  have : (bodyL l).all digB = false := by
    rw [List.all_eq_false]; exact ⟨_, List.getElem_mem hk, by rw [h]; decide⟩
  simp [this]
theorem num_is {l : List UInt8} (h0 : 0 < (bodyL l).length) (h18 : (bodyL l).length ≤ 18) (hz : ¬ ((bodyL l).head? = some 48 ∧ 1 < l.length)) (ha : (bodyL l).all digB = true) : numL l = some (if l.head? = some 45 then -(valL 0 (bodyL l) : Int) else (valL 0 (bodyL l) : Int)) := by
  unfold numL; rw [if_neg]
  intro h
  simp only [Bool.or_eq_true, Bool.and_eq_true, decide_eq_true_eq, Bool.not_eq_true', List.isEmpty_iff] at h
  rcases h with ((h | h) | h) | h
  · rw [h] at h0; simp at h0
  · omega
  · exact hz h
  · rw [ha] at h; cases h
theorem digitB_dig (c : UInt8) : digitB (c.toNat : Int) = digB c := by
  unfold digitB digB inB
  rw [Bool.eq_iff_iff]
  simp
  omega
theorem byte_ne48 {a : UInt8} (h : a ≠ 48) : ¬ (a.toNat : Int) = 48 := by
  intro e; have h48 : (48 : UInt8).toNat = 48 := rfl
  exact h (UInt8.toNat_inj.1 (by omega))
theorem at_listN {s : ByteArray} {k : Nat} (h : k < s.size) : s.data.toList[k]? = some s[k] := by
  rw [List.getElem?_eq_getElem (by simpa using h)]; rfl
--NUMBEREND
end Go.Proofs.YtjlnjeogaokkoaaGreatDoor
