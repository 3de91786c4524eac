
/- Contracts of the functions on bounds and names. -/
import Derived.Test.YtjfaafoldllppaaBase
namespace Go.Proofs.Ytjfaafoldllppaa
open Go.RowKit

def inB (a lo hi : Int) : Bool := decide (lo ≤ a) && decide (a ≤ hi)
theorem inB_true {a lo hi : Int} : inB a lo hi = true ↔ lo ≤ a ∧ a ≤ hi := by simp [inB]
theorem inB_false {a lo hi : Int} : inB a lo hi = false ↔ a < lo ∨ hi < a := by
  simp [inB]
  omega

set_option maxRecDepth 100000 in
set_option maxHeartbeats 400000 in
theorem l00InB_any (a b c : Int) (w : World) :
    Calls Try.prog 52 #[.int .i64 a, .int .i64 b, .int .i64 c] w fun e w' => e = .returned (.bool (inB a b c)) ∧ w = w' := by
  go_enter Try.func52, Try.ntmps52
  go_wp2
  all_goals
    go_ret
    exact ⟨ret_bool (by simp [inB, *] <;> omega), rfl⟩
set_option maxRecDepth 100000 in
set_option maxHeartbeats 400000 in
theorem withinB_any (a b c : Int) (w : World) :
    Calls Try.prog 44 #[.int .i64 a, .int .i64 b, .int .i64 c] w fun e w' => e = .returned (.bool (inB a b c)) ∧ w = w' := by
  go_enter Try.func44, Try.ntmps44
  go_wp2
  all_goals
    go_ret
    exact ⟨ret_bool (by simp [inB, *] <;> omega), rfl⟩

def smallB (c : Int) : Bool := inB c 97 122
def digitB (c : Int) : Bool := inB c 48 57
def okNm (c : UInt8) : Bool := smallB c.toNat || digitB c.toNat
def allNm (l : List UInt8) : Bool := l.all okNm
def headNm (s : ByteArray) : Bool := match s.data.toList with | [] => false | c :: _ => smallB c.toNat
def nameB (s : ByteArray) : Bool := decide (s.size ≤ 10) && headNm s && allNm s.data.toList

theorem headNm_zero {s : ByteArray} (h : s.size = 0) : headNm s = false := by
  unfold headNm
  have : s.data.toList = [] := List.eq_nil_of_length_eq_zero (by simpa using h)
  rw [this]
theorem headNm_pos {s : ByteArray} (h : 0 < s.size) : headNm s = smallB s[0].toNat := by
  obtain ⟨⟨l⟩⟩ := s
  cases l with
  | nil => exact absurd h (by show ¬ 0 < 0; omega)
  | cons c r => rfl
theorem allNm_step {s : ByteArray} {k : Nat} (h : k < s.size) (h0 : allNm (s.data.toList.take k) = true) (h1 : okNm s[k] = true) : allNm (s.data.toList.take (k + 1)) = true := by
  rw [List.take_succ_eq_append_getElem (by simpa using h)]
  unfold allNm at *
  rw [List.all_append, h0]
  simp only [List.all_cons, List.all_nil, Bool.and_true, Bool.true_and]
  exact h1
theorem allNm_bad {s : ByteArray} {k : Nat} (h : k < s.size) (h1 : okNm s[k] = false) : allNm s.data.toList = false := by
  unfold allNm
  rw [List.all_eq_false]
  exact ⟨s[k], Array.mem_toList_iff.2 (Array.getElem_mem _), by rw [h1]; simp⟩
theorem allNm_full {s : ByteArray} {k : Nat} (h : s.size ≤ k) (h0 : allNm (s.data.toList.take k) = true) : allNm s.data.toList = true := by
  rwa [List.take_of_length_le (by simpa using h)] at h0

theorem okNm_true {c : UInt8} (h : (97 ≤ (c.toNat : Int) ∧ (c.toNat : Int) ≤ 122) ∨ (48 ≤ (c.toNat : Int) ∧ (c.toNat : Int) ≤ 57)) : okNm c = true := by
  simp only [okNm, smallB, digitB, Bool.or_eq_true, inB_true]; exact h
theorem okNm_false {c : UInt8} (h : ((c.toNat : Int) < 97 ∨ 122 < (c.toNat : Int)) ∧ ((c.toNat : Int) < 48 ∨ 57 < (c.toNat : Int))) : okNm c = false := by
  simp only [okNm, smallB, digitB, Bool.or_eq_false_iff, inB_false]; exact h

set_option maxRecDepth 100000 in
set_option maxHeartbeats 1000000 in
theorem onlyNameBytes_any (s : ByteArray) (w : World) (hs : s.size ≤ 9223372036854775807) :
    Calls Try.prog 78 #[.string s] w fun e w' => e = .returned (.bool (allNm s.data.toList)) ∧ w = w' := by
  go_enter Try.func78, Try.ntmps78
  go_wp2
  go_loop [7] (fun i => ∃ k : Nat, k ≤ s.size ∧ i = .int .i64 k ∧ allNm (s.data.toList.take k) = true) (fun i => s.size - (intOf i).toNat)
  case atStart => exact ⟨0, Nat.zero_le _, rfl, rfl⟩
  case round =>
    obtain ⟨k, hk, rfl, h0⟩ := hrel
    have H0 := Lib.hid h0
    clear h0
    by_cases hlt : k < s.size
    · go_wp2
      all_goals first
        | (go_ret; exact ⟨ret_bool (allNm_bad hlt (okNm_false (by omega))).symm, rfl⟩)
        | (go_round
           case rel => exact ⟨k + 1, by omega, by go_num, allNm_step hlt H0.out (okNm_true (by omega))⟩
           case measure => simp [intOf]; omega)
    · go_wp2
      go_ret
      exact ⟨ret_bool (allNm_full (by omega) H0.out).symm, rfl⟩
theorem nameB_empty {s : ByteArray} (h : s.size = 0) : nameB s = false := by simp [nameB, headNm_zero h]
theorem nameB_long {s : ByteArray} (h : 10 < s.size) : nameB s = false := by
  have : decide (s.size ≤ 10) = false := by simp; omega
  simp [nameB, this]
theorem nameB_head {s : ByteArray} (h : 0 < s.size) (h1 : (s[0].toNat : Int) < 97 ∨ 122 < (s[0].toNat : Int)) : nameB s = false := by
  have : headNm s = false := by rw [headNm_pos h]; exact inB_false.2 h1
  simp [nameB, this]
theorem nameB_rest {s : ByteArray} (h : 0 < s.size) (h0 : s.size ≤ 10) (h1 : 97 ≤ (s[0].toNat : Int) ∧ (s[0].toNat : Int) ≤ 122) : nameB s = allNm s.data.toList := by
  have : headNm s = true := by rw [headNm_pos h]; exact inB_true.2 h1
  simp [nameB, this, h0]

set_option maxRecDepth 100000 in
set_option maxHeartbeats 1000000 in
theorem implIsName_any (s : ByteArray) (w : World) (hs : s.size ≤ 9223372036854775807) :
    Calls Try.prog 66 #[.string s] w fun e w' => e = .returned (.bool (nameB s)) ∧ w = w' := by
  by_cases c0 : s.size = 0
  · rw [nameB_empty c0]
    have c0' : (s.size : Int) < 1 := by omega
    clear c0
    go_enter Try.func66, Try.ntmps66
    go_wp2
    go_ret
    exact ⟨rfl, rfl⟩
  · by_cases c1 : 10 < s.size
    · rw [nameB_long c1]
      go_enter Try.func66, Try.ntmps66
      go_wp2
      go_ret
      exact ⟨rfl, rfl⟩
    · have c2 : 0 < s.size := by omega
      by_cases c3 : 97 ≤ (s[0].toNat : Int) ∧ (s[0].toNat : Int) ≤ 122
      · rw [nameB_rest c2 (by omega) c3]
        obtain ⟨c4, c5⟩ := c3
        go_enter Try.func66, Try.ntmps66
        go_wp2_with (go_at_call 78; refine (onlyNameBytes_any _ _ hs).mono ?_; rintro e w' ⟨rfl, rfl⟩)
        go_ret
        exact ⟨rfl, rfl⟩
      · rw [nameB_head c2 (by omega)]
        by_cases c4 : (s[0].toNat : Int) < 97
        · clear c3
          go_enter Try.func66, Try.ntmps66
          go_wp2
          go_ret
          exact ⟨rfl, rfl⟩
        · have c5 : 122 < (s[0].toNat : Int) := by omega
          clear c3
          go_enter Try.func66, Try.ntmps66
          go_wp2
          go_ret
          exact ⟨rfl, rfl⟩
set_option maxRecDepth 100000 in
set_option maxHeartbeats 400000 in
theorem l01Small_any (c : Int) (w : World) :
    Calls Try.prog 70 #[.int .u8 c] w fun e w' => e = .returned (.bool (smallB c)) ∧ w = w' := by
  go_enter Try.func70, Try.ntmps70
  go_wp2
  all_goals
    go_ret
    exact ⟨ret_bool (by simp [smallB, inB, *] <;> omega), rfl⟩
set_option maxRecDepth 100000 in
set_option maxHeartbeats 400000 in
theorem l01Digit_any (c : Int) (w : World) :
    Calls Try.prog 71 #[.int .u8 c] w fun e w' => e = .returned (.bool (digitB c)) ∧ w = w' := by
  go_enter Try.func71, Try.ntmps71
  go_wp2
  all_goals
    go_ret
    exact ⟨ret_bool (by simp [digitB, inB, *] <;> omega), rfl⟩

set_option maxRecDepth 100000 in
set_option maxHeartbeats 1000000 in
theorem l01Name_any (s : ByteArray) (w : World) (hs : s.size ≤ 9223372036854775807) :
    Calls Try.prog 49 #[.string s] w fun e w' => e = .returned (.bool (nameB s)) ∧ w = w' := by
  by_cases c0 : s.size = 0
  · rw [nameB_empty c0]
    have e0 : s = ⟨#[]⟩ := ByteArray.ext (Array.eq_empty_of_size_eq_zero c0)
    subst e0
    clear c0
    go_enter Try.func49, Try.ntmps49
    go_wp2
    go_ret
    exact ⟨rfl, rfl⟩
  · have hemp : s.toList.isEmpty = false := by
      rw [ByteArray.toList_eq]
      cases hl : s.data.toList with
      | nil => exact absurd (by have := congrArg List.length hl; simpa using this) c0
      | cons => rfl
    by_cases c1 : 10 < s.size
    · rw [nameB_long c1]
      go_enter Try.func49, Try.ntmps49
      go_wp2
      go_ret
      exact ⟨rfl, rfl⟩
    · have c2 : 0 < s.size := by omega
      by_cases c3 : 97 ≤ (s[0].toNat : Int) ∧ (s[0].toNat : Int) ≤ 122
      · rw [nameB_rest c2 (by omega) c3]
        have c4 : smallB s[0].toNat = true := inB_true.2 c3
        clear c3
        go_enter Try.func49, Try.ntmps49
        go_wp2_with (go_at_call 70; refine (l01Small_any _ _).mono ?_; rintro e w' ⟨rfl, rfl⟩)
        clear c4
        go_loop [3] (fun i => ∃ k : Nat, k ≤ s.size ∧ i = .int .i64 k ∧ allNm (s.data.toList.take k) = true) (fun i => s.size - (intOf i).toNat)
        case atStart => exact ⟨0, Nat.zero_le _, rfl, rfl⟩
        case round =>
          obtain ⟨k, hk, rfl, h0⟩ := hrel
          have H0 := Lib.hid h0
          clear h0
          by_cases hlt : k < s.size
          · cases d1 : smallB s[k].toNat <;> cases d2 : digitB s[k].toNat
            all_goals
              go_wp2_with (first | (go_at_call 70; refine (l01Small_any _ _).mono ?_; rintro e w' ⟨rfl, rfl⟩) | (go_at_call 71; refine (l01Digit_any _ _).mono ?_; rintro e w' ⟨rfl, rfl⟩))
              first
                | (go_ret; exact ⟨ret_bool (allNm_bad hlt (by simp [okNm, *])).symm, rfl⟩)
                | (go_round
                   case rel => exact ⟨k + 1, by omega, by go_num, allNm_step hlt H0.out (by simp [okNm, *])⟩
                   case measure => simp [intOf]; omega)
          · go_wp2
            go_ret
            exact ⟨ret_bool (allNm_full (by omega) H0.out).symm, rfl⟩
      · rw [nameB_head c2 (by omega)]
        have c4 : smallB s[0].toNat = false := inB_false.2 (by omega)
        clear c3
        go_enter Try.func49, Try.ntmps49
        go_wp2_with (go_at_call 70; refine (l01Small_any _ _).mono ?_; rintro e w' ⟨rfl, rfl⟩)
        go_ret
        exact ⟨rfl, rfl⟩
theorem nameB_len {s : ByteArray} (h : nameB s = true) : s.size ≤ 10 := by
  by_cases h1 : 10 < s.size
  · rw [nameB_long h1] at h; cases h
  · omega
end Go.Proofs.Ytjfaafoldllppaa
