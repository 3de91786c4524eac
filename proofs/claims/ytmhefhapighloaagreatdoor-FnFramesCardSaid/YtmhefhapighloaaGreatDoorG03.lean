/- Parts of the proof: Tb, Nm, Cc, TBlock, PBlock, Seg, Bk, Bv, Bu, Sa, Sp, Ix, Law, LawS. -/
import Derived.Test.YtmhefhapighloaaGreatDoorG01
import Derived.Test.YtmhefhapighloaaGreatDoorG02
import Derived.LaidSub
import Derived.MakeChecks
import Derived.Lib.LaidTab
import Derived.Lib.AppendIntMem
import Derived.Lib.SmallJoins
import Derived.Laws.Entries
import Derived.OrdersHeld
import Derived.Deep.RegionHeld
import Derived.Lib.IndexLaws
import Derived.Lib.Builder
import Derived.Lib.AppendStr
import Derived.Lib.UnsafeStr
import Derived.Lib.MakeNoZero
import Derived.Laws.Externs
import Derived.Lib.SplitLaws
import Derived.Lib.CutLaws
import Derived.ProofKit
import Derived.ChangeSame
import Derived.HandedShaped
import Derived.Shelf.Vars
namespace Go.Proofs.YtmhefhapighloaaGreatDoor
open Go.RowKit
set_option linter.unusedVariables false

def Tab10 (w : World) : Prop := Lib.TabIs Tryz.prog w "internal/strconv.uint64pow10" .u64 Lib.pow10Tab
theorem Tab10.below {w w' : World} (h : Tab10 w) (hb : Below w.heap.size w w') : Tab10 w' :=
  Go.Joins.var_stays (g := 0) (by kernel_rfl) h hb (Nat.le_refl _)
theorem tab10_of {laid : List (String × DataW Unit)} {W : World} (h : laidMetH Tryz.prog laid W) (hl : laid.filter (fun x => x.1 == "internal/strconv.uint64pow10") = [("internal/strconv.uint64pow10", Lib.tabData .u64 Lib.pow10Tab)]) : Tab10 W := by
  have h1 := h.filter (fun x => x.1 == "internal/strconv.uint64pow10")
  rw [hl] at h1
  have h1 := Eq.mp (MakeChecks.laidMetH_plain _ _ _ rfl) h1
  exact Lib.tabIs_of_head (g := 0) (t := 155) (n := 20) (e := 81) (by kernel_rfl) (by kernel_rfl) Tryz.underlying155 Tryz.underlying81 (by kernel_rfl) (by kernel_rfl) h1
theorem decS_size (n : Int) : (decS n).size = (Lib.itoa n).length := by unfold decS; show (Lib.itoa n).toArray.size = _; simp
theorem itoa_len20 {n : Int} (h0 : -9223372036854775808 ≤ n) (h1 : n ≤ 9223372036854775807) : (Lib.itoa n).length ≤ 21 := by
  by_cases h : n = 0
  · subst h; rw [← decS_size, decS_zero]; decide
  · rw [itoa_ne h, List.length_append]
    have := dig_len 20 n.natAbs (by omega)
    split <;> simp <;> omega
theorem itoa_len5 (n : Nat) (h : n < 65536) : (Lib.itoa (n : Int)).length ≤ 5 := by
  by_cases h0 : n = 0
  · subst h0; rw [← decS_size, show ((0 : Nat) : Int) = 0 from rfl, decS_zero]; decide
  · rw [itoa_ne (by omega), if_neg (by omega)]
    have := dig_len 5 n (by omega)
    simpa using this
theorem Decimal_any (n : Int) (w : World) (h0 : -9223372036854775808 ≤ n) (h1 : n ≤ 9223372036854775807) (ht : Tab10 w) :
    Calls Tryz.prog 22 #[.int .i64 n] w fun e w' => e = .returned (.string (decS n)) ∧ Below w.heap.size w w' := by
  go_enter Tryz.func22, Tryz.ntmps22
  go_wp2_with fail
  refine (Tryz.strconv_FormatInt_10 n h0 h1 _ ht).mono ?_
  rintro e w1 ⟨rfl, k, os, rfl⟩
  have hb := Lib.below_grow w.heap.size w (Nat.le_refl _) k os
  generalize Go.Sort.grow (w.drewN k) os = w1 at *
  go_wp2
  go_ret
  exact ⟨rfl, hb⟩

end Go.Proofs.YtmhefhapighloaaGreatDoor

namespace Go.Proofs.YtmhefhapighloaaGreatDoor
open Go.RowKit

def inB (a lo hi : Int) : Bool := decide (lo ≤ a) && decide (a ≤ hi)
theorem inB_true {a lo hi : Int} : inB a lo hi = true ↔ lo ≤ a ∧ a ≤ hi := by simp [inB]
theorem inB_false {a lo hi : Int} : inB a lo hi = false ↔ a < lo ∨ hi < a := by
  simp [inB]
  omega

set_option maxRecDepth 100000 in
set_option maxHeartbeats 400000 in
theorem l00InB_any (a b c : Int) (w : World) :
    Calls Tryz.prog 71 #[.int .i64 a, .int .i64 b, .int .i64 c] w fun e w' => e = .returned (.bool (inB a b c)) ∧ w = w' := by
  go_enter Tryz.func71, Tryz.ntmps71
  go_wp2
  all_goals
    go_ret
    exact ⟨ret_bool (by simp [inB, *] <;> omega), rfl⟩
set_option maxRecDepth 100000 in
set_option maxHeartbeats 400000 in
theorem withinB_any (a b c : Int) (w : World) :
    Calls Tryz.prog 30 #[.int .i64 a, .int .i64 b, .int .i64 c] w fun e w' => e = .returned (.bool (inB a b c)) ∧ w = w' := by
  go_enter Tryz.func30, Tryz.ntmps30
  go_wp2
  all_goals
    go_ret
    exact ⟨ret_bool (by simp [inB, *] <;> omega), rfl⟩

def smallB (c : Int) : Bool := inB c 97 122
def digitB (c : Int) : Bool := inB c 48 57
def okNm (c : UInt8) : Bool := smallB c.toNat || digitB c.toNat
def allNm (l : List UInt8) : Bool := l.all okNm
def headNm (s : ByteArray) : Bool := match s.data.toList with | [] => false | c :: _ => smallB c.toNat
def nameB (s : ByteArray) : Bool := decide (s.size ≤ 10) && headNm s && allNm s.data.toList

theorem headNm_zero {s : ByteArray} (h : s.size = 0) : headNm s = false := by
  unfold headNm
  have : s.data.toList = [] := List.eq_nil_of_length_eq_zero (by simpa using h)
  rw [this]
theorem headNm_pos {s : ByteArray} (h : 0 < s.size) : headNm s = smallB s[0].toNat := by
  obtain ⟨⟨l⟩⟩ := s
  cases l with
  | nil => exact absurd h (by show ¬ 0 < 0; omega)
  | cons c r => rfl
theorem allNm_step {s : ByteArray} {k : Nat} (h : k < s.size) (h0 : allNm (s.data.toList.take k) = true) (h1 : okNm s[k] = true) : allNm (s.data.toList.take (k + 1)) = true := by
  rw [List.take_succ_eq_append_getElem (by simpa using h)]
  unfold allNm at *
  rw [List.all_append, h0]
  simp only [List.all_cons, List.all_nil, Bool.and_true, Bool.true_and]
  exact h1
theorem allNm_bad {s : ByteArray} {k : Nat} (h : k < s.size) (h1 : okNm s[k] = false) : allNm s.data.toList = false := by
  unfold allNm
  rw [List.all_eq_false]
  exact ⟨s[k], Array.mem_toList_iff.2 (Array.getElem_mem _), by rw [h1]; simp⟩
theorem allNm_full {s : ByteArray} {k : Nat} (h : s.size ≤ k) (h0 : allNm (s.data.toList.take k) = true) : allNm s.data.toList = true := by
  rwa [List.take_of_length_le (by simpa using h)] at h0

theorem okNm_true {c : UInt8} (h : (97 ≤ (c.toNat : Int) ∧ (c.toNat : Int) ≤ 122) ∨ (48 ≤ (c.toNat : Int) ∧ (c.toNat : Int) ≤ 57)) : okNm c = true := by
  simp only [okNm, smallB, digitB, Bool.or_eq_true, inB_true]; exact h
theorem okNm_false {c : UInt8} (h : ((c.toNat : Int) < 97 ∨ 122 < (c.toNat : Int)) ∧ ((c.toNat : Int) < 48 ∨ 57 < (c.toNat : Int))) : okNm c = false := by
  simp only [okNm, smallB, digitB, Bool.or_eq_false_iff, inB_false]; exact h

set_option maxRecDepth 100000 in
set_option maxHeartbeats 1000000 in
theorem onlyNameBytes_any (s : ByteArray) (w : World) (hs : s.size ≤ 9223372036854775807) :
    Calls Tryz.prog 103 #[.string s] w fun e w' => e = .returned (.bool (allNm s.data.toList)) ∧ w = w' := by
  go_enter Tryz.func103, Tryz.ntmps103
  go_wp2
  go_loop [7] (fun i => ∃ k : Nat, k ≤ s.size ∧ i = .int .i64 k ∧ allNm (s.data.toList.take k) = true) (fun i => s.size - (intOf i).toNat)
  case atStart => exact ⟨0, Nat.zero_le _, rfl, rfl⟩
  case round =>
    obtain ⟨k, hk, rfl, h0⟩ := hrel
    have H0 := Lib.hid h0
    clear h0
    by_cases hlt : k < s.size
    · go_wp2
      all_goals first
        | (go_ret; exact ⟨ret_bool (allNm_bad hlt (okNm_false (by omega))).symm, rfl⟩)
        | (go_round
           case rel => exact ⟨k + 1, by omega, by go_num, allNm_step hlt H0.out (okNm_true (by omega))⟩
           case measure => simp [intOf]; omega)
    · go_wp2
      go_ret
      exact ⟨ret_bool (allNm_full (by omega) H0.out).symm, rfl⟩
theorem nameB_empty {s : ByteArray} (h : s.size = 0) : nameB s = false := by simp [nameB, headNm_zero h]
theorem nameB_long {s : ByteArray} (h : 10 < s.size) : nameB s = false := by
  have : decide (s.size ≤ 10) = false := by simp; omega
  simp [nameB, this]
theorem nameB_head {s : ByteArray} (h : 0 < s.size) (h1 : (s[0].toNat : Int) < 97 ∨ 122 < (s[0].toNat : Int)) : nameB s = false := by
  have : headNm s = false := by rw [headNm_pos h]; exact inB_false.2 h1
  simp [nameB, this]
theorem nameB_rest {s : ByteArray} (h : 0 < s.size) (h0 : s.size ≤ 10) (h1 : 97 ≤ (s[0].toNat : Int) ∧ (s[0].toNat : Int) ≤ 122) : nameB s = allNm s.data.toList := by
  have : headNm s = true := by rw [headNm_pos h]; exact inB_true.2 h1
  simp [nameB, this, h0]

set_option maxRecDepth 100000 in
set_option maxHeartbeats 1000000 in
theorem implIsName_any (s : ByteArray) (w : World) (hs : s.size ≤ 9223372036854775807) :
    Calls Tryz.prog 77 #[.string s] w fun e w' => e = .returned (.bool (nameB s)) ∧ w = w' := by
  by_cases c0 : s.size = 0
  · rw [nameB_empty c0]
    have c0' : (s.size : Int) < 1 := by omega
    clear c0
    go_enter Tryz.func77, Tryz.ntmps77
    go_wp2
    go_ret
    exact ⟨rfl, rfl⟩
  · by_cases c1 : 10 < s.size
    · rw [nameB_long c1]
      go_enter Tryz.func77, Tryz.ntmps77
      go_wp2
      go_ret
      exact ⟨rfl, rfl⟩
    · have c2 : 0 < s.size := by omega
      by_cases c3 : 97 ≤ (s[0].toNat : Int) ∧ (s[0].toNat : Int) ≤ 122
      · rw [nameB_rest c2 (by omega) c3]
        obtain ⟨c4, c5⟩ := c3
        go_enter Tryz.func77, Tryz.ntmps77
        go_wp2_with (go_at_call 103; refine (onlyNameBytes_any _ _ hs).mono ?_; rintro e w' ⟨rfl, rfl⟩)
        go_ret
        exact ⟨rfl, rfl⟩
      · rw [nameB_head c2 (by omega)]
        by_cases c4 : (s[0].toNat : Int) < 97
        · clear c3
          go_enter Tryz.func77, Tryz.ntmps77
          go_wp2
          go_ret
          exact ⟨rfl, rfl⟩
        · have c5 : 122 < (s[0].toNat : Int) := by omega
          clear c3
          go_enter Tryz.func77, Tryz.ntmps77
          go_wp2
          go_ret
          exact ⟨rfl, rfl⟩
set_option maxRecDepth 100000 in
set_option maxHeartbeats 400000 in
theorem l01Small_any (c : Int) (w : World) :
    Calls Tryz.prog 101 #[.int .u8 c] w fun e w' => e = .returned (.bool (smallB c)) ∧ w = w' := by
  go_enter Tryz.func101, Tryz.ntmps101
  go_wp2
  all_goals
    go_ret
    exact ⟨ret_bool (by simp [smallB, inB, *] <;> omega), rfl⟩
set_option maxRecDepth 100000 in
set_option maxHeartbeats 400000 in
theorem l01Digit_any (c : Int) (w : World) :
    Calls Tryz.prog 102 #[.int .u8 c] w fun e w' => e = .returned (.bool (digitB c)) ∧ w = w' := by
  go_enter Tryz.func102, Tryz.ntmps102
  go_wp2
  all_goals
    go_ret
    exact ⟨ret_bool (by simp [digitB, inB, *] <;> omega), rfl⟩

set_option maxRecDepth 100000 in
set_option maxHeartbeats 1000000 in
theorem l01Name_any (s : ByteArray) (w : World) (hs : s.size ≤ 9223372036854775807) :
    Calls Tryz.prog 70 #[.string s] w fun e w' => e = .returned (.bool (nameB s)) ∧ w = w' := by
  by_cases c0 : s.size = 0
  · rw [nameB_empty c0]
    have e0 : s = ⟨#[]⟩ := ByteArray.ext (Array.eq_empty_of_size_eq_zero c0)
    subst e0
    clear c0
    go_enter Tryz.func70, Tryz.ntmps70
    go_wp2
    go_ret
    exact ⟨rfl, rfl⟩
  · have hemp : s.toList.isEmpty = false := by
      rw [ByteArray.toList_eq]
      cases hl : s.data.toList with
      | nil => exact absurd (by have := congrArg List.length hl; simpa using this) c0
      | cons => rfl
    by_cases c1 : 10 < s.size
    · rw [nameB_long c1]
      go_enter Tryz.func70, Tryz.ntmps70
      go_wp2
      go_ret
      exact ⟨rfl, rfl⟩
    · have c2 : 0 < s.size := by omega
      by_cases c3 : 97 ≤ (s[0].toNat : Int) ∧ (s[0].toNat : Int) ≤ 122
      · rw [nameB_rest c2 (by omega) c3]
        have c4 : smallB s[0].toNat = true := inB_true.2 c3
        clear c3
        go_enter Tryz.func70, Tryz.ntmps70
        go_wp2_with (go_at_call 101; refine (l01Small_any _ _).mono ?_; rintro e w' ⟨rfl, rfl⟩)
        clear c4
        go_loop [3] (fun i => ∃ k : Nat, k ≤ s.size ∧ i = .int .i64 k ∧ allNm (s.data.toList.take k) = true) (fun i => s.size - (intOf i).toNat)
        case atStart => exact ⟨0, Nat.zero_le _, rfl, rfl⟩
        case round =>
          obtain ⟨k, hk, rfl, h0⟩ := hrel
          have H0 := Lib.hid h0
          clear h0
          by_cases hlt : k < s.size
          · cases d1 : smallB s[k].toNat <;> cases d2 : digitB s[k].toNat
            all_goals
              go_wp2_with (first | (go_at_call 101; refine (l01Small_any _ _).mono ?_; rintro e w' ⟨rfl, rfl⟩) | (go_at_call 102; refine (l01Digit_any _ _).mono ?_; rintro e w' ⟨rfl, rfl⟩))
              first
                | (go_ret; exact ⟨ret_bool (allNm_bad hlt (by simp [okNm, *])).symm, rfl⟩)
                | (go_round
                   case rel => exact ⟨k + 1, by omega, by go_num, allNm_step hlt H0.out (by simp [okNm, *])⟩
                   case measure => simp [intOf]; omega)
          · go_wp2
            go_ret
            exact ⟨ret_bool (allNm_full (by omega) H0.out).symm, rfl⟩
      · rw [nameB_head c2 (by omega)]
        have c4 : smallB s[0].toNat = false := inB_false.2 (by omega)
        clear c3
        go_enter Tryz.func70, Tryz.ntmps70
        go_wp2_with (go_at_call 101; refine (l01Small_any _ _).mono ?_; rintro e w' ⟨rfl, rfl⟩)
        go_ret
        exact ⟨rfl, rfl⟩
end Go.Proofs.YtmhefhapighloaaGreatDoor

namespace Go.Proofs.YtmhefhapighloaaGreatDoor
open Go.RowKit
set_option linter.unusedVariables false

def crcBit (x : Nat) : Nat := if 65535 < 2 * x then (2 * x &&& 65535) ^^^ 4129 else 2 * x
theorem crcBit_lt {x : Nat} (h : x < 65536) : crcBit x < 65536 := by
  unfold crcBit
  split
  · have h1 : 2 * x &&& 65535 < 2 ^ 16 := Nat.lt_of_le_of_lt Nat.and_le_right (by decide)
    exact Nat.xor_lt_two_pow (n := 16) h1 (by decide)
  · omega
def crcIt : Nat → Nat → Nat
  | 0, x => x
  | k + 1, x => crcBit (crcIt k x)
theorem crcIt_lt {x : Nat} (h : x < 65536) : ∀ k, crcIt k x < 65536
  | 0 => h
  | k + 1 => crcBit_lt (crcIt_lt h k)
def crcIn (x : Nat) (b : UInt8) : Nat := x ^^^ (b.toNat * 256)
theorem crcIt_succ (k x : Nat) : crcIt (k + 1) x = crcBit (crcIt k x) := rfl
theorem crcIt_zero (x : Nat) : crcIt 0 x = x := rfl
theorem crcIn_lt {x : Nat} (h : x < 65536) (b : UInt8) : crcIn x b < 65536 := by
  have := b.toNat_lt
  exact Nat.xor_lt_two_pow (n := 16) h (by omega)
def crcL (l : List UInt8) (x : Nat) : Nat := l.foldl (fun x b => crcIt 8 (crcIn x b)) x
theorem crcL_lt : ∀ (l : List UInt8) {x : Nat}, x < 65536 → crcL l x < 65536
  | [], _, h => h
  | b :: l, x, h => by
    have h1 := crcIt_lt (crcIn_lt h b) 8
    unfold crcL
    rw [List.foldl_cons]
    generalize crcIt 8 (crcIn x b) = y at *
    exact crcL_lt l h1
theorem crcL_step {s : ByteArray} {k : Nat} (h : k < s.size) (x : Nat) : crcL (s.data.toList.take (k + 1)) x = crcIt 8 (crcIn (crcL (s.data.toList.take k) x) s[k]) := by
  rw [List.take_succ_eq_append_getElem (by simpa using h)]
  unfold crcL
  rw [List.foldl_append, List.foldl_cons, List.foldl_nil]
  rw [show s.data.toList[k]'(by simpa using h) = s[k] from rfl]
def crcF (s : ByteArray) : Nat := crcL s.data.toList 65535
theorem crcF_lt (s : ByteArray) : crcF s < 65536 := by
  unfold crcF
  exact crcL_lt (x := 65535) s.data.toList (by omega)
theorem xor_i64 (a b : Nat) (ha : a < 1048576) (hb : b < 1048576) : bits .xor .i64 (a : Int) (b : Int) = ((a ^^^ b : Nat) : Int) := by
  have hx : a ^^^ b < 2 ^ 20 := Nat.xor_lt_two_pow (by omega) (by omega)
  have h1 : (BitVec.ofInt 64 (a : Int)).toNat = a := by
    rw [BitVec.ofInt_natCast, BitVec.toNat_ofNat]; exact Nat.mod_eq_of_lt (by omega)
  have h2 : (BitVec.ofInt 64 (b : Int)).toNat = b := by
    rw [BitVec.ofInt_natCast, BitVec.toNat_ofNat]; exact Nat.mod_eq_of_lt (by omega)
  show IntKind.i64.wrap ((BitVec.ofInt 64 (a : Int) ^^^ BitVec.ofInt 64 (b : Int)).toNat : Int) = _
  rw [BitVec.toNat_xor, h1, h2]
  simp [IntKind.wrap, IntKind.bits, IntKind.signed]
  omega
theorem and_i64 (a b : Nat) (ha : a < 1048576) (hb : b < 1048576) : bits .and .i64 (a : Int) (b : Int) = ((a &&& b : Nat) : Int) := by
  have hx : a &&& b ≤ b := Nat.and_le_right
  have h1 : (BitVec.ofInt 64 (a : Int)).toNat = a := by
    rw [BitVec.ofInt_natCast, BitVec.toNat_ofNat]; exact Nat.mod_eq_of_lt (by omega)
  have h2 : (BitVec.ofInt 64 (b : Int)).toNat = b := by
    rw [BitVec.ofInt_natCast, BitVec.toNat_ofNat]; exact Nat.mod_eq_of_lt (by omega)
  show IntKind.i64.wrap ((BitVec.ofInt 64 (a : Int) &&& BitVec.ofInt 64 (b : Int)).toNat : Int) = _
  rw [BitVec.toNat_and, h1, h2]
  simp [IntKind.wrap, IntKind.bits, IntKind.signed]
  omega
theorem w64_in (n : Int) (h : -9223372036854775808 ≤ n ∧ n ≤ 9223372036854775807) : wrap64 n = n := by unfold wrap64; omega
theorem crcBit_hi {x : Nat} (h : x < 65536) (h1 : 65535 < 2 * x) : bits .xor .i64 (bits .and .i64 ((2 * x : Nat) : Int) 65535) 4129 = (crcBit x : Int) := by
  rw [show (65535 : Int) = ((65535 : Nat) : Int) from rfl, show (4129 : Int) = ((4129 : Nat) : Int) from rfl, and_i64 _ _ (by omega) (by decide)]
  have h2 : 2 * x &&& 65535 ≤ 65535 := Nat.and_le_right
  rw [xor_i64 _ _ (by omega) (by decide)]
  unfold crcBit
  rw [if_pos h1]
attribute [local irreducible] crcIt crcBit crcIn crcL
set_option maxRecDepth 100000 in
set_option maxHeartbeats 2000000 in
theorem l01Crc_any (s : ByteArray) (w : World) (hs : s.size ≤ 1048576) :
    Calls Tryz.prog 98 #[.string s, .int .i64 65535] w fun e w' => e = .returned (.int .i64 (crcF s : Int)) ∧ w = w' := by
  have hin : crcL (s.data.toList.take 0) 65535 = 65535 := by unfold crcL; rfl
  have HI := Lib.hid hin
  clear hin
  go_enter Tryz.func98, Tryz.ntmps98
  go_wp2
  go_loop [1, 5] (fun c i => ∃ k : Nat, k ≤ s.size ∧ i = .int .i64 k ∧ ∃ q : Nat, c = .int .i64 q ∧ q < 65536 ∧ Hid (q = crcL (s.data.toList.take k) 65535)) (fun _ i => s.size - (intOf i).toNat)
  case atStart => exact ⟨0, Nat.zero_le _, rfl, 65535, rfl, by decide, by show _ = _; exact HI.out.symm⟩
  case round =>
    obtain ⟨k, hk, rfl, q, rfl, hq, HQ⟩ := hrel
    by_cases hlt : k < s.size
    · have hx1 : bits .xor .i64 (q : Int) ((s[k].toNat : Int) * 256) = (crcIn q s[k] : Int) := by
        have h := s[k].toNat_lt
        rw [show ((s[k].toNat : Int) * 256) = ((s[k].toNat * 256 : Nat) : Int) from by push_cast; rfl, xor_i64 _ _ (by omega) (by omega)]; unfold crcIn; rfl
      have hq1 := crcIn_lt hq s[k]
      have HX := Lib.hid hx1
      have HQ2 : Hid (crcIt 8 (crcIn q s[k]) = crcL (s.data.toList.take (k + 1)) 65535) := by show _ = _; rw [crcL_step hlt, ← HQ.out]
      have HX3 : Hid (bits .xor .i64 (q : Int) (wrap64 (wrap64 (s[k].toNat : Int) * 256)) = (crcIn q s[k] : Int)) := by
        have h := s[k].toNat_lt
        show _ = _
        rw [w64_in (s[k].toNat : Int) (by omega), w64_in _ (by omega)]; exact HX.out
      clear hx1 hq
      go_wp2
      go_loop [1, 6] (fun c j => ∃ m : Nat, m ≤ 8 ∧ j = .int .i64 m ∧ ∃ x : Nat, c = .int .i64 x ∧ x < 65536 ∧ Hid (x = crcIt m (crcIn q s[k]))) (fun _ j => 8 - (intOf j).toNat)
      case atStart => exact ⟨0, Nat.zero_le _, rfl, crcIn q s[k], by rw [← HX3.out], hq1, by show _ = _; rw [crcIt_zero]⟩
      case round =>
        obtain ⟨m, hm, rfl, x, rfl, hx, HM⟩ := hrel
        by_cases hml : m < 8
        · have HM2 : Hid (crcBit x = crcIt (m + 1) (crcIn q s[k])) := by show _ = _; rw [HM.out, crcIt_succ]
          have hx2 := crcBit_lt hx
          by_cases hb : 65535 < 2 * x
          · have HV := Lib.hid (crcBit_hi hx hb)
            go_wp2
            go_round
            case measure => simp [intOf]; omega
            case rel => exact ⟨m + 1, by omega, by go_num, crcBit x, congrArg (Value.int .i64) (by have h := HV.out; rw [show ((2 * x : Nat) : Int) = (x : Int) * 2 by omega] at h; exact h), hx2, HM2⟩
          · have HV : Hid ((2 * x : Nat) = crcBit x) := by show _ = _; unfold crcBit; rw [if_neg hb]
            go_wp2
            go_round
            case measure => simp [intOf]; omega
            case rel => exact ⟨m + 1, by omega, by go_num, crcBit x, congrArg (Value.int .i64) (by have h := HV.out; omega), hx2, HM2⟩
        · have hme : m = 8 := by omega
          subst hme
          have HQ3 : Hid (x = crcL (s.data.toList.take (k + 1)) 65535) := by show _ = _; rw [HM.out, HQ2.out]
          go_wp2
          go_round
          case measure => simp [intOf]; omega
          case rel => exact ⟨k + 1, by omega, by go_num, x, rfl, hx, HQ3⟩
    · have hke : k = s.size := by omega
      subst hke
      have hfin : q = crcF s := by rw [HQ.out, List.take_of_length_le (by simp)]; rfl
      have HF := Lib.hid hfin
      clear hfin
      go_wp2
      go_ret
      exact ⟨by rw [← HF.out]; rfl, rfl⟩
set_option maxRecDepth 100000 in
set_option maxHeartbeats 2000000 in
theorem implCrc16_any (s : ByteArray) (w : World) (hs : s.size ≤ 1048576) :
    Calls Tryz.prog 49 #[.string s, .int .i64 65535] w fun e w' => e = .returned (.int .i64 (crcF s : Int)) ∧ w = w' := by
  have hin : crcL (s.data.toList.take 0) 65535 = 65535 := by unfold crcL; rfl
  have HI := Lib.hid hin
  clear hin
  go_enter Tryz.func49, Tryz.ntmps49
  go_wp2_with (go_at_call 30; refine (withinB_any _ _ _ _).mono ?_; rintro e w' ⟨rfl, rfl⟩)
  go_loop [5, 13] (fun c i => ∃ k : Nat, k ≤ s.size ∧ i = .int .i64 k ∧ ∃ q : Nat, c = .int .i64 q ∧ q < 65536 ∧ Hid (q = crcL (s.data.toList.take k) 65535)) (fun _ i => s.size - (intOf i).toNat)
  case atStart => exact ⟨0, Nat.zero_le _, rfl, 65535, rfl, by decide, by show _ = _; exact HI.out.symm⟩
  case round =>
    obtain ⟨k, hk, rfl, q, rfl, hq, HQ⟩ := hrel
    by_cases hlt : k < s.size
    · have hx1 : bits .xor .i64 (q : Int) ((s[k].toNat : Int) * 256) = (crcIn q s[k] : Int) := by
        have h := s[k].toNat_lt
        rw [show ((s[k].toNat : Int) * 256) = ((s[k].toNat * 256 : Nat) : Int) from by push_cast; rfl, xor_i64 _ _ (by omega) (by omega)]; unfold crcIn; rfl
      have hq1 := crcIn_lt hq s[k]
      have HX := Lib.hid hx1
      have HQ2 : Hid (crcIt 8 (crcIn q s[k]) = crcL (s.data.toList.take (k + 1)) 65535) := by show _ = _; rw [crcL_step hlt, ← HQ.out]
      have HX3 : Hid (bits .xor .i64 (q : Int) (wrap64 (wrap64 (s[k].toNat : Int) * 256)) = (crcIn q s[k] : Int)) := by
        have h := s[k].toNat_lt
        show _ = _
        rw [w64_in (s[k].toNat : Int) (by omega), w64_in _ (by omega)]; exact HX.out
      clear hx1 hq
      go_wp2
      go_loop [5, 23] (fun c j => ∃ m : Nat, m ≤ 8 ∧ j = .int .i64 m ∧ ∃ x : Nat, c = .int .i64 x ∧ x < 65536 ∧ Hid (x = crcIt m (crcIn q s[k]))) (fun _ j => 8 - (intOf j).toNat)
      case atStart => exact ⟨0, Nat.zero_le _, rfl, crcIn q s[k], by rw [← HX3.out], hq1, by show _ = _; rw [crcIt_zero]⟩
      case round =>
        obtain ⟨m, hm, rfl, x, rfl, hx, HM⟩ := hrel
        by_cases hml : m < 8
        · have HM2 : Hid (crcBit x = crcIt (m + 1) (crcIn q s[k])) := by show _ = _; rw [HM.out, crcIt_succ]
          have hx2 := crcBit_lt hx
          by_cases hb : 65535 < 2 * x
          · have HV := Lib.hid (crcBit_hi hx hb)
            go_wp2
            go_round
            case measure => simp [intOf]; omega
            case rel => exact ⟨m + 1, by omega, by go_num, crcBit x, congrArg (Value.int .i64) (by have h := HV.out; rw [show ((2 * x : Nat) : Int) = (x : Int) * 2 by omega] at h; exact h), hx2, HM2⟩
          · have HV : Hid ((2 * x : Nat) = crcBit x) := by show _ = _; unfold crcBit; rw [if_neg hb]
            go_wp2
            go_round
            case measure => simp [intOf]; omega
            case rel => exact ⟨m + 1, by omega, by go_num, crcBit x, congrArg (Value.int .i64) (by have h := HV.out; omega), hx2, HM2⟩
        · have hme : m = 8 := by omega
          subst hme
          have HQ3 : Hid (x = crcL (s.data.toList.take (k + 1)) 65535) := by show _ = _; rw [HM.out, HQ2.out]
          go_wp2
          go_round
          case measure => simp [intOf]; omega
          case rel => exact ⟨.int .i64 x, .int .i64 k, .int .i64 ((k + 1 : Nat) : Int), ⟨k + 1, by omega, rfl, x, rfl, hx, HQ3⟩, rfl, rfl, by go_num⟩
    · have hke : k = s.size := by omega
      subst hke
      have hfin : q = crcF s := by rw [HQ.out, List.take_of_length_le (by simp)]; rfl
      have HF := Lib.hid hfin
      clear hfin
      go_wp2
      go_ret
      exact ⟨by rw [← HF.out]; rfl, rfl⟩

end Go.Proofs.YtmhefhapighloaaGreatDoor

namespace Go.Proofs.YtmhefhapighloaaGreatDoor
open Go.RowKit
set_option linter.unusedVariables false

structure DBlock where
  kind : ByteArray
  name : ByteArray
  text : ByteArray
  deriving DecidableEq

def fBlock : Flat DBlock where
  n := 3
  enc := fun x => [.string x.kind, .string x.name, .string x.text]
  ok := fun x => fStr.ok x.kind ∧ fStr.ok x.name ∧ fStr.ok x.text
  pos := by omega
  len := fun _ => rfl
  one := by intro x v hv; simp at hv; rcases hv with rfl | rfl | rfl <;> rfl

def totBlock (x : DBlock) : Nat := x.kind.size + x.name.size + x.text.size
def totBlockS (xs : List DBlock) : Nat := xs.length + (xs.map totBlock).sum






def mkBlock (k : Int) : DBlock := ⟨mt (k), mt (k + 1), mt (k + 1 + 1)⟩
def marksBlock (k : Int) (n : Nat) : List DBlock := (List.range n).map fun (i : Nat) => mkBlock (k + 3 * (i : Int))

theorem marksBlock_get (k0 : Int) (n i : Nat) (h : i < (marksBlock k0 n).length) : (marksBlock k0 n)[i] = mkBlock (k0 + 3 * (i : Int)) := by
  simp [marksBlock]
theorem marksBlock_len (k0 : Int) (n : Nat) : (marksBlock k0 n).length = n := by simp [marksBlock]



end Go.Proofs.YtmhefhapighloaaGreatDoor

namespace Go.Proofs.YtmhefhapighloaaGreatDoor
open Go.RowKit
set_option linter.unusedVariables false

/-- A pointer to a Block that lies somewhere. -/
structure PBlock (w : World) (pb po : Nat) (x : DBlock) : Prop where
  c0 : w.cell? ⟨pb, po, none⟩ = some (.string x.kind)
  c1 : w.cell? ⟨pb, po + 1, none⟩ = some (.string x.name)
  c2 : w.cell? ⟨pb, po + 2, none⟩ = some (.string x.text)
theorem PBlock.below {w w' : World} {pb po : Nat} {x : DBlock} {B : Nat} (h : PBlock w pb po x) (hb : Below B w w') (hB : pb < B) : PBlock w' pb po x :=
  ⟨(hb.cell (p := ⟨pb, _, none⟩) hB).trans h.c0, (hb.cell (p := ⟨pb, _, none⟩) hB).trans h.c1, (hb.cell (p := ⟨pb, _, none⟩) hB).trans h.c2⟩
theorem PBlock.drewN {w : World} {pb po : Nat} {x : DBlock} (h : PBlock w pb po x) (n : Nat) : PBlock (w.drewN n) pb po x :=
  ⟨h.c0, h.c1, h.c2⟩
theorem PBlock.lt {w : World} {pb po : Nat} {x : DBlock} (h : PBlock w pb po x) : pb < w.heap.size := block_lt_of_cell h.c0
theorem PBlock.below' {w w' : World} {pb po : Nat} {x : DBlock} (h : PBlock w pb po x) (hb : Below w.heap.size w w') : PBlock w' pb po x := h.below hb h.lt
theorem PBlock.box (w : World) (x : DBlock) (T : TypeId) : PBlock (w.alloc (.cells #[.string x.kind, .string x.name, .string x.text] T)) w.heap.size 0 x := by
  constructor <;> simp
theorem PBlock.elem {w : World} {A : Option Addr} {len cap : Nat} {xs : List DBlock} {fp : List Nat} (h : Sl fBlock.cod w (.slice A len cap) xs fp) {k : Nat} (hk : k < xs.length) :
    ∃ b off, A = some ⟨b, off, none⟩ ∧ b ∈ fp ∧ fBlock.ok xs[k] ∧ PBlock w b (off + k * 3) xs[k] := by
  obtain ⟨b, off, hA, hm, hok, hc, _⟩ := h.at_ hk
  exact ⟨b, off, hA, hm, hok, ⟨hc 0 (by decide), hc 1 (by decide), hc 2 (by decide)⟩⟩
end Go.Proofs.YtmhefhapighloaaGreatDoor

namespace Go.Proofs.YtmhefhapighloaaGreatDoor
open Go.RowKit

/-- Operations that yield a value and do nothing else. -/
def valueOnly (o : Oper) : Bool :=
  match o.op with
  | .move _ | .assign _ | .pick .. | .load .. | .binOp .. | .unOp .. | .convert .. | .slice .. | .fieldAddr .. | .field .. | .indexAddr .. | .index .. | .lookup .. | .build .. | .extract .. | .typeAssert .. | .sliceToArrayPointer .. | .makeInterface .. => true
  | .nilCheck _ => true
  | .call { callee := .builtin b, .. } => match b with | .len | .cap | .max | .min => true | _ => false
  | _ => false

theorem value_of_map {P : Program} {s : Sem Value} {w w' : World} {n : Next} (h : ((do pure (.value (← s)) : Sem Next)).run P w = .ok n w') : ∃ v, n = .value v := by
  rw [Sem.run_bind] at h
  generalize s.run P w = r at h
  cases r with
  | ok v w1 => exact ⟨v, by injection h with h1 _; exact h1.symm⟩
  | halt x w1 => cases h

theorem value_of_valueOnly {P : Program} {ρ : Operand → Value} {o : Oper} {w w' : World} {n : Next} (hv : valueOnly o = true) (h : (execOp ρ o).run P w = .ok n w') : ∃ v, n = .value v := by
  obtain ⟨dst, op, ty, pos, after, guard⟩ := o
  unfold valueOnly at hv
  cases op <;> simp only [Bool.false_eq_true] at hv <;> try contradiction
  case move x => exact ⟨_, by injection h with h1 _; exact h1.symm⟩
  case assign x => exact ⟨_, by injection h with h1 _; exact h1.symm⟩
  case nilCheck x =>
    simp only [execOp] at h
    split at h
    all_goals first
      | (simp [runtimePanic] at h; done)
      | (exact ⟨_, by injection h with h1 _; exact h1.symm⟩)
      | skip
    all_goals
      split at h
      all_goals first
        | (simp [runtimePanic] at h; done)
        | (exact ⟨_, by injection h with h1 _; exact h1.symm⟩)
        | skip
    rename_i t1 w1 _
    rw [Sem.run_bind] at h
    generalize program.run P w = r1 at h
    cases r1 with
    | halt x w1 => cases h
    | ok p w1 =>
      rw [Result.andThen_ok, Sem.run_bind] at h
      generalize Sem.run P (nilAhead _ _ _ _) w1 = r2 at h
      cases r2 with
      | halt x w1 => cases h
      | ok b w2 =>
        rw [Result.andThen_ok] at h
        split at h
        · simp [unsupported] at h
        · exact ⟨_, by injection h with h1 _; exact h1.symm⟩
  case call c =>
    obtain ⟨callee, args, ats⟩ := c
    cases callee <;> simp only [Bool.false_eq_true] at hv <;> try contradiction
    rename_i b
    cases b
    all_goals first
      | exact absurd hv (by decide)
      | exact value_of_map h
  case pick c a b =>
    simp only [execOp] at h
    rw [Sem.run_bind] at h
    generalize (asBool (ρ c)).run P w = r at h
    cases r with
    | ok v w1 => exact ⟨_, by injection h with h1 _; exact h1.symm⟩
    | halt x w1 => cases h
  all_goals exact value_of_map h

section
variable {P : Program} {ops : Array Oper} {Q : Exit → Act → World → Prop} {md : Region.Mode} {C : World → Prop}

/-- The walk: 'true': the operation only looks, and yields one value in every world of the class; 'false': it acts, in the world at hand, and leaves one of the class. -/
def wpMix (P : Program) (ops : Array Oper) (Q : Exit → Act → World → Prop) (C : World → Prop) : List Bool → List Oper → Act → World → Prop
  | _, [], a, w => Q .normal a w
  | [], _ :: _, _, _ => False
  | true :: ks, o :: l, a, w => if Region.wanted o (yielded ops a.tmps) then o.quiet P a C (fun a' => wpMix P ops Q C ks l a' w) else wpMix P ops Q C ks l (a.put o.dst undef) w
  | false :: ks, o :: l, a, w => if Region.wanted o (yielded ops a.tmps) then o.wp P a w (fun a' w' => C w' ∧ wpMix P ops Q C ks l a' w') Q else wpMix P ops Q C ks l (a.put o.dst undef) w

/-- Is this order of the walk one that serves for all? -/
def mixB (md : Region.Mode) (ops : Array Oper) : List Nat → List Bool → Array Bool → Bool
  | [], _, listed => (Region.ready md ops listed).isEmpty
  | i :: is, true :: ks, listed => (Region.ready md ops listed).contains i && Region.free md ops listed i && ((ops[i]?).map valueOnly).getD false && mixB md ops is ks (listed.setIfInBounds i true)
  | i :: is, false :: ks, listed => (Region.ready md ops listed == [i]) && mixB md ops is ks (listed.setIfInBounds i true)
  | _ :: _, [], _ => false

theorem yieldsIf_of_quiet {o : Oper} {a : Act} {K : Act → Prop} (hv : valueOnly o = true) (h : o.quiet P a C K) : ∃ v, (∀ w, C w → (execOp a.eval o).run P w = .ok (.value v) w) ∧ K (a.put o.dst v) := by
  obtain ⟨v, h1, h2⟩ := h
  refine ⟨v, fun w hw => ?_, h2⟩
  have h3 := h1 w hw
  unfold Oper.quietAt at h3
  generalize hr : (execOp a.eval o).run P w = r at h3
  cases r with
  | halt x w' => simp only [Oper.quietUpon] at h3
  | ok n w' =>
    obtain ⟨u, rfl⟩ := value_of_valueOnly hv hr
    simp only [Oper.quietUpon] at h3
    obtain ⟨rfl, rfl⟩ := h3
    rfl

theorem wpAnyH_of_mix (hs : Region.noSelect ops = true) (hQ : ∀ (c : _) (a : Act) (d : Option Tmp) (v : Value) (w : World), Q (.panic c) (a.put d v) w → Q (.panic c) a w) :
    ∀ (is : List Nat) (ks : List Bool) (l : List Oper) (listed : Array Bool) (a : Act) (w : World), (∀ j : Nat, l[j]? = (is[j]?).bind (fun i => ops[i]?)) → l.length = is.length →
      mixB md ops is ks listed = true → C w → wpMix P ops Q C ks l a w → wpAnyH P md ops Q C is.length listed a w := by
  intro is
  induction is with
  | nil =>
    intro ks l listed a w _ hn hB _ h
    obtain rfl : l = [] := List.eq_nil_of_length_eq_zero hn
    have h' : Q .normal a w := by cases ks <;> exact h
    exact ⟨by simpa [mixB] using hB, h'⟩
  | cons i is ih =>
    intro ks l listed a w hl hn hB hC h
    cases l with
    | nil => simp at hn
    | cons o l =>
      have ho : ops[i]? = some o := by simpa using (hl 0).symm
      have hl' : ∀ j : Nat, l[j]? = (is[j]?).bind (fun i => ops[i]?) := fun j => by simpa using hl (j + 1)
      have hn' : l.length = is.length := by simpa using hn
      cases ks with
      | nil => simp [mixB] at hB
      | cons k ks =>
        cases k with
        | true =>
          simp only [mixB, Bool.and_eq_true, ho, Option.map_some, Option.getD_some] at hB
          obtain ⟨⟨⟨hr, hf⟩, hv⟩, hB'⟩ := hB
          simp only [wpMix] at h
          by_cases hw : Region.wanted o (yielded ops a.tmps) = true
          · rw [if_pos hw] at h
            obtain ⟨v, h1, h2⟩ := yieldsIf_of_quiet hv h
            exact wpAnyH_take ho hs hf hr (fun c a w => hQ c a _ _ w) (.inl ⟨hw, h1⟩) hC (ih ks l _ _ w hl' hn' hB' hC h2)
          · rw [if_neg hw] at h
            exact wpAnyH_take ho hs hf hr (fun c a w => hQ c a _ _ w) (.inr ⟨by simpa using hw, rfl⟩) hC (ih ks l _ _ w hl' hn' hB' hC h)
        | false =>
          simp only [mixB, Bool.and_eq_true] at hB
          obtain ⟨hr, hB'⟩ := hB
          simp only [wpMix] at h
          refine wpAnyH_all (rs := [i]) (by simpa using hr) (by simp) (fun j hj => ?_)
          obtain rfl : j = i := by simpa using hj
          unfold wpOp
          simp only [ho]
          by_cases hw : Region.wanted o (yielded ops a.tmps) = true
          · rw [if_pos hw] at h ⊢
            exact .inl (Oper.wp_mono (fun a' w' hh => ⟨hh.1, ih ks l _ a' w' hl' hn' hB' hh.1 hh.2⟩) h)
          · rw [if_neg hw] at h ⊢
            exact ⟨hC, ih ks l _ _ w hl' hn' hB' hC h⟩

/-- The same, closed to whoever would unfold it. -/
structure Mix (P : Program) (ops : Array Oper) (Q : Exit → Act → World → Prop) (C : World → Prop) (ks : List Bool) (l : List Oper) (a : Act) (w : World) : Prop where
  out : wpMix P ops Q C ks l a w
/-- A region, in the text's order. -/
theorem wp_region_mix {id : Nat} {l : List Oper} {a : Act} {w : World} (ks : List Bool) (hm : P.follows .mixedOrders = true) (hs : Region.noSelect l.toArray = true)
    (hB : mixB .any l.toArray (List.range l.length) ks (Array.replicate l.length false) = true)
    (hQ : ∀ (c : _) (a : Act) (d : Option Tmp) (v : Value) (w : World), Q (.panic c) (a.put d v) w → Q (.panic c) a w) (hC : C w.drew) (h : Mix P l.toArray Q C ks l a w.drew) : (Code.region id l.toArray true).wp P Q a w := by
  refine wp_region_held (S := C) hm ?_
  have := wpAnyH_of_mix (md := .any) hs hQ (List.range l.length) ks l (Array.replicate l.length false) a w.drew (fun j => by
    by_cases hj : j < l.length
    · simp [hj]
    · simp [hj]) (by simp) hB hC h.out
  simpa using this
/-- A region, in an order of our own. -/
theorem wp_region_mixed {id : Nat} {l : List Oper} {a : Act} {w : World} (is : List Nat) (ks : List Bool) (hm : P.follows .mixedOrders = true) (hs : Region.noSelect l.toArray = true)
    (hB : (is.all (fun i => decide (i < l.length)) && decide (is.length = l.length) && mixB .any l.toArray is ks (Array.replicate l.length false)) = true)
    (hQ : ∀ (c : _) (a : Act) (d : Option Tmp) (v : Value) (w : World), Q (.panic c) (a.put d v) w → Q (.panic c) a w) (hC : C w.drew) (h : Mix P l.toArray Q C ks (is.map fun i => l.getD i default) a w.drew) : (Code.region id l.toArray true).wp P Q a w := by
  simp only [Bool.and_eq_true, decide_eq_true_eq, List.all_eq_true] at hB
  obtain ⟨⟨h1, h2⟩, h3⟩ := hB
  refine wp_region_held (S := C) hm ?_
  have := wpAnyH_of_mix (md := .any) hs hQ is ks (is.map fun i => l.getD i default) (Array.replicate l.length false) a w.drew (fun j => by
    rw [List.getElem?_map]
    cases hj : is[j]? with
    | none => rfl
    | some i =>
      have hi := h1 i (List.mem_of_getElem? hj)
      simp [hi, List.getD_eq_getElem?_getD]) (by simp) h3 hC h.out
  rw [h2] at this
  simpa using this

theorem wpMix_pure {ks : List Bool} {o : Oper} {l : List Oper} {a : Act} {w : World} (hw : Region.wanted o (yielded ops a.tmps) = true)
    (h : ∀ K : Act → Prop, (∀ a', Mix P ops Q C ks l a' w → K a') → o.quiet P a C K) : Mix P ops Q C (true :: ks) (o :: l) a w := by
  refine ⟨?_⟩
  simp only [wpMix]; rw [if_pos hw]; exact h _ fun _ h => h.out
theorem wpMix_skip {k : Bool} {ks : List Bool} {o : Oper} {l : List Oper} {a : Act} {w : World} (hw : Region.wanted o (yielded ops a.tmps) = false)
    (h : ∀ K : Act → Prop, (∀ a', Mix P ops Q C ks l a' w → K a') → K (a.put o.dst undef)) : Mix P ops Q C (k :: ks) (o :: l) a w := by
  have h' : wpMix P ops Q C ks l (a.put o.dst undef) w := h _ fun _ h => h.out
  refine ⟨?_⟩
  cases k <;> (simp only [wpMix]; rw [if_neg (by rw [hw]; exact Bool.false_ne_true)]; exact h')
theorem wpMix_act {ks : List Bool} {o : Oper} {l : List Oper} {a : Act} {w : World} (hw : Region.wanted o (yielded ops a.tmps) = true)
    (h : ∀ K : Act → World → Prop, (∀ a' w', C w' → Mix P ops Q C ks l a' w' → K a' w') → o.wp P a w K Q) : Mix P ops Q C (false :: ks) (o :: l) a w := by
  refine ⟨?_⟩
  simp only [wpMix]; rw [if_pos hw]; exact h _ fun _ _ hc h => ⟨hc, h.out⟩
theorem mix_world {ks : List Bool} {l : List Oper} {a : Act} {w : World} (X : World → Prop) (hX : X w) (h : ∀ N, X N → Mix P ops Q C ks l a N) : Mix P ops Q C ks l a w := h w hX
/-- The world gets a name, and what is known of it is said. -/
theorem at_world {c : Code} {a : Act} {w : World} (X : World → Prop) (hX : X w) (h : ∀ W, X W → c.wp P Q a W) : c.wp P Q a w := h w hX
theorem wpMix_nil {ks : List Bool} {a : Act} {w : World} (h : Q .normal a w) : Mix P ops Q C ks [] a w := by refine ⟨?_⟩; cases ks <;> exact h
end
end Go.Proofs.YtmhefhapighloaaGreatDoor

namespace Go.Proofs.YtmhefhapighloaaGreatDoor
open Go.RowKit
set_option linter.unusedVariables false

def noNl (l : List UInt8) : Bool := l.all (fun c => !(c == 10))
theorem noNl_step {s : ByteArray} {k : Nat} (h : k < s.size) (h0 : noNl (s.data.toList.take k) = true) (h1 : ¬ (s[k].toNat : Int) = 10) : noNl (s.data.toList.take (k + 1)) = true := by
  rw [List.take_succ_eq_append_getElem (by simpa using h)]
  unfold noNl at *
  rw [List.all_append, h0]
  have : ¬ s[k] = 10 := fun e => h1 (by rw [e]; rfl)
  simp only [List.all_cons, List.all_nil, Bool.and_true, Bool.true_and, Bool.not_eq_true', beq_eq_false_iff_ne]
  exact this
theorem noNl_bad {s : ByteArray} {k : Nat} (h : k < s.size) (h1 : (s[k].toNat : Int) = 10) : noNl s.data.toList = false := by
  unfold noNl
  rw [List.all_eq_false]
  refine ⟨s[k], Array.mem_toList_iff.2 (Array.getElem_mem _), ?_⟩
  have : s[k] = 10 := UInt8.toNat_inj.1 (by have : s[k].toNat = 10 := by omega
                                            rw [this]; rfl)
  simp [this]
theorem noNl_full {s : ByteArray} {k : Nat} (h : s.size ≤ k) (h0 : noNl (s.data.toList.take k) = true) : noNl s.data.toList = true := by
  rwa [List.take_of_length_le (by simpa using h)] at h0
theorem noNl_index (l : List UInt8) : decide (0 ≤ Lib.indexByte l 10) = !(noNl l) := by
  induction l with
  | nil => rfl
  | cons b l ih =>
    have hg := Lib.indexByte_ge l 10
    unfold Lib.indexByte noNl
    by_cases h : b = 10
    · subst h; simp
    · rw [if_neg (by simpa using h)]
      have ih' : decide (0 ≤ Lib.indexByte l 10) = !(l.all fun c => !(c == 10)) := ih
      have hb : (!(b == (10 : UInt8))) = true := by simpa using h
      rw [List.all_cons, hb, Bool.true_and, ← ih']
      by_cases h1 : Lib.indexByte l 10 = -1
      · rw [h1]; rfl
      · rw [if_neg (by simpa using h1)]; simp; omega

def blockB (b : DBlock) : Bool := noNl b.text.data.toList && nameB b.kind && nameB b.name && decide (b.text.size ≤ 400)

set_option maxRecDepth 100000 in
set_option maxHeartbeats 2000000 in
theorem l29One_any (pb po : Nat) (x : DBlock) (w : World) (hp : PBlock w pb po x) (hok : fBlock.ok x) :
    Calls Tryz.prog 61 #[.pointer (some ⟨pb, po, none⟩)] w fun e w' => e = .returned (.bool (blockB x)) ∧ Below w.heap.size w w' := by
  obtain ⟨c0, c1, c2⟩ := hp
  have hok0 : x.kind.size ≤ 9223372036854775807 := hok.1
  have hok1 : x.name.size ≤ 9223372036854775807 := hok.2.1
  have hok2 : x.text.size ≤ 9223372036854775807 := hok.2.2
  go_enter Tryz.func61, Tryz.ntmps61
  go_wp2
  go_loop [3] (fun i => ∃ k : Nat, k ≤ x.text.size ∧ i = .int .i64 k ∧ Hid (noNl (x.text.data.toList.take k) = true)) (fun i => x.text.size - (intOf i).toNat)
  case atStart => exact ⟨0, Nat.zero_le _, rfl, rfl⟩
  case round =>
    obtain ⟨k, hk, rfl, H0⟩ := hrel
    by_cases hlt : k < x.text.size
    · by_cases h10 : (x.text[k].toNat : Int) = 10
      · have e1 : ((x.text[k].toNat : Int) == 10) = true := by simpa using h10
        have HB := Lib.hid (noNl_bad hlt h10)
        clear h10
        go_wp2
        go_ret
        exact ⟨ret_bool (by unfold blockB; rw [HB.out]; rfl), (by repeat (first | exact Below.refl _ _ | assumption | refine Below.alloc ?_ (by first | omega | (simp <;> omega)) _ | refine Below.setCell ?_ (by first | (show _ ≤ _; omega) | (simp <;> omega)) _ | refine Below.drew ?_ | refine below_drewN ?_ _))⟩
      · have e1 : ((x.text[k].toNat : Int) == 10) = false := by simpa using h10
        have HB := Lib.hid (noNl_step hlt H0.out h10)
        clear h10
        go_wp2
        go_round
        case rel => exact ⟨k + 1, by omega, by go_num, HB⟩
        case measure => simp [intOf]; omega
    · have HN := Lib.hid (noNl_full (by omega) H0.out)
      clear H0
      cases h1 : nameB x.kind
      · go_wp2_with (go_at_call 70; refine (l01Name_any _ _ hok0).mono ?_; rintro e w' ⟨rfl, rfl⟩)
        go_ret
        exact ⟨ret_bool (by unfold blockB; rw [HN.out]; simp [*]), (by repeat (first | exact Below.refl _ _ | assumption | refine Below.alloc ?_ (by first | omega | (simp <;> omega)) _ | refine Below.setCell ?_ (by first | (show _ ≤ _; omega) | (simp <;> omega)) _ | refine Below.drew ?_ | refine below_drewN ?_ _))⟩
      · cases h2 : nameB x.name
        · go_wp2_with (go_at_call 70; refine (l01Name_any _ _ (by first | exact hok0 | exact hok1)).mono ?_; rintro e w' ⟨rfl, rfl⟩)
          go_ret
          exact ⟨ret_bool (by unfold blockB; rw [HN.out]; simp [*]), (by repeat (first | exact Below.refl _ _ | assumption | refine Below.alloc ?_ (by first | omega | (simp <;> omega)) _ | refine Below.setCell ?_ (by first | (show _ ≤ _; omega) | (simp <;> omega)) _ | refine Below.drew ?_ | refine below_drewN ?_ _))⟩
        · by_cases h3 : x.text.size ≤ 400
          all_goals
            go_wp2_with (go_at_call 70; refine (l01Name_any _ _ (by first | exact hok0 | exact hok1)).mono ?_; rintro e w' ⟨rfl, rfl⟩)
            go_ret
            exact ⟨ret_bool (by unfold blockB; rw [HN.out]; simp [*] <;> omega), (by repeat (first | exact Below.refl _ _ | assumption | refine Below.alloc ?_ (by first | omega | (simp <;> omega)) _ | refine Below.setCell ?_ (by first | (show _ ≤ _; omega) | (simp <;> omega)) _ | refine Below.drew ?_ | refine below_drewN ?_ _))⟩
set_option maxRecDepth 100000 in
set_option maxHeartbeats 2000000 in
theorem implValidBlock_any (x : DBlock) (w : World) (hok : fBlock.ok x) :
    Calls Tryz.prog 46 #[.agg #[.string x.kind, .string x.name, .string x.text]] w fun e w' => e = .returned (.bool (blockB x)) ∧ Below w.heap.size w w' := by
  have hok0 : x.kind.size ≤ 9223372036854775807 := hok.1
  have hok1 : x.name.size ≤ 9223372036854775807 := hok.2.1
  have hok2 : x.text.size ≤ 9223372036854775807 := hok.2.2
  have HI := Lib.hid (noNl_index x.text.data.toList)
  cases h0 : nameB x.kind
  · go_enter Tryz.func46, Tryz.ntmps46
    go_wp2_with (go_at_call 77; refine (implIsName_any _ _ hok0).mono ?_; rintro e w' ⟨rfl, rfl⟩)
    go_ret
    exact ⟨ret_bool (by simp [blockB, *]), (by repeat (first | exact Below.refl _ _ | assumption | refine Below.alloc ?_ (by first | omega | (simp <;> omega)) _ | refine Below.setCell ?_ (by first | (show _ ≤ _; omega) | (simp <;> omega)) _ | refine Below.drew ?_ | refine below_drewN ?_ _))⟩
  · cases h1 : nameB x.name
    · go_enter Tryz.func46, Tryz.ntmps46
      go_wp2_with (go_at_call 77; refine (implIsName_any _ _ (by first | exact hok0 | exact hok1)).mono ?_; rintro e w' ⟨rfl, rfl⟩)
      go_ret
      exact ⟨ret_bool (by simp [blockB, *]), (by repeat (first | exact Below.refl _ _ | assumption | refine Below.alloc ?_ (by first | omega | (simp <;> omega)) _ | refine Below.setCell ?_ (by first | (show _ ≤ _; omega) | (simp <;> omega)) _ | refine Below.drew ?_ | refine below_drewN ?_ _))⟩
    · by_cases h2 : x.text.size ≤ 400
      all_goals
        go_enter Tryz.func46, Tryz.ntmps46
        go_wp2_with (first | (go_at_call 77; refine (implIsName_any _ _ (by first | exact hok0 | exact hok1)).mono ?_; rintro e w' ⟨rfl, rfl⟩) | (go_at_call 78; refine (Tryz.strings_Contains_one _ _ _).mono ?_; rintro e w' ⟨rfl, rfl⟩))
        go_ret
        exact ⟨ret_bool (by simp [blockB, HI.out, *]), (by repeat (first | exact Below.refl _ _ | assumption | refine Below.alloc ?_ (by first | omega | (simp <;> omega)) _ | refine Below.setCell ?_ (by first | (show _ ≤ _; omega) | (simp <;> omega)) _ | refine Below.drew ?_ | refine below_drewN ?_ _))⟩


def beforeB (a b : DBlock) : Bool := ltS a.kind b.kind || (decide (a.kind = b.kind) && ltS a.name b.name)
def b0 : DBlock := ⟨⟨#[]⟩, ⟨#[]⟩, ⟨#[]⟩⟩
def bOk (xs : List DBlock) (i : Nat) : Bool := blockB (xs.getD i b0) && (decide (i = 0) || beforeB (xs.getD (i - 1) b0) (xs.getD i b0))
def blocksB (xs : List DBlock) : Bool := allIdx (bOk xs) xs.length && decide (xs.length ≤ 32)
theorem bOk_zero {xs : List DBlock} (h : 0 < xs.length) : bOk xs 0 = blockB xs[0] := by simp [bOk, h]
theorem bOk_succ {xs : List DBlock} {m : Nat} (h : m + 1 < xs.length) : bOk xs (m + 1) = (blockB xs[m + 1] && beforeB xs[m] xs[m + 1]) := by
  have h1 : m < xs.length := by omega
  simp [bOk, h, h1]
theorem blocksB_bad {xs : List DBlock} {k : Nat} (h : k < xs.length) (h1 : bOk xs k = false) : blocksB xs = false := by
  unfold blocksB; rw [allIdx_bad h h1]; rfl
theorem blocksB_len {xs : List DBlock} (h : blocksB xs = true) : xs.length ≤ 32 := by
  unfold blocksB at h; simp at h; exact h.2
theorem blocksB_one {xs : List DBlock} (h : blocksB xs = true) {k : Nat} (hk : k < xs.length) : blockB xs[k] = true := by
  unfold blocksB at h
  simp only [Bool.and_eq_true] at h
  have := allIdx_true.1 h.1 k hk
  unfold bOk at this
  simp only [Bool.and_eq_true] at this
  rw [getD_of_lt hk] at this
  exact this.1
theorem blocksB_two {xs : List DBlock} (h : blocksB xs = true) {m : Nat} (hm : m + 1 < xs.length) : beforeB xs[m] xs[m + 1] = true := by
  unfold blocksB at h
  simp only [Bool.and_eq_true] at h
  have := allIdx_true.1 h.1 (m + 1) hm
  rw [bOk_succ hm, Bool.and_eq_true] at this
  exact this.2
def cmpS (a b : ByteArray) : Int := if ltS a b then -1 else if ltS b a then 1 else 0
def cmpB (a b : DBlock) : Int := if cmpS a.kind b.kind = 0 then cmpS a.name b.name else cmpS a.kind b.kind
theorem cmpS_zero {a b : ByteArray} : cmpS a b = 0 ↔ a = b := by
  unfold cmpS
  constructor
  · intro h
    cases h1 : ltS a b with
    | true => rw [h1] at h; simp at h
    | false =>
      cases h2 : ltS b a with
      | true => rw [h1, h2] at h; simp at h
      | false => exact ltS_tri h1 h2
  · rintro rfl; simp [ltS_irrefl]
theorem cmpS_lt {a b : ByteArray} : cmpS a b < 0 ↔ ltS a b = true := by
  unfold cmpS
  cases h1 : ltS a b with
  | true => simp
  | false => cases h2 : ltS b a <;> simp
theorem cmpS_bounds (a b : ByteArray) : -1 ≤ cmpS a b ∧ cmpS a b ≤ 1 := by
  unfold cmpS
  cases ltS a b <;> cases ltS b a <;> simp
theorem cmpB_bounds (a b : DBlock) : -1 ≤ cmpB a b ∧ cmpB a b ≤ 1 := by
  unfold cmpB; split <;> exact cmpS_bounds _ _
theorem cmpB_lt (a b : DBlock) : decide (cmpB a b < 0) = beforeB a b := by
  unfold cmpB beforeB
  by_cases h : a.kind = b.kind
  · rw [if_pos (cmpS_zero.2 h), h, ltS_irrefl]
    rw [Bool.eq_iff_iff]; simp [cmpS_lt]
  · rw [if_neg (fun e => h (cmpS_zero.1 e))]
    rw [Bool.eq_iff_iff]; simp [cmpS_lt, h]
theorem cmpB_zero {a b : DBlock} : cmpB a b = 0 ↔ a.kind = b.kind ∧ a.name = b.name := by
  unfold cmpB
  split
  · rename_i h; rw [cmpS_zero] at *; exact ⟨fun e => ⟨h, e⟩, fun e => e.2⟩
  · rename_i h; exact ⟨fun e => absurd e h, fun e => absurd (cmpS_zero.2 e.1) h⟩
set_option maxRecDepth 100000 in
set_option maxHeartbeats 2000000 in
theorem l29Before_any (pa oa pb ob : Nat) (a b : DBlock) (w : World) (ha : PBlock w pa oa a) (hb : PBlock w pb ob b) :
    Calls Tryz.prog 62 #[.pointer (some ⟨pa, oa, none⟩), .pointer (some ⟨pb, ob, none⟩)] w fun e w' => e = .returned (.bool (beforeB a b)) ∧ Below w.heap.size w w' := by
  obtain ⟨c0, c1, c2⟩ := ha
  obtain ⟨d0, d1, d2⟩ := hb
  go_enter Tryz.func62, Tryz.ntmps62
  go_wp2
  have gc0 := cell_regrown c0
  have gc1 := cell_regrown c1
  have gd0 := cell_regrown d0
  have gd1 := cell_regrown d1
  refine wp_region_mix (C := fun w' => ∃ p : Regrown, w' = Go.Sort.grow (redrawn w p.d) p.os) [true, true, true, true, true, true, true, true, true, true, true, true, true, true, true, true, true, true, true, true, true, true, true, true, true, true, true, true, true, true, true, true] (by kernel_rfl) (by kernel_rfl) (by kernel_rfl) (fun _ _ d _ _ h => by cases d <;> exact h) (regrown_of_below (Below.drew (Below.refl _ _))) ?_
  have hS0 : Below w.heap.size w w.drew := Below.drew (Below.refl _ _)
  refine wpMix_pure (by kernel_rfl) (fun K hK => ?_)
  go_big_quiet_op
  refine hK _ ?_; clear hK K
  refine wpMix_pure (by kernel_rfl) (fun K hK => ?_)
  go_big_quiet_op
  refine hK _ ?_; clear hK K
  refine wpMix_pure (by kernel_rfl) (fun K hK => ?_)
  go_big_quiet_op
  refine hK _ ?_; clear hK K
  refine wpMix_pure (by kernel_rfl) (fun K hK => ?_)
  go_big_quiet_op
  refine hK _ ?_; clear hK K
  refine wpMix_pure (by kernel_rfl) (fun K hK => ?_)
  go_big_quiet_op
  refine hK _ ?_; clear hK K
  refine wpMix_pure (by kernel_rfl) (fun K hK => ?_)
  go_big_quiet_op
  refine hK _ ?_; clear hK K
  refine wpMix_pure (by kernel_rfl) (fun K hK => ?_)
  go_big_quiet_op
  refine hK _ ?_; clear hK K
  refine wpMix_pure (by kernel_rfl) (fun K hK => ?_)
  go_big_quiet_op
  refine hK _ ?_; clear hK K
  by_cases hq8 : ltS a.kind b.kind = true
  · skip
    have e1 : Op.bytesLess a.kind.toList b.kind.toList = true := hq8
    refine wpMix_pure (by kernel_rfl) (fun K hK => ?_)
    go_big_quiet_op
    refine hK _ ?_; clear hK K
    refine wpMix_pure (by kernel_rfl) (fun K hK => ?_)
    go_big_quiet_op
    refine hK _ ?_; clear hK K
    refine wpMix_skip (by kernel_rfl) (fun K hK => ?_)
    simp only [Act.put, List.setIfInBounds_toArray, List.set_cons_zero, List.set_cons_succ]
    refine hK _ ?_; clear hK K
    refine wpMix_skip (by kernel_rfl) (fun K hK => ?_)
    simp only [Act.put, List.setIfInBounds_toArray, List.set_cons_zero, List.set_cons_succ]
    refine hK _ ?_; clear hK K
    refine wpMix_skip (by kernel_rfl) (fun K hK => ?_)
    simp only [Act.put, List.setIfInBounds_toArray, List.set_cons_zero, List.set_cons_succ]
    refine hK _ ?_; clear hK K
    refine wpMix_skip (by kernel_rfl) (fun K hK => ?_)
    simp only [Act.put, List.setIfInBounds_toArray, List.set_cons_zero, List.set_cons_succ]
    refine hK _ ?_; clear hK K
    refine wpMix_skip (by kernel_rfl) (fun K hK => ?_)
    simp only [Act.put, List.setIfInBounds_toArray, List.set_cons_zero, List.set_cons_succ]
    refine hK _ ?_; clear hK K
    refine wpMix_skip (by kernel_rfl) (fun K hK => ?_)
    simp only [Act.put, List.setIfInBounds_toArray, List.set_cons_zero, List.set_cons_succ]
    refine hK _ ?_; clear hK K
    refine wpMix_skip (by kernel_rfl) (fun K hK => ?_)
    simp only [Act.put, List.setIfInBounds_toArray, List.set_cons_zero, List.set_cons_succ]
    refine hK _ ?_; clear hK K
    refine wpMix_skip (by kernel_rfl) (fun K hK => ?_)
    simp only [Act.put, List.setIfInBounds_toArray, List.set_cons_zero, List.set_cons_succ]
    refine hK _ ?_; clear hK K
    refine wpMix_skip (by kernel_rfl) (fun K hK => ?_)
    simp only [Act.put, List.setIfInBounds_toArray, List.set_cons_zero, List.set_cons_succ]
    refine hK _ ?_; clear hK K
    refine wpMix_skip (by kernel_rfl) (fun K hK => ?_)
    simp only [Act.put, List.setIfInBounds_toArray, List.set_cons_zero, List.set_cons_succ]
    refine hK _ ?_; clear hK K
    refine wpMix_skip (by kernel_rfl) (fun K hK => ?_)
    simp only [Act.put, List.setIfInBounds_toArray, List.set_cons_zero, List.set_cons_succ]
    refine hK _ ?_; clear hK K
    refine wpMix_skip (by kernel_rfl) (fun K hK => ?_)
    simp only [Act.put, List.setIfInBounds_toArray, List.set_cons_zero, List.set_cons_succ]
    refine hK _ ?_; clear hK K
    refine wpMix_skip (by kernel_rfl) (fun K hK => ?_)
    simp only [Act.put, List.setIfInBounds_toArray, List.set_cons_zero, List.set_cons_succ]
    refine hK _ ?_; clear hK K
    refine wpMix_skip (by kernel_rfl) (fun K hK => ?_)
    simp only [Act.put, List.setIfInBounds_toArray, List.set_cons_zero, List.set_cons_succ]
    refine hK _ ?_; clear hK K
    refine wpMix_skip (by kernel_rfl) (fun K hK => ?_)
    simp only [Act.put, List.setIfInBounds_toArray, List.set_cons_zero, List.set_cons_succ]
    refine hK _ ?_; clear hK K
    refine wpMix_skip (by kernel_rfl) (fun K hK => ?_)
    simp only [Act.put, List.setIfInBounds_toArray, List.set_cons_zero, List.set_cons_succ]
    refine hK _ ?_; clear hK K
    refine wpMix_skip (by kernel_rfl) (fun K hK => ?_)
    simp only [Act.put, List.setIfInBounds_toArray, List.set_cons_zero, List.set_cons_succ]
    refine hK _ ?_; clear hK K
    refine wpMix_skip (by kernel_rfl) (fun K hK => ?_)
    simp only [Act.put, List.setIfInBounds_toArray, List.set_cons_zero, List.set_cons_succ]
    refine hK _ ?_; clear hK K
    refine wpMix_skip (by kernel_rfl) (fun K hK => ?_)
    simp only [Act.put, List.setIfInBounds_toArray, List.set_cons_zero, List.set_cons_succ]
    refine hK _ ?_; clear hK K
    refine wpMix_skip (by kernel_rfl) (fun K hK => ?_)
    simp only [Act.put, List.setIfInBounds_toArray, List.set_cons_zero, List.set_cons_succ]
    refine hK _ ?_; clear hK K
    refine wpMix_pure (by kernel_rfl) (fun K hK => ?_)
    go_big_quiet_op
    refine hK _ ?_; clear hK K
    refine wpMix_pure (by kernel_rfl) (fun K hK => ?_)
    go_big_quiet_op
    refine hK _ ?_; clear hK K
    refine wpMix_nil ?_
    go_wp2
    go_ret
    exact ⟨ret_bool (by unfold beforeB; simp [*, ltS_irrefl]), hS0⟩
  · skip
    have e1 : Op.bytesLess a.kind.toList b.kind.toList = false := by simpa [ltS] using hq8
    refine wpMix_pure (by kernel_rfl) (fun K hK => ?_)
    go_big_quiet_op
    refine hK _ ?_; clear hK K
    refine wpMix_pure (by kernel_rfl) (fun K hK => ?_)
    go_big_quiet_op
    refine hK _ ?_; clear hK K
    refine wpMix_pure (by kernel_rfl) (fun K hK => ?_)
    go_big_quiet_op
    refine hK _ ?_; clear hK K
    refine wpMix_pure (by kernel_rfl) (fun K hK => ?_)
    go_big_quiet_op
    refine hK _ ?_; clear hK K
    refine wpMix_pure (by kernel_rfl) (fun K hK => ?_)
    go_big_quiet_op
    refine hK _ ?_; clear hK K
    refine wpMix_pure (by kernel_rfl) (fun K hK => ?_)
    go_big_quiet_op
    refine hK _ ?_; clear hK K
    refine wpMix_pure (by kernel_rfl) (fun K hK => ?_)
    go_big_quiet_op
    refine hK _ ?_; clear hK K
    refine wpMix_pure (by kernel_rfl) (fun K hK => ?_)
    go_big_quiet_op
    refine hK _ ?_; clear hK K
    refine wpMix_pure (by kernel_rfl) (fun K hK => ?_)
    go_big_quiet_op
    refine hK _ ?_; clear hK K
    refine wpMix_pure (by kernel_rfl) (fun K hK => ?_)
    go_big_quiet_op
    refine hK _ ?_; clear hK K
    by_cases hq18 : a.kind = b.kind
    · skip
      have e2 : (a.kind.toList == b.kind.toList) = true := eqS_true.2 hq18
      refine wpMix_pure (by kernel_rfl) (fun K hK => ?_)
      go_big_quiet_op
      refine hK _ ?_; clear hK K
      refine wpMix_pure (by kernel_rfl) (fun K hK => ?_)
      go_big_quiet_op
      refine hK _ ?_; clear hK K
      refine wpMix_pure (by kernel_rfl) (fun K hK => ?_)
      go_big_quiet_op
      refine hK _ ?_; clear hK K
      refine wpMix_pure (by kernel_rfl) (fun K hK => ?_)
      go_big_quiet_op
      refine hK _ ?_; clear hK K
      refine wpMix_pure (by kernel_rfl) (fun K hK => ?_)
      go_big_quiet_op
      refine hK _ ?_; clear hK K
      refine wpMix_pure (by kernel_rfl) (fun K hK => ?_)
      go_big_quiet_op
      refine hK _ ?_; clear hK K
      refine wpMix_pure (by kernel_rfl) (fun K hK => ?_)
      go_big_quiet_op
      refine hK _ ?_; clear hK K
      refine wpMix_pure (by kernel_rfl) (fun K hK => ?_)
      go_big_quiet_op
      refine hK _ ?_; clear hK K
      refine wpMix_pure (by kernel_rfl) (fun K hK => ?_)
      go_big_quiet_op
      refine hK _ ?_; clear hK K
      refine wpMix_pure (by kernel_rfl) (fun K hK => ?_)
      go_big_quiet_op
      refine hK _ ?_; clear hK K
      by_cases hq28 : ltS a.name b.name = true
      · skip
        have e3 : Op.bytesLess a.name.toList b.name.toList = true := hq28
        refine wpMix_pure (by kernel_rfl) (fun K hK => ?_)
        go_big_quiet_op
        refine hK _ ?_; clear hK K
        refine wpMix_pure (by kernel_rfl) (fun K hK => ?_)
        go_big_quiet_op
        refine hK _ ?_; clear hK K
        refine wpMix_pure (by kernel_rfl) (fun K hK => ?_)
        go_big_quiet_op
        refine hK _ ?_; clear hK K
        refine wpMix_pure (by kernel_rfl) (fun K hK => ?_)
        go_big_quiet_op
        refine hK _ ?_; clear hK K
        refine wpMix_nil ?_
        go_wp2
        go_ret
        exact ⟨ret_bool (by unfold beforeB; simp [*, ltS_irrefl]), hS0⟩
      · skip
        have e3 : Op.bytesLess a.name.toList b.name.toList = false := by simpa [ltS] using hq28
        refine wpMix_pure (by kernel_rfl) (fun K hK => ?_)
        go_big_quiet_op
        refine hK _ ?_; clear hK K
        refine wpMix_pure (by kernel_rfl) (fun K hK => ?_)
        go_big_quiet_op
        refine hK _ ?_; clear hK K
        refine wpMix_pure (by kernel_rfl) (fun K hK => ?_)
        go_big_quiet_op
        refine hK _ ?_; clear hK K
        refine wpMix_pure (by kernel_rfl) (fun K hK => ?_)
        go_big_quiet_op
        refine hK _ ?_; clear hK K
        refine wpMix_nil ?_
        go_wp2
        go_ret
        exact ⟨ret_bool (by unfold beforeB; simp [*, ltS_irrefl]), hS0⟩
    · skip
      have e2 : (a.kind.toList == b.kind.toList) = false := bytes_beq_false hq18
      refine wpMix_pure (by kernel_rfl) (fun K hK => ?_)
      go_big_quiet_op
      refine hK _ ?_; clear hK K
      refine wpMix_pure (by kernel_rfl) (fun K hK => ?_)
      go_big_quiet_op
      refine hK _ ?_; clear hK K
      refine wpMix_skip (by kernel_rfl) (fun K hK => ?_)
      simp only [Act.put, List.setIfInBounds_toArray, List.set_cons_zero, List.set_cons_succ]
      refine hK _ ?_; clear hK K
      refine wpMix_skip (by kernel_rfl) (fun K hK => ?_)
      simp only [Act.put, List.setIfInBounds_toArray, List.set_cons_zero, List.set_cons_succ]
      refine hK _ ?_; clear hK K
      refine wpMix_skip (by kernel_rfl) (fun K hK => ?_)
      simp only [Act.put, List.setIfInBounds_toArray, List.set_cons_zero, List.set_cons_succ]
      refine hK _ ?_; clear hK K
      refine wpMix_skip (by kernel_rfl) (fun K hK => ?_)
      simp only [Act.put, List.setIfInBounds_toArray, List.set_cons_zero, List.set_cons_succ]
      refine hK _ ?_; clear hK K
      refine wpMix_skip (by kernel_rfl) (fun K hK => ?_)
      simp only [Act.put, List.setIfInBounds_toArray, List.set_cons_zero, List.set_cons_succ]
      refine hK _ ?_; clear hK K
      refine wpMix_skip (by kernel_rfl) (fun K hK => ?_)
      simp only [Act.put, List.setIfInBounds_toArray, List.set_cons_zero, List.set_cons_succ]
      refine hK _ ?_; clear hK K
      refine wpMix_skip (by kernel_rfl) (fun K hK => ?_)
      simp only [Act.put, List.setIfInBounds_toArray, List.set_cons_zero, List.set_cons_succ]
      refine hK _ ?_; clear hK K
      refine wpMix_skip (by kernel_rfl) (fun K hK => ?_)
      simp only [Act.put, List.setIfInBounds_toArray, List.set_cons_zero, List.set_cons_succ]
      refine hK _ ?_; clear hK K
      refine wpMix_skip (by kernel_rfl) (fun K hK => ?_)
      simp only [Act.put, List.setIfInBounds_toArray, List.set_cons_zero, List.set_cons_succ]
      refine hK _ ?_; clear hK K
      refine wpMix_pure (by kernel_rfl) (fun K hK => ?_)
      go_big_quiet_op
      refine hK _ ?_; clear hK K
      refine wpMix_pure (by kernel_rfl) (fun K hK => ?_)
      go_big_quiet_op
      refine hK _ ?_; clear hK K
      refine wpMix_pure (by kernel_rfl) (fun K hK => ?_)
      go_big_quiet_op
      refine hK _ ?_; clear hK K
      refine wpMix_nil ?_
      go_wp2
      go_ret
      exact ⟨ret_bool (by unfold beforeB; simp [*, ltS_irrefl]), hS0⟩

end Go.Proofs.YtmhefhapighloaaGreatDoor

namespace Go.Proofs.YtmhefhapighloaaGreatDoor
open Go.RowKit
set_option linter.unusedVariables false
set_option maxRecDepth 100000 in
set_option maxHeartbeats 4000000 in
theorem l29Ok_any (v : Value) (xs : List DBlock) (fp : List Nat) (w : World) (hx : Sl fBlock.cod w v xs fp) :
    Calls Tryz.prog 35 #[v] w fun e w' => e = .returned (.bool (blocksB xs)) ∧ Below w.heap.size w w' := by
  obtain ⟨A, cap, rfl, hlen, hcap⟩ := hx.form
  go_enter Tryz.func35, Tryz.ntmps35
  go_wp2
  go_loopw [3] (fun i wr => ∃ k : Nat, k ≤ xs.length ∧ i = .int .i64 k ∧ Hid (allIdx (bOk xs) k = true) ∧ Below w.heap.size w wr) (fun i _ => xs.length - (intOf i).toNat)
  case atStart => exact ⟨0, Nat.zero_le _, rfl, rfl, Below.refl _ _⟩
  case round =>
    obtain ⟨k, hk, rfl, H0, hb⟩ := hrel
    by_cases hlt : k < xs.length
    · rcases Nat.eq_zero_or_pos k with rfl | hpos
      · obtain ⟨b, off, rfl, _, hok, hp⟩ := PBlock.elem (hx.below' hb) hlt
        have hplt := hp.lt
        go_wp2
        refine wp_region_mix (C := fun w' => ∃ p : Regrown, w' = Go.Sort.grow (redrawn wr p.d) p.os) [true, true, true, false, true, true, true, true, true, true, true, true, true, true, true, true, false, true, true, true] (by kernel_rfl) (by kernel_rfl) (by kernel_rfl) (fun _ _ d _ _ h => by cases d <;> exact h) (regrown_of_below (Below.drew (Below.refl _ _))) ?_
        have hS0 : Below wr.heap.size wr wr.drew := Below.drew (Below.refl _ _)
        refine wpMix_pure (by kernel_rfl) (fun K hK => ?_)
        go_big_quiet_op
        refine hK _ ?_; clear hK K
        refine wpMix_pure (by kernel_rfl) (fun K hK => ?_)
        go_big_quiet_op
        refine hK _ ?_; clear hK K
        refine wpMix_pure (by kernel_rfl) (fun K hK => ?_)
        go_big_quiet_op
        refine hK _ ?_; clear hK K
        refine wpMix_act (by kernel_rfl) (fun K hK => ?_)
        go_big_op
        refine (l29One_any _ _ _ _ (hp.below hS0 hplt) hok).mono ?_
        rintro e wr1 ⟨rfl, hbr1⟩
        have hbr1S : Below wr.heap.size wr wr1 := hS0.trans (hbr1.mono hS0.size)
        refine hK _ _ (regrown_of_below hbr1S) ?_
        clear hK K
        cases hq3 : blockB xs[0]
        · skip
          refine wpMix_pure (by kernel_rfl) (fun K hK => ?_)
          go_big_quiet_op
          refine hK _ ?_; clear hK K
          refine wpMix_pure (by kernel_rfl) (fun K hK => ?_)
          go_big_quiet_op
          refine hK _ ?_; clear hK K
          refine wpMix_skip (by kernel_rfl) (fun K hK => ?_)
          simp only [Act.put, List.setIfInBounds_toArray, List.set_cons_zero, List.set_cons_succ]
          refine hK _ ?_; clear hK K
          refine wpMix_skip (by kernel_rfl) (fun K hK => ?_)
          simp only [Act.put, List.setIfInBounds_toArray, List.set_cons_zero, List.set_cons_succ]
          refine hK _ ?_; clear hK K
          refine wpMix_skip (by kernel_rfl) (fun K hK => ?_)
          simp only [Act.put, List.setIfInBounds_toArray, List.set_cons_zero, List.set_cons_succ]
          refine hK _ ?_; clear hK K
          refine wpMix_skip (by kernel_rfl) (fun K hK => ?_)
          simp only [Act.put, List.setIfInBounds_toArray, List.set_cons_zero, List.set_cons_succ]
          refine hK _ ?_; clear hK K
          refine wpMix_skip (by kernel_rfl) (fun K hK => ?_)
          simp only [Act.put, List.setIfInBounds_toArray, List.set_cons_zero, List.set_cons_succ]
          refine hK _ ?_; clear hK K
          refine wpMix_skip (by kernel_rfl) (fun K hK => ?_)
          simp only [Act.put, List.setIfInBounds_toArray, List.set_cons_zero, List.set_cons_succ]
          refine hK _ ?_; clear hK K
          refine wpMix_skip (by kernel_rfl) (fun K hK => ?_)
          simp only [Act.put, List.setIfInBounds_toArray, List.set_cons_zero, List.set_cons_succ]
          refine hK _ ?_; clear hK K
          refine wpMix_skip (by kernel_rfl) (fun K hK => ?_)
          simp only [Act.put, List.setIfInBounds_toArray, List.set_cons_zero, List.set_cons_succ]
          refine hK _ ?_; clear hK K
          refine wpMix_skip (by kernel_rfl) (fun K hK => ?_)
          simp only [Act.put, List.setIfInBounds_toArray, List.set_cons_zero, List.set_cons_succ]
          refine hK _ ?_; clear hK K
          refine wpMix_skip (by kernel_rfl) (fun K hK => ?_)
          simp only [Act.put, List.setIfInBounds_toArray, List.set_cons_zero, List.set_cons_succ]
          refine hK _ ?_; clear hK K
          refine wpMix_skip (by kernel_rfl) (fun K hK => ?_)
          simp only [Act.put, List.setIfInBounds_toArray, List.set_cons_zero, List.set_cons_succ]
          refine hK _ ?_; clear hK K
          refine wpMix_skip (by kernel_rfl) (fun K hK => ?_)
          simp only [Act.put, List.setIfInBounds_toArray, List.set_cons_zero, List.set_cons_succ]
          refine hK _ ?_; clear hK K
          refine wpMix_skip (by kernel_rfl) (fun K hK => ?_)
          simp only [Act.put, List.setIfInBounds_toArray, List.set_cons_zero, List.set_cons_succ]
          refine hK _ ?_; clear hK K
          refine wpMix_pure (by kernel_rfl) (fun K hK => ?_)
          go_big_quiet_op
          refine hK _ ?_; clear hK K
          refine wpMix_nil ?_
          go_wp2
          go_ret
          exact ⟨ret_bool (by rw [blocksB_bad hlt (by rw [bOk_zero hlt]; simp [*])]), hb.trans (hbr1S.mono hb.size)⟩
        · skip
          refine wpMix_pure (by kernel_rfl) (fun K hK => ?_)
          go_big_quiet_op
          refine hK _ ?_; clear hK K
          refine wpMix_pure (by kernel_rfl) (fun K hK => ?_)
          go_big_quiet_op
          refine hK _ ?_; clear hK K
          refine wpMix_pure (by kernel_rfl) (fun K hK => ?_)
          go_big_quiet_op
          refine hK _ ?_; clear hK K
          refine wpMix_pure (by kernel_rfl) (fun K hK => ?_)
          go_big_quiet_op
          refine hK _ ?_; clear hK K
          refine wpMix_pure (by kernel_rfl) (fun K hK => ?_)
          go_big_quiet_op
          refine hK _ ?_; clear hK K
          refine wpMix_skip (by kernel_rfl) (fun K hK => ?_)
          simp only [Act.put, List.setIfInBounds_toArray, List.set_cons_zero, List.set_cons_succ]
          refine hK _ ?_; clear hK K
          refine wpMix_skip (by kernel_rfl) (fun K hK => ?_)
          simp only [Act.put, List.setIfInBounds_toArray, List.set_cons_zero, List.set_cons_succ]
          refine hK _ ?_; clear hK K
          refine wpMix_skip (by kernel_rfl) (fun K hK => ?_)
          simp only [Act.put, List.setIfInBounds_toArray, List.set_cons_zero, List.set_cons_succ]
          refine hK _ ?_; clear hK K
          refine wpMix_skip (by kernel_rfl) (fun K hK => ?_)
          simp only [Act.put, List.setIfInBounds_toArray, List.set_cons_zero, List.set_cons_succ]
          refine hK _ ?_; clear hK K
          refine wpMix_skip (by kernel_rfl) (fun K hK => ?_)
          simp only [Act.put, List.setIfInBounds_toArray, List.set_cons_zero, List.set_cons_succ]
          refine hK _ ?_; clear hK K
          refine wpMix_skip (by kernel_rfl) (fun K hK => ?_)
          simp only [Act.put, List.setIfInBounds_toArray, List.set_cons_zero, List.set_cons_succ]
          refine hK _ ?_; clear hK K
          refine wpMix_skip (by kernel_rfl) (fun K hK => ?_)
          simp only [Act.put, List.setIfInBounds_toArray, List.set_cons_zero, List.set_cons_succ]
          refine hK _ ?_; clear hK K
          refine wpMix_skip (by kernel_rfl) (fun K hK => ?_)
          simp only [Act.put, List.setIfInBounds_toArray, List.set_cons_zero, List.set_cons_succ]
          refine hK _ ?_; clear hK K
          refine wpMix_skip (by kernel_rfl) (fun K hK => ?_)
          simp only [Act.put, List.setIfInBounds_toArray, List.set_cons_zero, List.set_cons_succ]
          refine hK _ ?_; clear hK K
          refine wpMix_pure (by kernel_rfl) (fun K hK => ?_)
          go_big_quiet_op
          refine hK _ ?_; clear hK K
          refine wpMix_pure (by kernel_rfl) (fun K hK => ?_)
          go_big_quiet_op
          refine hK _ ?_; clear hK K
          refine wpMix_nil ?_
          go_wp2
          go_roundw
          case rel => exact ⟨0 + 1, by omega, by go_num, allIdx_step H0.out (by rw [bOk_zero hlt]; simp [*]), hb.trans (hbr1S.mono hb.size)⟩
          case measure => simp [intOf]; omega
      · obtain ⟨m, rfl⟩ : ∃ m, k = m + 1 := ⟨k - 1, by omega⟩
        have hm : m < xs.length := by omega
        obtain ⟨b, off, rfl, _, hok, hp⟩ := PBlock.elem (hx.below' hb) hlt
        have hplt := hp.lt
        obtain ⟨b1, off1, hA1, _, hokm, hpm⟩ := PBlock.elem (hx.below' hb) hm
        injection hA1 with hA1
        injection hA1 with hA1 hA2 _
        subst hA1 hA2
        go_wp2
        refine wp_region_mix (C := fun w' => ∃ p : Regrown, w' = Go.Sort.grow (redrawn wr p.d) p.os) [true, true, true, false, true, true, true, true, true, true, true, true, true, true, true, true, false, true, true, true] (by kernel_rfl) (by kernel_rfl) (by kernel_rfl) (fun _ _ d _ _ h => by cases d <;> exact h) (regrown_of_below (Below.drew (Below.refl _ _))) ?_
        have hS0 : Below wr.heap.size wr wr.drew := Below.drew (Below.refl _ _)
        refine wpMix_pure (by kernel_rfl) (fun K hK => ?_)
        go_big_quiet_op
        refine hK _ ?_; clear hK K
        refine wpMix_pure (by kernel_rfl) (fun K hK => ?_)
        go_big_quiet_op
        refine hK _ ?_; clear hK K
        refine wpMix_pure (by kernel_rfl) (fun K hK => ?_)
        go_big_quiet_op
        refine hK _ ?_; clear hK K
        refine wpMix_act (by kernel_rfl) (fun K hK => ?_)
        go_big_op
        refine (l29One_any _ _ _ _ (hp.below hS0 hplt) hok).mono ?_
        rintro e wr1 ⟨rfl, hbr1⟩
        have hbr1S : Below wr.heap.size wr wr1 := hS0.trans (hbr1.mono hS0.size)
        refine hK _ _ (regrown_of_below hbr1S) ?_
        clear hK K
        cases hq3 : blockB xs[m + 1]
        · skip
          refine wpMix_pure (by kernel_rfl) (fun K hK => ?_)
          go_big_quiet_op
          refine hK _ ?_; clear hK K
          refine wpMix_pure (by kernel_rfl) (fun K hK => ?_)
          go_big_quiet_op
          refine hK _ ?_; clear hK K
          refine wpMix_skip (by kernel_rfl) (fun K hK => ?_)
          simp only [Act.put, List.setIfInBounds_toArray, List.set_cons_zero, List.set_cons_succ]
          refine hK _ ?_; clear hK K
          refine wpMix_skip (by kernel_rfl) (fun K hK => ?_)
          simp only [Act.put, List.setIfInBounds_toArray, List.set_cons_zero, List.set_cons_succ]
          refine hK _ ?_; clear hK K
          refine wpMix_skip (by kernel_rfl) (fun K hK => ?_)
          simp only [Act.put, List.setIfInBounds_toArray, List.set_cons_zero, List.set_cons_succ]
          refine hK _ ?_; clear hK K
          refine wpMix_skip (by kernel_rfl) (fun K hK => ?_)
          simp only [Act.put, List.setIfInBounds_toArray, List.set_cons_zero, List.set_cons_succ]
          refine hK _ ?_; clear hK K
          refine wpMix_skip (by kernel_rfl) (fun K hK => ?_)
          simp only [Act.put, List.setIfInBounds_toArray, List.set_cons_zero, List.set_cons_succ]
          refine hK _ ?_; clear hK K
          refine wpMix_skip (by kernel_rfl) (fun K hK => ?_)
          simp only [Act.put, List.setIfInBounds_toArray, List.set_cons_zero, List.set_cons_succ]
          refine hK _ ?_; clear hK K
          refine wpMix_skip (by kernel_rfl) (fun K hK => ?_)
          simp only [Act.put, List.setIfInBounds_toArray, List.set_cons_zero, List.set_cons_succ]
          refine hK _ ?_; clear hK K
          refine wpMix_skip (by kernel_rfl) (fun K hK => ?_)
          simp only [Act.put, List.setIfInBounds_toArray, List.set_cons_zero, List.set_cons_succ]
          refine hK _ ?_; clear hK K
          refine wpMix_skip (by kernel_rfl) (fun K hK => ?_)
          simp only [Act.put, List.setIfInBounds_toArray, List.set_cons_zero, List.set_cons_succ]
          refine hK _ ?_; clear hK K
          refine wpMix_skip (by kernel_rfl) (fun K hK => ?_)
          simp only [Act.put, List.setIfInBounds_toArray, List.set_cons_zero, List.set_cons_succ]
          refine hK _ ?_; clear hK K
          refine wpMix_skip (by kernel_rfl) (fun K hK => ?_)
          simp only [Act.put, List.setIfInBounds_toArray, List.set_cons_zero, List.set_cons_succ]
          refine hK _ ?_; clear hK K
          refine wpMix_skip (by kernel_rfl) (fun K hK => ?_)
          simp only [Act.put, List.setIfInBounds_toArray, List.set_cons_zero, List.set_cons_succ]
          refine hK _ ?_; clear hK K
          refine wpMix_skip (by kernel_rfl) (fun K hK => ?_)
          simp only [Act.put, List.setIfInBounds_toArray, List.set_cons_zero, List.set_cons_succ]
          refine hK _ ?_; clear hK K
          refine wpMix_pure (by kernel_rfl) (fun K hK => ?_)
          go_big_quiet_op
          refine hK _ ?_; clear hK K
          refine wpMix_nil ?_
          go_wp2
          go_ret
          exact ⟨ret_bool (by rw [blocksB_bad hlt (by rw [bOk_succ hlt]; simp [*])]), hb.trans (hbr1S.mono hb.size)⟩
        · skip
          refine wpMix_pure (by kernel_rfl) (fun K hK => ?_)
          go_big_quiet_op
          refine hK _ ?_; clear hK K
          refine wpMix_pure (by kernel_rfl) (fun K hK => ?_)
          go_big_quiet_op
          refine hK _ ?_; clear hK K
          refine wpMix_pure (by kernel_rfl) (fun K hK => ?_)
          go_big_quiet_op
          refine hK _ ?_; clear hK K
          refine wpMix_pure (by kernel_rfl) (fun K hK => ?_)
          go_big_quiet_op
          refine hK _ ?_; clear hK K
          refine wpMix_pure (by kernel_rfl) (fun K hK => ?_)
          go_big_quiet_op
          refine hK _ ?_; clear hK K
          refine wpMix_pure (by kernel_rfl) (fun K hK => ?_)
          go_big_quiet_op
          refine hK _ ?_; clear hK K
          refine wpMix_pure (by kernel_rfl) (fun K hK => ?_)
          go_big_quiet_op
          refine hK _ ?_; clear hK K
          refine wpMix_pure (by kernel_rfl) (fun K hK => ?_)
          go_big_quiet_op
          refine hK _ ?_; clear hK K
          refine wpMix_pure (by kernel_rfl) (fun K hK => ?_)
          go_big_quiet_op
          refine hK _ ?_; clear hK K
          refine wpMix_pure (by kernel_rfl) (fun K hK => ?_)
          go_big_quiet_op
          refine hK _ ?_; clear hK K
          refine wpMix_pure (by kernel_rfl) (fun K hK => ?_)
          go_big_quiet_op
          refine hK _ ?_; clear hK K
          refine wpMix_pure (by kernel_rfl) (fun K hK => ?_)
          go_big_quiet_op
          refine hK _ ?_; clear hK K
          refine wpMix_act (by kernel_rfl) (fun K hK => ?_)
          go_big_op
          refine (l29Before_any _ _ _ _ _ _ _ (hpm.below hbr1S hplt) (hp.below hbr1S hplt)).mono ?_
          rintro e wr2 ⟨rfl, hbr2⟩
          have hbr2S : Below wr.heap.size wr wr2 := hbr1S.trans (hbr2.mono hbr1S.size)
          refine hK _ _ (regrown_of_below hbr2S) ?_
          clear hK K
          cases hq16 : beforeB xs[m] xs[m + 1]
          · skip
            refine wpMix_pure (by kernel_rfl) (fun K hK => ?_)
            go_big_quiet_op
            refine hK _ ?_; clear hK K
            refine wpMix_pure (by kernel_rfl) (fun K hK => ?_)
            go_big_quiet_op
            refine hK _ ?_; clear hK K
            refine wpMix_pure (by kernel_rfl) (fun K hK => ?_)
            go_big_quiet_op
            refine hK _ ?_; clear hK K
            refine wpMix_nil ?_
            go_wp2
            go_ret
            exact ⟨ret_bool (by rw [blocksB_bad hlt (by rw [bOk_succ hlt]; simp [*])]), hb.trans (hbr2S.mono hb.size)⟩
          · skip
            refine wpMix_pure (by kernel_rfl) (fun K hK => ?_)
            go_big_quiet_op
            refine hK _ ?_; clear hK K
            refine wpMix_pure (by kernel_rfl) (fun K hK => ?_)
            go_big_quiet_op
            refine hK _ ?_; clear hK K
            refine wpMix_pure (by kernel_rfl) (fun K hK => ?_)
            go_big_quiet_op
            refine hK _ ?_; clear hK K
            refine wpMix_nil ?_
            go_wp2
            go_roundw
            case rel => exact ⟨m + 1 + 1, by omega, by go_num, allIdx_step H0.out (by rw [bOk_succ hlt]; simp [*]), hb.trans (hbr2S.mono hb.size)⟩
            case measure => simp [intOf]; omega
    · have HF := Lib.hid (allIdx_full (by omega) hk H0.out)
      by_cases hle : xs.length ≤ 32
      all_goals
        go_wp2
        go_ret
        exact ⟨ret_bool (by unfold blocksB; rw [HF.out]; simp [hle] <;> omega), hb⟩
set_option maxRecDepth 100000 in
set_option maxHeartbeats 400000 in
theorem isNaNS_any (a : ByteArray) (w : World) : Calls Tryz.prog 93 #[.string a] w fun e w' => e = .returned (.bool false) ∧ w = w' := by
  have e1 : (a.toList == a.toList) = true := by simp
  go_enter Tryz.func93, Tryz.ntmps93
  go_wp2
  go_ret
  exact ⟨rfl, rfl⟩
set_option maxRecDepth 100000 in
set_option maxHeartbeats 1000000 in
theorem compareS_any (a b : ByteArray) (w : World) : Calls Tryz.prog 59 #[.string a, .string b] w fun e w' => e = .returned (.int .i64 (cmpS a b)) ∧ w = w' := by
  cases h1 : ltS a b
  · have e1 : Op.bytesLess a.toList b.toList = false := h1
    cases h2 : ltS b a
    · have e2 : (Op.bytesLess a.toList b.toList || a.toList == b.toList) = true := by rw [leS_eq, h2]; rfl
      have e3 : (a.toList == b.toList) = true := eqS_true.2 (ltS_tri h1 h2)
      go_enter Tryz.func59, Tryz.ntmps59
      go_wp2_with (go_at_call 93; refine (isNaNS_any _ _).mono ?_; rintro e w' ⟨rfl, rfl⟩)
      go_ret
      exact ⟨ret_int (by unfold cmpS; rw [h1, h2]; rfl), rfl⟩
    · have e2 : (Op.bytesLess a.toList b.toList || a.toList == b.toList) = false := by rw [leS_eq, h2]; rfl
      have e3 : (a.toList == b.toList) = false := bytes_beq_false (fun e => by subst e; rw [ltS_irrefl] at h2; cases h2)
      go_enter Tryz.func59, Tryz.ntmps59
      go_wp2_with (go_at_call 93; refine (isNaNS_any _ _).mono ?_; rintro e w' ⟨rfl, rfl⟩)
      go_ret
      exact ⟨ret_int (by unfold cmpS; rw [h1, h2]; rfl), rfl⟩
  · have e1 : Op.bytesLess a.toList b.toList = true := h1
    go_enter Tryz.func59, Tryz.ntmps59
    go_wp2_with (go_at_call 93; refine (isNaNS_any _ _).mono ?_; rintro e w' ⟨rfl, rfl⟩)
    go_ret
    exact ⟨ret_int (by unfold cmpS; rw [h1]; rfl), rfl⟩

def orF : List Int → Int
  | [] => 0
  | x :: xs => if x = 0 then orF xs else x
theorem orF_cons (x : Int) (xs : List Int) : orF (x :: xs) = if x = 0 then orF xs else x := rfl
theorem orF_two (a b : Int) : orF [a, b] = if a = 0 then b else a := by
  unfold orF; split
  · unfold orF orF; split <;> simp_all
  · rfl
set_option maxRecDepth 100000 in
set_option maxHeartbeats 1000000 in
theorem orInt_any (v : Value) (xs : List Int) (fp : List Nat) (w : World) (hx : Sl fInt.cod w v xs fp) :
    Calls Tryz.prog 58 #[v] w fun e w' => e = .returned (.int .i64 (orF xs)) ∧ w = w' := by
  obtain ⟨A, cap, rfl, hlen, hcap⟩ := hx.form
  go_enter Tryz.func58, Tryz.ntmps58
  go_wp2
  go_loop [8] (fun i => ∃ k : Nat, k ≤ xs.length ∧ i = .int .i64 k ∧ Hid (orF xs = orF (xs.drop k))) (fun i => xs.length - (intOf i).toNat)
  case atStart => exact ⟨0, Nat.zero_le _, rfl, rfl⟩
  case round =>
    obtain ⟨k, hk, rfl, H0⟩ := hrel
    by_cases hlt : k < xs.length
    · obtain ⟨b, off, rfl, _, hok, hc, _⟩ := hx.cell1 rfl hlt rfl
      have hd : xs.drop k = xs[k] :: xs.drop (k + 1) := List.drop_eq_getElem_cons hlt
      by_cases hz : xs[k] = 0
      · have HN : Hid (orF xs = orF (xs.drop (k + 1))) := by show _ = _; rw [H0.out, hd, orF_cons, if_pos hz]
        have e1 : (xs[k] == 0) = true := by simpa using hz
        have e2 : (xs[k] != 0) = false := by simpa using hz
        clear hd hz H0
        go_wp2
        go_round
        case rel => exact ⟨k + 1, by omega, by go_num, HN⟩
        case measure => simp [intOf]; omega
      · have HN : Hid (orF xs = xs[k]) := by show _ = _; rw [H0.out, hd, orF_cons, if_neg hz]
        have e1 : (xs[k] == 0) = false := by simpa using hz
        have e2 : (xs[k] != 0) = true := by simpa using hz
        clear hd hz H0
        go_wp2
        go_ret
        exact ⟨ret_int HN.out.symm, rfl⟩
    · have HN : Hid (orF xs = 0) := by show _ = _; rw [H0.out, List.drop_of_length_le (by omega)]; rfl
      clear H0
      go_wp2
      go_ret
      exact ⟨ret_int HN.out.symm, rfl⟩
theorem cmpB_or (a b : DBlock) : orF [cmpS a.kind b.kind, cmpS a.name b.name] = cmpB a b := by
  rw [orF_two]; rfl
theorem cmpS_ok (a b : ByteArray) : fInt.ok (cmpS a b) := by
  have := cmpS_bounds a b
  show _ ∧ _
  omega
set_option maxRecDepth 100000 in
set_option maxHeartbeats 2000000 in
theorem compareBlocks_any (a b : DBlock) (w : World) :
    Calls Tryz.prog 32 #[.agg #[.string a.kind, .string a.name, .string a.text], .agg #[.string b.kind, .string b.name, .string b.text]] w fun e w' => e = .returned (.int .i64 (cmpB a b)) ∧ Below w.heap.size w w' := by
  have hpa := PBlock.box w a 57
  have hpb := PBlock.box (w.alloc (.cells #[.string a.kind, .string a.name, .string a.text] 57)) b 57
  rw [World.size_alloc] at hpb
  have hpa2 := hpa.below' ((Below.refl _ _).alloc (Nat.le_refl _) (.cells #[.string b.kind, .string b.name, .string b.text] 57))
  go_enter Tryz.func32, Tryz.ntmps32
  go_wp2
  refine at_world (fun W => Below w.heap.size w W ∧ PBlock W w.heap.size 0 a ∧ PBlock W (w.heap.size + 1) 0 b) ⟨(by repeat (first | exact Below.refl _ _ | assumption | refine Below.alloc ?_ (by first | omega | (simp <;> omega)) _ | refine Below.setCell ?_ (by first | (show _ ≤ _; omega) | (simp <;> omega)) _ | refine Below.drew ?_ | refine below_drewN ?_ _)), hpa2, hpb⟩ ?_
  clear hpa hpb hpa2
  rintro W ⟨hW, ⟨c0, c1, c2⟩, ⟨d0, d1, d2⟩⟩
  have gc0 := cell_regrown c0
  have gc1 := cell_regrown c1
  have gd0 := cell_regrown d0
  have gd1 := cell_regrown d1
  refine wp_region_mixed [0, 1, 2, 3, 5, 6, 7, 8, 4, 9, 10, 11, 12] (C := fun w' => ∃ p : Regrown, w' = Go.Sort.grow (redrawn W p.d) p.os) [true, true, true, true, true, true, true, true, false, false, false, false, true] (by kernel_rfl) (by kernel_rfl) (by kernel_rfl) (fun _ _ d _ _ h => by cases d <;> exact h) (regrown_of_below (Below.drew (Below.refl _ _))) ?_
  simp only [List.map_cons, List.map_nil, List.getD_cons_zero, List.getD_cons_succ]
  have hS0 : Below W.heap.size W W.drew := Below.drew (Below.refl _ _)
  refine wpMix_pure (by kernel_rfl) (fun K hK => ?_)
  go_big_quiet_op
  refine hK _ ?_; clear hK K
  refine wpMix_pure (by kernel_rfl) (fun K hK => ?_)
  go_big_quiet_op
  refine hK _ ?_; clear hK K
  refine wpMix_pure (by kernel_rfl) (fun K hK => ?_)
  go_big_quiet_op
  refine hK _ ?_; clear hK K
  refine wpMix_pure (by kernel_rfl) (fun K hK => ?_)
  go_big_quiet_op
  refine hK _ ?_; clear hK K
  refine wpMix_pure (by kernel_rfl) (fun K hK => ?_)
  go_big_quiet_op
  refine hK _ ?_; clear hK K
  refine wpMix_pure (by kernel_rfl) (fun K hK => ?_)
  go_big_quiet_op
  refine hK _ ?_; clear hK K
  refine wpMix_pure (by kernel_rfl) (fun K hK => ?_)
  go_big_quiet_op
  refine hK _ ?_; clear hK K
  refine wpMix_pure (by kernel_rfl) (fun K hK => ?_)
  go_big_quiet_op
  refine hK _ ?_; clear hK K
  refine wpMix_act (by kernel_rfl) (fun K hK => ?_)
  go_big_op
  refine (compareS_any _ _ _).mono ?_
  rintro e w' ⟨rfl, rfl⟩
  refine hK _ _ (regrown_of_below hS0) ?_
  clear hK K
  refine wpMix_act (by kernel_rfl) (fun K hK => ?_)
  go_big_op
  refine (compareS_any _ _ _).mono ?_
  rintro e w' ⟨rfl, rfl⟩
  refine hK _ _ (regrown_of_below hS0) ?_
  clear hK K
  refine wpMix_act (by kernel_rfl) (fun K hK => ?_)
  go_big_op
  refine hK _ _ (regrown_of_below (hS0.alloc hS0.size _)) ?_
  clear hK K
  refine mix_world (fun N => Below W.heap.size W N ∧ Sl fInt.cod N (.slice (some ⟨W.drew.heap.size, 0, none⟩) 2 2) [cmpS a.kind b.kind, cmpS a.name b.name] [W.drew.heap.size]) ⟨hS0.alloc hS0.size _, Sl.lit2 (E := fInt) W.drew [cmpS a.kind b.kind, cmpS a.name b.name] _ _ rfl (by intro x hx; simp at hx; rcases hx with rfl | rfl; exact cmpS_ok _ _; exact cmpS_ok _ _) (by simp) (by simp)⟩ ?_
  rintro wr3 ⟨hbr3S, hbr3F⟩
  refine wpMix_act (by kernel_rfl) (fun K hK => ?_)
  go_big_op
  refine (orInt_any _ _ _ _ hbr3F).mono ?_
  rintro e w' ⟨rfl, rfl⟩
  refine hK _ _ (regrown_of_below hbr3S) ?_
  clear hK K
  refine wpMix_pure (by kernel_rfl) (fun K hK => ?_)
  go_big_quiet_op
  refine hK _ ?_; clear hK K
  refine wpMix_nil ?_
  go_wp2
  go_ret
  exact ⟨ret_int (cmpB_or a b), hW.trans (hbr3S.mono hW.size)⟩
set_option maxRecDepth 100000 in
set_option maxHeartbeats 4000000 in
theorem validBlocks_any (v : Value) (xs : List DBlock) (fp : List Nat) (w : World) (hx : Sl fBlock.cod w v xs fp) :
    Calls Tryz.prog 20 #[v] w fun e w' => e = .returned (.bool (blocksB xs)) ∧ Below w.heap.size w w' := by
  obtain ⟨A, cap, rfl, hlen, hcap⟩ := hx.form
  by_cases hle : xs.length ≤ 32
  · go_enter Tryz.func20, Tryz.ntmps20
    go_wp2
    go_loopw [10] (fun i wr => ∃ k : Nat, k ≤ xs.length ∧ i = .int .i64 k ∧ Hid (allIdx (bOk xs) k = true) ∧ Below w.heap.size w wr) (fun i _ => xs.length - (intOf i).toNat)
    case atStart => exact ⟨0, Nat.zero_le _, rfl, rfl, Below.refl _ _⟩
    case round =>
      obtain ⟨k, hk, rfl, H0, hb⟩ := hrel
      by_cases hlt : k < xs.length
      · rcases Nat.eq_zero_or_pos k with rfl | hpos
        · skip
          obtain ⟨b, off, rfl, _, hok, hp⟩ := PBlock.elem (hx.below' hb) hlt
          rw [Nat.zero_mul, Nat.add_zero] at hp
          obtain ⟨c0, c1, c2⟩ := id hp
          go_wp2
          refine at_world (fun W => Below wr.heap.size wr W ∧ PBlock W wr.heap.size 0 xs[0]) ⟨(Below.refl _ _).alloc (Nat.le_refl _) _, PBlock.box wr xs[0] _⟩ ?_
          clear c0 c1 c2
          rintro W ⟨hW, hpW⟩
          obtain ⟨c0, c1, c2⟩ := id hpW
          have gc0 := cell_regrown c0
          have gc1 := cell_regrown c1
          have gc2 := cell_regrown c2
          refine wp_region_mix (C := fun w' => ∃ p : Regrown, w' = Go.Sort.grow (redrawn W p.d) p.os) [true, false, true, true, true, true, true, true, true, true, true, true, true, false, true, true, true] (by kernel_rfl) (by kernel_rfl) (by kernel_rfl) (fun _ _ d _ _ h => by cases d <;> exact h) (regrown_of_below (Below.drew (Below.refl _ _))) ?_
          have hS0 : Below W.heap.size W W.drew := Below.drew (Below.refl _ _)
          refine wpMix_pure (by kernel_rfl) (fun K hK => ?_)
          go_big_quiet_op
          refine hK _ ?_; clear hK K
          refine wpMix_act (by kernel_rfl) (fun K hK => ?_)
          go_big_op
          refine (implValidBlock_any xs[0] _ hok).mono ?_
          rintro e wr1 ⟨rfl, hbr1⟩
          have hbr1S : Below W.heap.size W wr1 := hS0.trans (hbr1.mono hS0.size)
          refine hK _ _ (regrown_of_below hbr1S) ?_
          clear hK K
          cases hq1 : blockB xs[0]
          · skip
            refine wpMix_pure (by kernel_rfl) (fun K hK => ?_)
            go_big_quiet_op
            refine hK _ ?_; clear hK K
            refine wpMix_pure (by kernel_rfl) (fun K hK => ?_)
            go_big_quiet_op
            refine hK _ ?_; clear hK K
            refine wpMix_skip (by kernel_rfl) (fun K hK => ?_)
            simp only [Act.put, List.setIfInBounds_toArray, List.set_cons_zero, List.set_cons_succ]
            refine hK _ ?_; clear hK K
            refine wpMix_skip (by kernel_rfl) (fun K hK => ?_)
            simp only [Act.put, List.setIfInBounds_toArray, List.set_cons_zero, List.set_cons_succ]
            refine hK _ ?_; clear hK K
            refine wpMix_skip (by kernel_rfl) (fun K hK => ?_)
            simp only [Act.put, List.setIfInBounds_toArray, List.set_cons_zero, List.set_cons_succ]
            refine hK _ ?_; clear hK K
            refine wpMix_skip (by kernel_rfl) (fun K hK => ?_)
            simp only [Act.put, List.setIfInBounds_toArray, List.set_cons_zero, List.set_cons_succ]
            refine hK _ ?_; clear hK K
            refine wpMix_skip (by kernel_rfl) (fun K hK => ?_)
            simp only [Act.put, List.setIfInBounds_toArray, List.set_cons_zero, List.set_cons_succ]
            refine hK _ ?_; clear hK K
            refine wpMix_skip (by kernel_rfl) (fun K hK => ?_)
            simp only [Act.put, List.setIfInBounds_toArray, List.set_cons_zero, List.set_cons_succ]
            refine hK _ ?_; clear hK K
            refine wpMix_skip (by kernel_rfl) (fun K hK => ?_)
            simp only [Act.put, List.setIfInBounds_toArray, List.set_cons_zero, List.set_cons_succ]
            refine hK _ ?_; clear hK K
            refine wpMix_skip (by kernel_rfl) (fun K hK => ?_)
            simp only [Act.put, List.setIfInBounds_toArray, List.set_cons_zero, List.set_cons_succ]
            refine hK _ ?_; clear hK K
            refine wpMix_skip (by kernel_rfl) (fun K hK => ?_)
            simp only [Act.put, List.setIfInBounds_toArray, List.set_cons_zero, List.set_cons_succ]
            refine hK _ ?_; clear hK K
            refine wpMix_skip (by kernel_rfl) (fun K hK => ?_)
            simp only [Act.put, List.setIfInBounds_toArray, List.set_cons_zero, List.set_cons_succ]
            refine hK _ ?_; clear hK K
            refine wpMix_skip (by kernel_rfl) (fun K hK => ?_)
            simp only [Act.put, List.setIfInBounds_toArray, List.set_cons_zero, List.set_cons_succ]
            refine hK _ ?_; clear hK K
            refine wpMix_skip (by kernel_rfl) (fun K hK => ?_)
            simp only [Act.put, List.setIfInBounds_toArray, List.set_cons_zero, List.set_cons_succ]
            refine hK _ ?_; clear hK K
            refine wpMix_pure (by kernel_rfl) (fun K hK => ?_)
            go_big_quiet_op
            refine hK _ ?_; clear hK K
            refine wpMix_nil ?_
            go_wp2
            go_ret
            exact ⟨ret_bool (by rw [blocksB_bad hlt (by rw [bOk_zero hlt]; simp [*])]), hb.trans (hW.trans (hbr1S.mono hW.size) |>.mono hb.size)⟩
          · skip
            refine wpMix_pure (by kernel_rfl) (fun K hK => ?_)
            go_big_quiet_op
            refine hK _ ?_; clear hK K
            refine wpMix_pure (by kernel_rfl) (fun K hK => ?_)
            go_big_quiet_op
            refine hK _ ?_; clear hK K
            refine wpMix_pure (by kernel_rfl) (fun K hK => ?_)
            go_big_quiet_op
            refine hK _ ?_; clear hK K
            refine wpMix_pure (by kernel_rfl) (fun K hK => ?_)
            go_big_quiet_op
            refine hK _ ?_; clear hK K
            refine wpMix_pure (by kernel_rfl) (fun K hK => ?_)
            go_big_quiet_op
            refine hK _ ?_; clear hK K
            refine wpMix_skip (by kernel_rfl) (fun K hK => ?_)
            simp only [Act.put, List.setIfInBounds_toArray, List.set_cons_zero, List.set_cons_succ]
            refine hK _ ?_; clear hK K
            refine wpMix_skip (by kernel_rfl) (fun K hK => ?_)
            simp only [Act.put, List.setIfInBounds_toArray, List.set_cons_zero, List.set_cons_succ]
            refine hK _ ?_; clear hK K
            refine wpMix_skip (by kernel_rfl) (fun K hK => ?_)
            simp only [Act.put, List.setIfInBounds_toArray, List.set_cons_zero, List.set_cons_succ]
            refine hK _ ?_; clear hK K
            refine wpMix_skip (by kernel_rfl) (fun K hK => ?_)
            simp only [Act.put, List.setIfInBounds_toArray, List.set_cons_zero, List.set_cons_succ]
            refine hK _ ?_; clear hK K
            refine wpMix_skip (by kernel_rfl) (fun K hK => ?_)
            simp only [Act.put, List.setIfInBounds_toArray, List.set_cons_zero, List.set_cons_succ]
            refine hK _ ?_; clear hK K
            refine wpMix_skip (by kernel_rfl) (fun K hK => ?_)
            simp only [Act.put, List.setIfInBounds_toArray, List.set_cons_zero, List.set_cons_succ]
            refine hK _ ?_; clear hK K
            refine wpMix_skip (by kernel_rfl) (fun K hK => ?_)
            simp only [Act.put, List.setIfInBounds_toArray, List.set_cons_zero, List.set_cons_succ]
            refine hK _ ?_; clear hK K
            refine wpMix_skip (by kernel_rfl) (fun K hK => ?_)
            simp only [Act.put, List.setIfInBounds_toArray, List.set_cons_zero, List.set_cons_succ]
            refine hK _ ?_; clear hK K
            refine wpMix_pure (by kernel_rfl) (fun K hK => ?_)
            go_big_quiet_op
            refine hK _ ?_; clear hK K
            refine wpMix_pure (by kernel_rfl) (fun K hK => ?_)
            go_big_quiet_op
            refine hK _ ?_; clear hK K
            refine wpMix_nil ?_
            go_wp2
            go_roundw
            case rel => exact ⟨0 + 1, by omega, by go_num, allIdx_step H0.out (by rw [bOk_zero hlt]; simp [*]), hb.trans (hW.trans (hbr1S.mono hW.size) |>.mono hb.size)⟩
            case measure => simp [intOf]; omega
        · obtain ⟨m, rfl⟩ : ∃ m, k = m + 1 := ⟨k - 1, by omega⟩
          have hm : m < xs.length := by omega
          obtain ⟨b, off, rfl, _, hok, hp⟩ := PBlock.elem (hx.below' hb) hlt
          skip
          obtain ⟨c0, c1, c2⟩ := id hp
          obtain ⟨b1, off1, hA1, _, hokm, hpm⟩ := PBlock.elem (hx.below' hb) hm
          injection hA1 with hA1
          injection hA1 with hA1 hA2 _
          subst hA1 hA2
          go_wp2
          refine at_world (fun W => Below wr.heap.size wr W ∧ PBlock W wr.heap.size 0 xs[m + 1] ∧ PBlock W b (off + m * 3) xs[m]) ⟨(Below.refl _ _).alloc (Nat.le_refl _) _, PBlock.box wr xs[m + 1] _, hpm.below' ((Below.refl _ _).alloc (Nat.le_refl _) _)⟩ ?_
          clear c0 c1 c2 hpm
          rintro W ⟨hW, hpW, hpm⟩
          obtain ⟨c0, c1, c2⟩ := id hpW
          obtain ⟨d0, d1, d2⟩ := id hpm
          have gc0 := cell_regrown c0
          have gc1 := cell_regrown c1
          have gc2 := cell_regrown c2
          have gd0 := cell_regrown d0
          have gd1 := cell_regrown d1
          have gd2 := cell_regrown d2
          refine wp_region_mix (C := fun w' => ∃ p : Regrown, w' = Go.Sort.grow (redrawn W p.d) p.os) [true, false, true, true, true, true, true, true, true, true, true, true, true, false, true, true, true] (by kernel_rfl) (by kernel_rfl) (by kernel_rfl) (fun _ _ d _ _ h => by cases d <;> exact h) (regrown_of_below (Below.drew (Below.refl _ _))) ?_
          have hS0 : Below W.heap.size W W.drew := Below.drew (Below.refl _ _)
          refine wpMix_pure (by kernel_rfl) (fun K hK => ?_)
          go_big_quiet_op
          refine hK _ ?_; clear hK K
          refine wpMix_act (by kernel_rfl) (fun K hK => ?_)
          go_big_op
          refine (implValidBlock_any xs[m + 1] _ hok).mono ?_
          rintro e wr1 ⟨rfl, hbr1⟩
          have hbr1S : Below W.heap.size W wr1 := hS0.trans (hbr1.mono hS0.size)
          refine hK _ _ (regrown_of_below hbr1S) ?_
          clear hK K
          cases hq1 : blockB xs[m + 1]
          · skip
            refine wpMix_pure (by kernel_rfl) (fun K hK => ?_)
            go_big_quiet_op
            refine hK _ ?_; clear hK K
            refine wpMix_pure (by kernel_rfl) (fun K hK => ?_)
            go_big_quiet_op
            refine hK _ ?_; clear hK K
            refine wpMix_skip (by kernel_rfl) (fun K hK => ?_)
            simp only [Act.put, List.setIfInBounds_toArray, List.set_cons_zero, List.set_cons_succ]
            refine hK _ ?_; clear hK K
            refine wpMix_skip (by kernel_rfl) (fun K hK => ?_)
            simp only [Act.put, List.setIfInBounds_toArray, List.set_cons_zero, List.set_cons_succ]
            refine hK _ ?_; clear hK K
            refine wpMix_skip (by kernel_rfl) (fun K hK => ?_)
            simp only [Act.put, List.setIfInBounds_toArray, List.set_cons_zero, List.set_cons_succ]
            refine hK _ ?_; clear hK K
            refine wpMix_skip (by kernel_rfl) (fun K hK => ?_)
            simp only [Act.put, List.setIfInBounds_toArray, List.set_cons_zero, List.set_cons_succ]
            refine hK _ ?_; clear hK K
            refine wpMix_skip (by kernel_rfl) (fun K hK => ?_)
            simp only [Act.put, List.setIfInBounds_toArray, List.set_cons_zero, List.set_cons_succ]
            refine hK _ ?_; clear hK K
            refine wpMix_skip (by kernel_rfl) (fun K hK => ?_)
            simp only [Act.put, List.setIfInBounds_toArray, List.set_cons_zero, List.set_cons_succ]
            refine hK _ ?_; clear hK K
            refine wpMix_skip (by kernel_rfl) (fun K hK => ?_)
            simp only [Act.put, List.setIfInBounds_toArray, List.set_cons_zero, List.set_cons_succ]
            refine hK _ ?_; clear hK K
            refine wpMix_skip (by kernel_rfl) (fun K hK => ?_)
            simp only [Act.put, List.setIfInBounds_toArray, List.set_cons_zero, List.set_cons_succ]
            refine hK _ ?_; clear hK K
            refine wpMix_skip (by kernel_rfl) (fun K hK => ?_)
            simp only [Act.put, List.setIfInBounds_toArray, List.set_cons_zero, List.set_cons_succ]
            refine hK _ ?_; clear hK K
            refine wpMix_skip (by kernel_rfl) (fun K hK => ?_)
            simp only [Act.put, List.setIfInBounds_toArray, List.set_cons_zero, List.set_cons_succ]
            refine hK _ ?_; clear hK K
            refine wpMix_skip (by kernel_rfl) (fun K hK => ?_)
            simp only [Act.put, List.setIfInBounds_toArray, List.set_cons_zero, List.set_cons_succ]
            refine hK _ ?_; clear hK K
            refine wpMix_skip (by kernel_rfl) (fun K hK => ?_)
            simp only [Act.put, List.setIfInBounds_toArray, List.set_cons_zero, List.set_cons_succ]
            refine hK _ ?_; clear hK K
            refine wpMix_pure (by kernel_rfl) (fun K hK => ?_)
            go_big_quiet_op
            refine hK _ ?_; clear hK K
            refine wpMix_nil ?_
            go_wp2
            go_ret
            exact ⟨ret_bool (by rw [blocksB_bad hlt (by rw [bOk_succ hlt]; simp [*])]), hb.trans (hW.trans (hbr1S.mono hW.size) |>.mono hb.size)⟩
          · skip
            refine wpMix_pure (by kernel_rfl) (fun K hK => ?_)
            go_big_quiet_op
            refine hK _ ?_; clear hK K
            refine wpMix_pure (by kernel_rfl) (fun K hK => ?_)
            go_big_quiet_op
            refine hK _ ?_; clear hK K
            refine wpMix_pure (by kernel_rfl) (fun K hK => ?_)
            go_big_quiet_op
            refine hK _ ?_; clear hK K
            refine wpMix_pure (by kernel_rfl) (fun K hK => ?_)
            go_big_quiet_op
            refine hK _ ?_; clear hK K
            refine wpMix_pure (by kernel_rfl) (fun K hK => ?_)
            go_big_quiet_op
            refine hK _ ?_; clear hK K
            refine wpMix_pure (by kernel_rfl) (fun K hK => ?_)
            go_big_quiet_op
            refine hK _ ?_; clear hK K
            refine wpMix_pure (by kernel_rfl) (fun K hK => ?_)
            go_big_quiet_op
            refine hK _ ?_; clear hK K
            refine wpMix_pure (by kernel_rfl) (fun K hK => ?_)
            go_big_quiet_op
            refine hK _ ?_; clear hK K
            refine wpMix_pure (by kernel_rfl) (fun K hK => ?_)
            go_big_quiet_op
            refine hK _ ?_; clear hK K
            refine wpMix_pure (by kernel_rfl) (fun K hK => ?_)
            go_big_quiet_op
            refine hK _ ?_; clear hK K
            refine wpMix_pure (by kernel_rfl) (fun K hK => ?_)
            go_big_quiet_op
            refine hK _ ?_; clear hK K
            refine wpMix_act (by kernel_rfl) (fun K hK => ?_)
            go_big_op
            refine (compareBlocks_any _ _ _).mono ?_
            rintro e wr2 ⟨rfl, hbr2⟩
            have hbr2S : Below W.heap.size W wr2 := hbr1S.trans (hbr2.mono hbr1S.size)
            refine hK _ _ (regrown_of_below hbr2S) ?_
            clear hK K
            by_cases hq14 : beforeB xs[m] xs[m + 1] = true
            · skip
              have hcm : cmpB xs[m] xs[m + 1] < 0 := by have := cmpB_lt xs[m] xs[m + 1]; rw [hq14] at this; simpa using this
              have e14 : decide (0 ≤ cmpB xs[m] xs[m + 1]) = false := by simp; omega
              refine wpMix_pure (by kernel_rfl) (fun K hK => ?_)
              go_big_quiet_op
              refine hK _ ?_; clear hK K
              refine wpMix_pure (by kernel_rfl) (fun K hK => ?_)
              go_big_quiet_op
              refine hK _ ?_; clear hK K
              refine wpMix_pure (by kernel_rfl) (fun K hK => ?_)
              go_big_quiet_op
              refine hK _ ?_; clear hK K
              refine wpMix_nil ?_
              go_wp2
              go_roundw
              case rel => exact ⟨m + 1 + 1, by omega, by go_num, allIdx_step H0.out (by rw [bOk_succ hlt]; simp [*]), hb.trans (hW.trans (hbr2S.mono hW.size) |>.mono hb.size)⟩
              case measure => simp [intOf]; omega
            · skip
              have hbf : beforeB xs[m] xs[m + 1] = false := by simpa using hq14
              have hcm : 0 ≤ cmpB xs[m] xs[m + 1] := by have := cmpB_lt xs[m] xs[m + 1]; rw [hbf] at this; simpa using this
              have e14 : decide (0 ≤ cmpB xs[m] xs[m + 1]) = true := by simpa using hcm
              refine wpMix_pure (by kernel_rfl) (fun K hK => ?_)
              go_big_quiet_op
              refine hK _ ?_; clear hK K
              refine wpMix_pure (by kernel_rfl) (fun K hK => ?_)
              go_big_quiet_op
              refine hK _ ?_; clear hK K
              refine wpMix_pure (by kernel_rfl) (fun K hK => ?_)
              go_big_quiet_op
              refine hK _ ?_; clear hK K
              refine wpMix_nil ?_
              go_wp2
              go_ret
              exact ⟨ret_bool (by rw [blocksB_bad hlt (by rw [bOk_succ hlt]; simp [*])]), hb.trans (hW.trans (hbr2S.mono hW.size) |>.mono hb.size)⟩
      · have HF := Lib.hid (allIdx_full (by omega) hk H0.out)
        go_wp2
        go_ret
        exact ⟨ret_bool (by unfold blocksB; rw [HF.out]; simp [hle]), hb⟩
  · go_enter Tryz.func20, Tryz.ntmps20
    go_wp2
    go_ret
    exact ⟨ret_bool (by unfold blocksB; simp <;> omega), Below.refl _ _⟩

end Go.Proofs.YtmhefhapighloaaGreatDoor

namespace Go.Proofs.YtmhefhapighloaaGreatDoor
open Go.RowKit

theorem infoBuilder : (Tryz.prog.info? 50).map (·.size) = some 2 := by kernel_rfl
theorem liesBuilder : liesAt Tryz.prog Tryz.prog.depth 50 (2 / Tryz.prog.cellsOf 50) 0 50 1 = true := by kernel_rfl
theorem infoU8 : (Tryz.prog.info? 5).map (fun i => (i.zero, i.size, i.bytes)) = some (some (.int .u8 0), 1, 1) := by kernel_rfl

set_option maxRecDepth 100000 in
set_option maxRecDepth 100000 in
set_option maxHeartbeats 1000000 in
theorem copyCheck_used (b : Nat) (w : World) (h0 : w.cell? ⟨b, 0, none⟩ = some (.pointer (some ⟨b, 0, none⟩))) :
    Calls Tryz.prog 47 #[.pointer (some ⟨b, 0, none⟩)] w fun e w' => e = .returned (.tuple #[]) ∧ w' = w := by
  obtain ⟨j, hj, _⟩ := Option.map_eq_some_iff.1 infoBuilder
  go_enter Tryz.func47, Tryz.ntmps47
  go_wp2
  rw [Lib.run_neq_ptr_same w _ Tryz.underlying48 hj]
  go_wp2
  go_end0
  exact ⟨rfl, rfl⟩

set_option maxRecDepth 100000 in
set_option maxRecDepth 100000 in
set_option maxHeartbeats 1000000 in
theorem copyCheck_fresh (b : Nat) (w : World) (h0 : w.cell? ⟨b, 0, none⟩ = some (.pointer none)) (hsh : w.shape? b = some (50, 2)) (hfz : w.frozen? ⟨b, 0, none⟩ = false) :
    Calls Tryz.prog 47 #[.pointer (some ⟨b, 0, none⟩)] w fun e w' => e = .returned (.tuple #[]) ∧ w' = w.setCell ⟨b, 0, none⟩ (.pointer (some ⟨b, 0, none⟩)) := by
  obtain ⟨j, hj, hjs⟩ := Option.map_eq_some_iff.1 infoBuilder
  go_enter Tryz.func47, Tryz.ntmps47
  go_wp2
  rw [Lib.run_to_unsafe w ⟨b, 0, none⟩ Tryz.underlying48 Tryz.underlying113 hj (by rw [hjs]; decide) hsh (Nat.zero_lt_succ 1)]
  simp only [Result.andThen]
  rw [Oper.upon_value]
  go_wp2
  rw [run_callFunc_extern Tryz.func79 (by kernel_rfl) (by kernel_rfl) (by kernel_rfl) (e := Extern.AbiNoEscape.same) (by kernel_rfl)]
  rw [Lib.run_noEscape]
  simp only [Result.andThen]
  rw [Oper.upon_value]
  go_wp2
  rw [Lib.run_from_unsafe w ⟨b, 0, none⟩ Tryz.underlying113 Tryz.underlying48 hj hsh liesBuilder]
  simp only [Result.andThen]
  rw [Oper.upon_value]
  go_wp2
  go_end0
  exact ⟨rfl, rfl⟩

theorem copyCheck_any (B b : Nat) (bs : List Value) (w : World) (h : Lib.IsBuilder 50 5 B b bs w) :
    Calls Tryz.prog 47 #[.pointer (some ⟨b, 0, none⟩)] w fun e w' => e = .returned (.tuple #[]) ∧ (Lib.BuilderAt 50 5 B b (.pointer (some ⟨b, 0, none⟩)) bs w' ∧ Below B w w') := by
  rcases h with h | h
  · refine (copyCheck_fresh b w h.cell0 h.shape h.frozen0).mono ?_
    rintro e w' ⟨rfl, rfl⟩
    exact ⟨rfl, h.used _, (Below.refl B w).setCell (p := ⟨b, 0, none⟩) h.1 _⟩
  · refine (copyCheck_used b w h.cell0).mono ?_
    rintro e w' ⟨rfl, rfl⟩
    exact ⟨rfl, h, Below.refl B _⟩

set_option maxRecDepth 100000 in
set_option maxRecDepth 100000 in
set_option maxHeartbeats 2000000 in
theorem writeString_any (B b : Nat) (bs : List Value) (s : ByteArray) (w : World) (h : Lib.IsBuilder 50 5 B b bs w) (hlen : bs.length + s.size ≤ 140737488355328) (hBw : B ≤ w.heap.size) :
    Calls Tryz.prog 21 #[.pointer (some ⟨b, 0, none⟩), .string s] w fun e w' => e = .returned (.tuple #[.int .i64 s.size, .nilIface]) ∧ (Lib.IsBuilder 50 5 B b (bs ++ Lib.strCells s) w' ∧ Below B w w') := by
  obtain ⟨i0, hi, hz0, hz1, hz2⟩ := info_parts infoU8
  go_enter Tryz.func21, Tryz.ntmps21
  go_wp2_with (go_at_call 47; refine (copyCheck_any B b bs _ h).mono ?_)
  rintro e w1 ⟨rfl, h1, hb1⟩
  obtain ⟨hB, v, hbk, hown, hne⟩ := h1
  have c0 : w1.cell? ⟨b, 0, none⟩ = some (.pointer (some ⟨b, 0, none⟩)) := by rw [Lib.cell_of_heap hbk]; rfl
  have c1 : w1.cell? ⟨b, 1, none⟩ = some v := by rw [Lib.cell_of_heap hbk]; rfl
  go_wp2_with (at_builtin; refine Lib.wpList_append_own_string _ rfl _ _ 22 9 rfl B 5 i0 Tryz.underlying22 Tryz.underlying9 hi hz0 hz1 hz2 _ _ _ rfl hown s rfl ?c3 ?c4 ?c5 ?_)
  case c3 => unfold maxLen; omega
  case c4 => omega
  case c5 => have := hb1.size; omega
  intro v' w2 hown' hgrow _
  have hlt : b < w1.heap.size := by
    rcases Nat.lt_or_ge b w1.heap.size with h' | h'
    · exact h'
    · simp [Array.getElem?_eq_none h'] at hbk
  have hb2 : w2.heap[b]? = some (.cells #[.pointer (some ⟨b, 0, none⟩), v] 50 (0, 0)) := by
    rw [hgrow.block b hlt (fun e => hne e.symm)]
    exact hbk
  have d0 : w2.cell? ⟨b, 0, none⟩ = some (.pointer (some ⟨b, 0, none⟩)) := by rw [Lib.cell_of_heap hb2]; rfl
  have d1 : w2.cell? ⟨b, 1, none⟩ = some v := by rw [Lib.cell_of_heap hb2]; rfl
  have f1 : w2.frozen? ⟨b, 1, none⟩ = false := Lib.frozen_of_heap hb2 1
  obtain ⟨ao, n', cap, rfl⟩ : ∃ ao n' cap, v' = .slice ao n' cap := by
    rcases hown'.2 with ⟨hv, _⟩ | ⟨g, cap, cur, hv, _⟩
    · exact ⟨_, _, _, hv⟩
    · exact ⟨_, _, _, hv⟩
  go_wp2
  go_ret2
  refine ⟨rfl, .inr ?_, ?_⟩
  · exact Lib.BuilderAt.put (T := 50) (e := 5) hB hb2 (bs' := bs ++ Lib.strCells s) (by simpa [Lib.strCells_length] using hown') (by decide)
  · exact (hb1.grown hgrow (by have := hb1.size; omega) (fun k hk => (hown.lt k hk).1)).setCell (p := ⟨b, 1, none⟩) hB _

/-- 'var b strings.Builder' behind the alloc. -/
theorem builder_new (w : World) : Lib.IsBuilder 50 5 w.heap.size w.heap.size [] (w.alloc (.cells #[.pointer none, .slice none 0 0] 50)) :=
  .inl ⟨Nat.le_refl _, .slice none 0 0, heap_alloc_new w _, World.ownsRow_nil _ _ _ _, by simp [Value.ownBlock]⟩

theorem isB_below {B b : Nat} {bs : List Value} {w w' : World} (h : Lib.IsBuilder 50 5 B b bs w) (hb : Below w.heap.size w w') : Lib.IsBuilder 50 5 B b bs w' := by
  have key : ∀ p, Lib.BuilderAt 50 5 B b p bs w → Lib.BuilderAt 50 5 B b p bs w' := by
    rintro p ⟨hB, v, hbk, hown, hne⟩
    have hlt : b < w.heap.size := by
      rcases Nat.lt_or_ge b w.heap.size with h' | h'
      · exact h'
      · simp [Array.getElem?_eq_none h'] at hbk
    refine ⟨hB, v, by rw [hb.block _ hlt]; exact hbk, ?_, hne⟩
    obtain ⟨h1, h2⟩ := hown
    refine ⟨h1, ?_⟩
    rcases h2 with h2 | ⟨g, cap, cur, hv, hg, hh, r⟩
    · exact .inl h2
    · have hgl : g < w.heap.size := by
        rcases Nat.lt_or_ge g w.heap.size with hlt | hge
        · exact hlt
        · rw [Array.getElem?_eq_none hge] at hh; cases hh
      exact .inr ⟨g, cap, cur, hv, hg, by rw [hb.block _ hgl]; exact hh, r⟩
  rcases h with h | h
  · exact .inl (key _ h)
  · exact .inr (key _ h)
end Go.Proofs.YtmhefhapighloaaGreatDoor

namespace Go.Proofs.YtmhefhapighloaaGreatDoor
open Go.RowKit
set_option linter.unusedVariables false

def fiveL (n : Nat) : List UInt8 := List.replicate (5 - (Lib.itoa n).length) 48 ++ Lib.itoa n
def fiveS (n : Nat) : ByteArray := ⟨(fiveL n).toArray⟩
theorem fiveS_size {n : Nat} (h : n < 65536) : (fiveS n).size = 5 := by
  have := itoa_len5 n h
  unfold fiveS fiveL
  show (List.toArray _).size = _
  simp; omega
def szOf : Value → Nat | .string s => s.size | _ => 0
theorem mk_size (l : List UInt8) : (ByteArray.mk l.toArray).size = l.length := by show l.toArray.size = _; simp
theorem l29Five_any (n : Nat) (w : World) (hn : n < 65536) :
    Calls Tryz.prog 97 #[.int .i64 (n : Int)] w fun e w' => e = .returned (.string (fiveS n)) ∧ Below w.heap.size w w' := by
  have hL := itoa_len5 n hn
  go_enter Tryz.func97, Tryz.ntmps97
  go_wp2_with fail
  refine (l01Dec_any n _ (by omega) (by omega)).mono ?_
  rintro e w1 ⟨rfl, hb⟩
  go_wp2
  go_loop [3] (fun s => ∃ t : ByteArray, s = .string t ∧ ∃ j : Nat, t.size = j + (Lib.itoa n).length ∧ t.size ≤ 5 ∧ Hid (t = ⟨(List.replicate j 48 ++ Lib.itoa n).toArray⟩)) (fun s => 5 - szOf s)
  case atStart => exact ⟨_, rfl, 0, by rw [decS_size]; omega, by rw [decS_size]; omega, by show _ = _; simp [decS]⟩
  case round =>
    obtain ⟨t, rfl, j, hj, h5, HT⟩ := hrel
    by_cases hlt : t.size < 5
    · have HT2 : Hid (ByteArray.mk #[48] ++ t = ⟨(List.replicate (j + 1) 48 ++ Lib.itoa n).toArray⟩) := by
        show _ = _
        rw [HT.out, List.replicate_succ]
        exact ByteArray.mk_append_mk [48] _
      have hs2 : (ByteArray.mk #[48] ++ t).size = (j + 1) + (Lib.itoa n).length := by rw [HT2.out, mk_size]; simp
      go_wp2
      go_round
      case rel => exact ⟨_, rfl, j + 1, hs2, by omega, HT2⟩
      case measure => show 5 - (ByteArray.mk #[48] ++ t).size < 5 - t.size; omega
    · have hfin : t = fiveS n := by
        rw [HT.out]; unfold fiveS fiveL; rw [show j = 5 - (Lib.itoa n).length by omega]
      have HF := Lib.hid hfin
      clear hfin
      go_wp2
      go_ret
      exact ⟨ret_str HF.out, hb⟩
theorem repeatL_0 : ∀ n : Nat, Lib.repeatL [48] n = List.replicate n 48
  | 0 => rfl
  | n + 1 => by rw [List.replicate_succ, ← repeatL_0 n]; rfl
theorem checkText_any (s : ByteArray) (w : World) (hs : s.size ≤ 1048576) (ht : Tab10 w) :
    Calls Tryz.prog 23 #[.string s] w fun e w' => e = .returned (.string (fiveS (crcF s))) ∧ Below w.heap.size w w' := by
  have hc := crcF_lt s
  go_enter Tryz.func23, Tryz.ntmps23
  go_wp2_with fail
  refine (implCrc16_any s _ hs).mono ?_
  rintro e w' ⟨rfl, rfl⟩
  go_wp2_with fail
  refine (Decimal_any _ _ (by omega) (by omega) ht).mono ?_
  rintro e w1 ⟨rfl, hb⟩
  have hL := itoa_len5 (crcF s) hc
  have hsz := Lib.hid (decS_size (crcF s))
  rw [← hsz.out] at hL
  have hN : (5 : Int) - ((decS (crcF s)).size : Int) = ((5 - (decS (crcF s)).size : Nat) : Int) := by omega
  go_wp2_with fail
  refine (Tryz.strings_Repeat ⟨#[48]⟩ (5 - (decS (crcF s)).size) _ (by omega) (by show 1 * _ ≤ _; omega)).mono ?_
  rintro e w2 ⟨rfl, hb2⟩
  have hr : (⟨(Lib.repeatL (⟨#[48]⟩ : ByteArray).data.toList (5 - (decS (crcF s)).size)).toArray⟩ : ByteArray) = ⟨(List.replicate (5 - (decS (crcF s)).size) 48).toArray⟩ := by rw [← repeatL_0]
  have hrs : (⟨(List.replicate (5 - (decS (crcF s)).size) 48).toArray⟩ : ByteArray).size ≤ 5 := by rw [mk_size]; simp
  have hfin : (⟨(List.replicate (5 - (decS (crcF s)).size) 48).toArray⟩ : ByteArray) ++ decS (crcF s) = fiveS (crcF s) := by
    unfold fiveS fiveL; rw [hsz.out]; exact ByteArray.mk_append_mk _ _
  have HF := Lib.hid hfin
  clear hfin
  rw [hr]
  generalize (⟨(List.replicate (5 - (decS (crcF s)).size) 48).toArray⟩ : ByteArray) = R at *
  have hd5 : (decS (crcF s)).size ≤ 5 := hL
  clear hN hr
  go_wp2
  go_ret
  exact ⟨ret_str HF.out, hb.trans (hb2.mono hb.size)⟩

def spS : ByteArray := ⟨#[32]⟩
def restB (b : DBlock) : ByteArray := b.kind ++ ⟨#[32]⟩ ++ b.name ++ ⟨#[32]⟩ ++ b.text
def lineB (b : DBlock) : ByteArray := fiveS (crcF (restB b)) ++ ⟨#[32]⟩ ++ restB b ++ ⟨#[10]⟩
theorem blockB_sizes {b : DBlock} (h : blockB b = true) : b.kind.size ≤ 10 ∧ b.name.size ≤ 10 ∧ b.text.size ≤ 400 := by
  unfold blockB nameB at h
  simp only [Bool.and_eq_true, decide_eq_true_eq] at h
  exact ⟨h.1.1.2.1.1, h.1.2.1.1, h.2⟩
theorem restB_size (b : DBlock) : (restB b).size = b.kind.size + 1 + b.name.size + 1 + b.text.size := by
  unfold restB; simp only [ByteArray.size_append]; rfl
theorem lineB_size (b : DBlock) : (lineB b).size = 7 + (restB b).size := by
  unfold lineB; simp only [ByteArray.size_append]; rw [fiveS_size (crcF_lt _)]
  show 5 + 1 + _ + 1 = _; omega
set_option maxRecDepth 100000 in
set_option maxHeartbeats 2000000 in
theorem l29Line_any (pb po : Nat) (x : DBlock) (w : World) (hp : PBlock w pb po x) (hv : blockB x = true) :
    Calls Tryz.prog 64 #[.pointer (some ⟨pb, po, none⟩)] w fun e w' => e = .returned (.string (lineB x)) ∧ Below w.heap.size w w' := by
  obtain ⟨c0, c1, c2⟩ := hp
  obtain ⟨hs0, hs1, hs2⟩ := blockB_sizes hv
  clear hv
  have hr0 : (x.kind ++ ⟨#[32]⟩).size ≤ 11 := by rw [ByteArray.size_append]; show _ + 1 ≤ _; omega
  have hr1 : (x.kind ++ ⟨#[32]⟩ ++ x.name).size ≤ 21 := by rw [ByteArray.size_append]; omega
  have hr2 : (x.kind ++ ⟨#[32]⟩ ++ x.name ++ ⟨#[32]⟩).size ≤ 22 := by rw [ByteArray.size_append]; show _ + 1 ≤ _; omega
  go_enter Tryz.func64, Tryz.ntmps64
  go_wp2
  have gc0 := cell_regrown c0
  have gc1 := cell_regrown c1
  have gc2 := cell_regrown c2
  refine wp_region_mix (C := fun w' => ∃ p : Regrown, w' = Go.Sort.grow (redrawn w p.d) p.os) [true, true, true, true, true, true, true, true, true, true, true, true, true, true, true, true, true] (by kernel_rfl) (by kernel_rfl) (by kernel_rfl) (fun _ _ d _ _ h => by cases d <;> exact h) (regrown_of_below (Below.drew (Below.refl _ _))) ?_
  have hS0 : Below w.heap.size w w.drew := Below.drew (Below.refl _ _)
  refine wpMix_pure (by kernel_rfl) (fun K hK => ?_)
  go_big_quiet_op
  refine hK _ ?_; clear hK K
  refine wpMix_pure (by kernel_rfl) (fun K hK => ?_)
  go_big_quiet_op
  refine hK _ ?_; clear hK K
  refine wpMix_pure (by kernel_rfl) (fun K hK => ?_)
  go_big_quiet_op
  refine hK _ ?_; clear hK K
  refine wpMix_pure (by kernel_rfl) (fun K hK => ?_)
  go_big_quiet_op
  refine hK _ ?_; clear hK K
  refine wpMix_pure (by kernel_rfl) (fun K hK => ?_)
  go_big_quiet_op
  refine hK _ ?_; clear hK K
  refine wpMix_pure (by kernel_rfl) (fun K hK => ?_)
  go_big_quiet_op
  refine hK _ ?_; clear hK K
  refine wpMix_pure (by kernel_rfl) (fun K hK => ?_)
  go_big_quiet_op
  refine hK _ ?_; clear hK K
  refine wpMix_pure (by kernel_rfl) (fun K hK => ?_)
  go_big_quiet_op
  refine hK _ ?_; clear hK K
  refine wpMix_pure (by kernel_rfl) (fun K hK => ?_)
  go_big_quiet_op
  refine hK _ ?_; clear hK K
  refine wpMix_pure (by kernel_rfl) (fun K hK => ?_)
  go_big_quiet_op
  refine hK _ ?_; clear hK K
  refine wpMix_pure (by kernel_rfl) (fun K hK => ?_)
  go_big_quiet_op
  refine hK _ ?_; clear hK K
  refine wpMix_pure (by kernel_rfl) (fun K hK => ?_)
  go_big_quiet_op
  refine hK _ ?_; clear hK K
  refine wpMix_pure (by kernel_rfl) (fun K hK => ?_)
  go_big_quiet_op
  refine hK _ ?_; clear hK K
  refine wpMix_pure (by kernel_rfl) (fun K hK => ?_)
  go_big_quiet_op
  refine hK _ ?_; clear hK K
  refine wpMix_pure (by kernel_rfl) (fun K hK => ?_)
  go_big_quiet_op
  refine hK _ ?_; clear hK K
  refine wpMix_pure (by kernel_rfl) (fun K hK => ?_)
  go_big_quiet_op
  refine hK _ ?_; clear hK K
  refine wpMix_pure (by kernel_rfl) (fun K hK => ?_)
  go_big_quiet_op
  refine hK _ ?_; clear hK K
  refine wpMix_nil ?_
  go_wp2_with fail
  have hbA := hS0
  refine (l01Crc_any (restB x) _ (by rw [restB_size]; omega)).mono ?_
  rintro e w' ⟨rfl, rfl⟩
  go_wp2_with fail
  refine (l29Five_any _ _ (crcF_lt _)).mono ?_
  rintro e w2 ⟨rfl, hb2⟩
  have h5 : (fiveS (crcF (restB x))).size ≤ 5 := Nat.le_of_eq (fiveS_size (crcF_lt _))
  generalize HFV : fiveS (crcF (restB x)) = FV at *
  have HFV2 := Lib.hid HFV
  clear HFV
  go_wp2
  go_ret
  exact ⟨ret_str (by rw [← HFV2.out]; rfl), hbA.trans (hb2.mono hbA.size)⟩


theorem bytes_appendA (a b : List UInt8) : (ByteArray.mk a.toArray ++ ByteArray.mk b.toArray) = ⟨(a ++ b).toArray⟩ := ByteArray.mk_append_mk a b
theorem bytes_selfA (s : ByteArray) : s = ⟨s.data.toList.toArray⟩ := by cases s; simp
theorem data_append (a b : ByteArray) : (a ++ b).data.toList = a.data.toList ++ b.data.toList := by
  conv => lhs; rw [bytes_selfA a, bytes_selfA b, bytes_appendA]
theorem append_mk (a : ByteArray) (l : List UInt8) : a ++ ⟨l.toArray⟩ = ⟨(a.data.toList ++ l).toArray⟩ := by
  conv => lhs; rw [bytes_selfA a]
  exact bytes_appendA _ _
def headS (n : Nat) : ByteArray := ⟨#[97, 114, 99, 104, 105, 118, 101, 32]⟩ ++ decS n ++ ⟨#[10]⟩
theorem headS_size {n : Nat} (h : n < 65536) : (headS n).size ≤ 14 := by
  have := itoa_len5 n h
  unfold headS; rw [ByteArray.size_append, ByteArray.size_append, decS_size]
  show 8 + _ + 1 ≤ _; omega
def saveL (xs : List DBlock) (k : Nat) : List UInt8 := (headS xs.length).data.toList ++ (xs.take k).flatMap (fun b => (lineB b).data.toList)
theorem saveL_zero (xs : List DBlock) : saveL xs 0 = (headS xs.length).data.toList := by unfold saveL; simp
theorem saveL_step {xs : List DBlock} {k : Nat} (h : k < xs.length) : saveL xs (k + 1) = saveL xs k ++ (lineB xs[k]).data.toList := by
  unfold saveL; rw [List.take_succ_eq_append_getElem h, List.flatMap_append]; simp
def saveF (xs : List DBlock) : ByteArray := if blocksB xs then ⟨(saveL xs xs.length).toArray⟩ else ⟨#[]⟩
def saveC (xs : List DBlock) : Int := if blocksB xs then 0 else 1
theorem allIdx_at {p : Nat → Bool} : ∀ {n : Nat}, allIdx p n = true → ∀ k, k < n → p k = true := fun h k hk => allIdx_true.1 h k hk
theorem blocksB_at {xs : List DBlock} (h : blocksB xs = true) {k : Nat} (hk : k < xs.length) : blockB xs[k] = true := by
  unfold blocksB at h; simp only [Bool.and_eq_true, decide_eq_true_eq] at h
  have h1 := allIdx_at h.1 k hk
  unfold bOk at h1
  simp only [Bool.and_eq_true] at h1
  have h2 := h1.1
  rw [List.getD_eq_getElem?_getD, List.getElem?_eq_getElem hk] at h2
  exact h2
theorem lineB_le {x : DBlock} (h : blockB x = true) : (lineB x).size ≤ 429 := by
  obtain ⟨h0, h1, h2⟩ := blockB_sizes h
  rw [lineB_size, restB_size]; omega
theorem data_len (s : ByteArray) : s.data.toList.length = s.size := by simp
theorem saveL_len {xs : List DBlock} (h : blocksB xs = true) : ∀ k, k ≤ xs.length → (saveL xs k).length ≤ 14 + 429 * k
  | 0, _ => by rw [saveL_zero, data_len]; have := headS_size (n := xs.length) (by have := blocksB_len h; omega); omega
  | k + 1, hk => by
    have h1 := saveL_len h k (by omega)
    have h2 := lineB_le (blocksB_at h (k := k) (by omega))
    rw [saveL_step (by omega), List.length_append, data_len]; omega
theorem saveL_lineS {xs : List DBlock} {k : Nat} (h : k < xs.length) {t : ByteArray} (ht : t = ⟨(saveL xs k).toArray⟩) : t ++ lineB xs[k] = ⟨(saveL xs (k + 1)).toArray⟩ := by
  rw [ht, saveL_step h]
  conv => lhs; rhs; rw [bytes_selfA (lineB xs[k])]
  exact bytes_appendA _ _
set_option maxRecDepth 100000 in
set_option maxHeartbeats 2000000 in
theorem l29Save_any (v : Value) (xs : List DBlock) (fp : List Nat) (w : World) (hx : Sl fBlock.cod w v xs fp) (hv : blocksB xs = true) :
    Calls Tryz.prog 36 #[v] w fun e w' => e = .returned (.string ⟨(saveL xs xs.length).toArray⟩) ∧ Below w.heap.size w w' := by
  obtain ⟨A, cap, rfl, hlen, hcap⟩ := hx.form
  have h32 := blocksB_len hv
  have HV := Lib.hid hv
  clear hv
  have hd21 : (decS (xs.length : Nat)).size ≤ 21 := by rw [decS_size]; exact itoa_len20 (by omega) (by omega)
  go_enter Tryz.func36, Tryz.ntmps36
  go_wp2_with fail
  refine (l01Dec_any _ _ (by omega) (by omega)).mono ?_
  rintro e w1 ⟨rfl, hb1⟩
  have h0 : (ByteArray.mk #[97, 114, 99, 104, 105, 118, 101, 32] ++ decS (xs.length : Nat) ++ ByteArray.mk #[10]) = ⟨(saveL xs 0).toArray⟩ := by rw [saveL_zero]; exact bytes_selfA _
  have H0 := Lib.hid h0
  clear h0
  go_wp2
  go_loopw [3, 4] (fun t i wr => ∃ k : Nat, k ≤ xs.length ∧ i = .int .i64 k ∧ ∃ s : ByteArray, t = .string s ∧ s.size ≤ 14 + 429 * k ∧ Hid (s = ⟨(saveL xs k).toArray⟩) ∧ Below w.heap.size w wr) (fun _ i _ => xs.length - (intOf i).toNat)
  case atStart => exact ⟨0, Nat.zero_le _, rfl, _, rfl, by rw [H0.out, mk_size]; exact saveL_len HV.out 0 (Nat.zero_le _), H0, hb1⟩
  case round =>
    obtain ⟨k, hk, rfl, t, rfl, hts, HT, hb⟩ := hrel
    by_cases hlt : k < xs.length
    · obtain ⟨b, off, rfl, _, hok, hp⟩ := PBlock.elem (hx.below' hb) hlt
      have hls := lineB_le (blocksB_at HV.out hlt)
      have HS := Lib.hid (saveL_lineS hlt HT.out)
      go_wp2_with fail
      refine (l29Line_any _ _ _ _ hp (blocksB_at HV.out hlt)).mono ?_
      rintro e w2 ⟨rfl, hb2⟩
      go_wp2
      go_roundw
      case rel => exact ⟨k + 1, by omega, by go_num, _, rfl, by rw [ByteArray.size_append]; omega, HS, hb.trans (hb2.mono hb.size)⟩
      case measure => simp [intOf]; omega
    · have hke : k = xs.length := by omega
      subst hke
      go_wp2
      go_ret
      exact ⟨ret_str HT.out, hb⟩
set_option maxRecDepth 100000 in
set_option maxHeartbeats 2000000 in
theorem specSaveBlocks_any (v : Value) (xs : List DBlock) (fp : List Nat) (w : World) (hx : Sl fBlock.cod w v xs fp) :
    Calls Tryz.prog 11 #[v] w fun e w' => e = .returned (.tuple #[.string (saveF xs), .int .i64 (saveC xs)]) ∧ Below w.heap.size w w' := by
  unfold saveF saveC
  by_cases h : blocksB xs = true
  · rw [if_pos h, if_pos h]
    have HH := Lib.hid h
    clear h
    go_enter Tryz.func11, Tryz.ntmps11
    go_wp2_with fail
    refine (l29Ok_any _ _ _ _ hx).mono ?_
    rintro e w1 ⟨rfl, hb1⟩
    rw [HH.out]
    go_wp2_with fail
    refine (l29Save_any _ _ _ _ (hx.below' hb1) HH.out).mono ?_
    rintro e w2 ⟨rfl, hb2⟩
    go_wp2
    go_ret2
    exact ⟨rfl, hb1.trans (hb2.mono hb1.size)⟩
  · have h' : blocksB xs = false := by simpa using h
    rw [if_neg h, if_neg h]
    have HH := Lib.hid h'
    clear h h'
    go_enter Tryz.func11, Tryz.ntmps11
    go_wp2_with fail
    refine (l29Ok_any _ _ _ _ hx).mono ?_
    rintro e w1 ⟨rfl, hb1⟩
    rw [HH.out]
    go_wp2
    go_ret2
    exact ⟨rfl, hb1⟩

theorem isBuilder_below {B b : Nat} {bs : List Value} {w w' : World} (h : Lib.IsBuilder 50 5 B b bs w) (hb : Below w.heap.size w w') : Lib.IsBuilder 50 5 B b bs w' := by
  have key : ∀ p, Lib.BuilderAt 50 5 B b p bs w → Lib.BuilderAt 50 5 B b p bs w' := by
    rintro p ⟨hB, v, hbk, hown, hne⟩
    have hlt : b < w.heap.size := by
      rcases Nat.lt_or_ge b w.heap.size with h' | h'
      · exact h'
      · simp [Array.getElem?_eq_none h'] at hbk
    refine ⟨hB, v, by rw [hb.block _ hlt]; exact hbk, ?_, hne⟩
    obtain ⟨h1, h2⟩ := hown
    refine ⟨h1, ?_⟩
    rcases h2 with h2 | ⟨g, cap, cur, hv, hg, hh, r⟩
    · exact .inl h2
    · have hgl : g < w.heap.size := by
        rcases Nat.lt_or_ge g w.heap.size with hlt | hge
        · exact hlt
        · rw [Array.getElem?_eq_none hge] at hh; cases hh
      exact .inr ⟨g, cap, cur, hv, hg, by rw [hb.block _ hgl]; exact hh, r⟩
  rcases h with h | h
  · exact .inl (key _ h)
  · exact .inr (key _ h)
theorem lineB_eq (x : DBlock) : fiveS (crcF (restB x)) ++ ⟨#[32]⟩ ++ restB x ++ ⟨#[10]⟩ = lineB x := rfl
set_option maxRecDepth 100000 in
set_option maxHeartbeats 4000000 in
theorem implSaveBlocks_any (v : Value) (xs : List DBlock) (fp : List Nat) (w : World) (hx : Sl fBlock.cod w v xs fp) (ht : Tab10 w) :
    Calls Tryz.prog 6 #[v] w fun e w' => e = .returned (.tuple #[.string (saveF xs), .int .i64 (saveC xs)]) ∧ Below w.heap.size w w' := by
  unfold saveF saveC
  obtain ⟨A, cap, rfl, hlen, hcap⟩ := hx.form
  by_cases h : blocksB xs = true
  · rw [if_pos h, if_pos h]
    have h32 := blocksB_len h
    have hd21 : (decS (xs.length : Nat)).size ≤ 21 := by rw [decS_size]; exact itoa_len20 (by omega) (by omega)
    have h0 : (ByteArray.mk #[97, 114, 99, 104, 105, 118, 101, 32] ++ decS (xs.length : Nat) ++ ByteArray.mk #[10]) = ⟨(saveL xs 0).toArray⟩ := by rw [saveL_zero]; exact bytes_selfA _
    have H0 := Lib.hid h0
    have HZ := Lib.hid (saveL_len h 0 (Nat.zero_le _))
    have HH := Lib.hid h
    clear h h0
    go_enter Tryz.func6, Tryz.ntmps6
    go_wp2_with fail
    refine (validBlocks_any _ _ _ _ hx).mono ?_
    rintro e w1 ⟨rfl, hb1⟩
    rw [HH.out]
    have hx1 := hx.below' hb1
    have ht1 := ht.below hb1
    go_wp2_with fail
    refine (Decimal_any _ _ (by omega) (by omega) (ht1.below (by repeat (first | exact Below.refl _ _ | assumption | refine Below.alloc ?_ (by first | omega | (simp <;> omega)) _ | refine Below.setCell ?_ (by first | (show _ ≤ _; omega) | (simp <;> omega)) _ | refine Below.drew ?_ | refine below_drewN ?_ _)))).mono ?_
    rintro e w2 ⟨rfl, hb2⟩
    have hB0 : Below w1.heap.size w1 w2 := ((Below.refl _ _).alloc (Nat.le_refl _) _).trans (hb2.mono (by simp))
    have hI0 := isBuilder_below (builder_new w1) hb2
    go_wp2_with fail
    refine (writeString_any w1.heap.size w1.heap.size _ _ _ hI0 (by rw [H0.out, mk_size]; have := HZ.out; simp; omega) hB0.size).mono ?_
    rintro e w3 ⟨rfl, hI3, hb3⟩
    rw [H0.out, Lib.strCells_eq, List.nil_append] at hI3
    have hI4 : Lib.IsBuilder 50 5 w1.heap.size w1.heap.size (Lib.byteCells (saveL xs 0)) w3 := by simpa using hI3
    have hB3 := hB0.trans hb3
    clear hI3 hI0 hb3 hb2 hB0
    go_wp2
    go_loopw [19] (fun i wr => ∃ k : Nat, k ≤ xs.length ∧ i = .int .i64 k ∧ Lib.IsBuilder 50 5 w1.heap.size w1.heap.size (Lib.byteCells (saveL xs k)) wr ∧ Below w1.heap.size w1 wr) (fun i _ => xs.length - (intOf i).toNat)
    case atStart => exact ⟨0, Nat.zero_le _, rfl, hI4, hB3⟩
    case round =>
      obtain ⟨k, hk, rfl, hI, hb⟩ := hrel
      have hbs := hb.size
      by_cases hlt : k < xs.length
      · obtain ⟨b, off, rfl, _, hok, hp⟩ := PBlock.elem (hx1.below' hb) hlt
        have hvb := blocksB_at HH.out hlt
        obtain ⟨c0, c1, c2⟩ := id hp
        obtain ⟨hs0, hs1, hs2⟩ := blockB_sizes hvb
        have hr0 : (xs[k].kind ++ ⟨#[32]⟩).size ≤ 11 := by rw [ByteArray.size_append]; show _ + 1 ≤ _; omega
        have hr1 : (xs[k].kind ++ ⟨#[32]⟩ ++ xs[k].name).size ≤ 21 := by rw [ByteArray.size_append]; omega
        have hr2 : (xs[k].kind ++ ⟨#[32]⟩ ++ xs[k].name ++ ⟨#[32]⟩).size ≤ 22 := by rw [ByteArray.size_append]; show _ + 1 ≤ _; omega
        have hrs : (restB xs[k]).size ≤ 422 := by rw [restB_size]; omega
        have h5 : (fiveS (crcF (restB xs[k]))).size ≤ 5 := Nat.le_of_eq (fiveS_size (crcF_lt _))
        have h6 : (fiveS (crcF (restB xs[k])) ++ ⟨#[32]⟩).size ≤ 6 := by rw [ByteArray.size_append]; show _ + 1 ≤ _; omega
        have h7 : (fiveS (crcF (restB xs[k])) ++ ⟨#[32]⟩ ++ restB xs[k]).size ≤ 428 := by rw [ByteArray.size_append]; omega
        have hls := lineB_le hvb
        have HSL := Lib.hid (saveL_len HH.out k hk)
        have HST := Lib.hid (saveL_step hlt)
        clear hvb
        go_wp2_with fail
        refine (checkText_any (restB xs[k]) _ (by omega) (ht1.below (by repeat (first | exact Below.refl _ _ | assumption | refine Below.alloc ?_ (by first | omega | (simp <;> omega)) _ | refine Below.setCell ?_ (by first | (show _ ≤ _; omega) | (simp <;> omega)) _ | refine Below.drew ?_ | refine below_drewN ?_ _)))).mono ?_
        rintro e w4 ⟨rfl, hb4⟩
        have hB4 : Below w1.heap.size w1 w4 := (hb.alloc hbs _).trans (hb4.mono (by simp; omega))
        have hI5 := isBuilder_below hI (((Below.refl _ _).alloc (Nat.le_refl _) _).trans (hb4.mono (by simp)))
        generalize hFV : fiveS (crcF (restB xs[k])) = FV at *
        have hln : FV ++ ⟨#[32]⟩ ++ (xs[k].kind ++ ⟨#[32]⟩ ++ xs[k].name ++ ⟨#[32]⟩ ++ xs[k].text) ++ ⟨#[10]⟩ = lineB xs[k] := by rw [← hFV]; rfl
        have HLN := Lib.hid hln
        have h7' : (FV ++ ⟨#[32]⟩ ++ (xs[k].kind ++ ⟨#[32]⟩ ++ xs[k].name ++ ⟨#[32]⟩ ++ xs[k].text)).size ≤ 428 := h7
        clear hln hFV h7
        go_wp2_with fail
        refine (writeString_any w1.heap.size w1.heap.size _ _ _ hI5 (by rw [Lib.byteCells_length, HLN.out]; have := HSL.out; omega) hB4.size).mono ?_
        rintro e w5 ⟨rfl, hI6, hb6⟩
        rw [HLN.out, Lib.strCells_eq, ← Lib.byteCells_append, ← HST.out] at hI6
        go_wp2
        go_roundw
        case rel => exact ⟨k + 1, by omega, by go_num, hI6, hB4.trans hb6⟩
        case measure => simp [intOf]; omega
      · have hke : k = xs.length := by omega
        subst hke
        go_wp2_with fail
        refine (Tryz.Builder_String_any w1.heap.size w1.heap.size _ _ hI hbs).mono ?_
        rintro e w2 ⟨rfl, hb2⟩
        go_wp2
        go_ret2
        exact ⟨rfl, hb1.trans ((hb.trans hb2).mono hb1.size)⟩
  · have h' : blocksB xs = false := by simpa using h
    rw [if_neg h, if_neg h]
    have HH := Lib.hid h'
    clear h h'
    go_enter Tryz.func6, Tryz.ntmps6
    go_wp2_with fail
    refine (validBlocks_any _ _ _ _ hx).mono ?_
    rintro e w1 ⟨rfl, hb1⟩
    rw [HH.out]
    go_wp2
    go_ret2
    exact ⟨rfl, hb1⟩

end Go.Proofs.YtmhefhapighloaaGreatDoor

namespace Go.Proofs.YtmhefhapighloaaGreatDoor
open Go.RowKit
set_option linter.unusedVariables false

def splL (c : UInt8) : List UInt8 → List (List UInt8)
  | [] => [[]]
  | b :: l => if b = c then [] :: splL c l else match splL c l with | [] => [[b]] | q :: r => (b :: q) :: r
theorem splL_ne (c : UInt8) : ∀ l, splL c l ≠ []
  | [] => by simp [splL]
  | b :: l => by
    unfold splL
    split
    · simp
    · split <;> simp
theorem splL_snoc (c : UInt8) (b : UInt8) : ∀ (l : List UInt8) (P : List (List UInt8)) (q : List UInt8), splL c l = P ++ [q] → splL c (l ++ [b]) = if b = c then P ++ [q] ++ [[]] else P ++ [q ++ [b]]
  | [], P, q, h => by
    have h' : [[]] = P ++ [q] := h
    cases P with
    | nil =>
      injection h' with h1 _
      subst h1
      show splL c [b] = _
      by_cases e : b = c <;> simp [splL, e]
    | cons p P => cases P <;> simp at h'
  | x :: l, P, q, h => by
    rw [List.cons_append]
    obtain ⟨P1, q1, h1⟩ : ∃ P1 q1, splL c l = P1 ++ [q1] := ⟨_, _, (List.dropLast_concat_getLast (splL_ne c l)).symm⟩
    have ih := splL_snoc c b l P1 q1 h1
    unfold splL at h ⊢
    by_cases e : x = c
    · rw [if_pos e] at h ⊢
      rw [h1, ← List.cons_append] at h
      obtain ⟨h2, h3⟩ := List.append_inj' h rfl
      subst h2
      injection h3 with h3 _
      subst h3
      rw [ih]
      by_cases eb : b = c
      · simp [eb]
      · simp [eb]
    · rw [if_neg e] at h ⊢
      rw [ih]
      rw [h1] at h
      cases P1 with
      | nil =>
        have h4 : [x :: q1] = P ++ [q] := h
        cases P with
        | nil =>
          injection h4 with h4 _
          subst h4
          by_cases eb : b = c <;> simp [eb]
        | cons p P => cases P <;> simp at h4
      | cons p1 P1 =>
        have h4 : ((x :: p1) :: P1) ++ [q1] = P ++ [q] := h
        obtain ⟨h2, h3⟩ := List.append_inj' h4 rfl
        subst h2
        injection h3 with h3 _
        subst h3
        by_cases eb : b = c <;> simp [eb]
theorem splL_none {c : UInt8} : ∀ {l : List UInt8}, (∀ b ∈ l, b ≠ c) → splL c l = [l]
  | [], _ => rfl
  | b :: l, h => by
    unfold splL
    rw [if_neg (h b (by simp)), splL_none (fun x hx => h x (by simp [hx]))]
/-- The pieces, each with the byte behind it but the last one, are the text. -/
theorem splL_join (c : UInt8) : ∀ (l : List UInt8) (P : List (List UInt8)) (q : List UInt8), splL c l = P ++ [q] → (P.flatMap fun p => p ++ [c]) ++ q = l
  | [], P, q, h => by
    have h' : [[]] = P ++ [q] := h
    cases P with
    | nil => injection h' with h1 _; subst h1; rfl
    | cons p P => cases P <;> simp at h'
  | x :: l, P, q, h => by
    obtain ⟨P1, q1, h1⟩ : ∃ P1 q1, splL c l = P1 ++ [q1] := ⟨_, _, (List.dropLast_concat_getLast (splL_ne c l)).symm⟩
    have ih := splL_join c l P1 q1 h1
    unfold splL at h
    by_cases e : x = c
    · rw [if_pos e, h1, ← List.cons_append] at h
      obtain ⟨h2, h3⟩ := List.append_inj' h rfl
      subst h2
      injection h3 with h3 _
      subst h3
      rw [List.flatMap_cons, List.append_assoc, ih, e]; rfl
    · rw [if_neg e, h1] at h
      cases P1 with
      | nil =>
        have h4 : [x :: q1] = P ++ [q] := h
        cases P with
        | nil =>
          injection h4 with h4 _
          subst h4
          rw [← ih]; rfl
        | cons p P => cases P <;> simp at h4
      | cons p1 P1 =>
        have h4 : ((x :: p1) :: P1) ++ [q1] = P ++ [q] := h
        obtain ⟨h2, h3⟩ := List.append_inj' h4 rfl
        subst h2
        injection h3 with h3 _
        subst h3
        rw [← ih]; simp
open Go.Lib in
theorem index_one (c : UInt8) (b : UInt8) (l : List UInt8) : index (b :: l) [c] = if b = c then 0 else if index l [c] == -1 then -1 else index l [c] + 1 := by
  rw [index]
  by_cases e : b = c
  · simp [List.isPrefixOf, e]
  · have e' : ¬ c = b := fun h => e h.symm
    simp [List.isPrefixOf, e, e']
open Go.Lib in
theorem splitK_one (c : UInt8) : ∀ l : List UInt8, splitK [c] 0 (count l [c]) l = splL c l
  | [] => by
    have h : index ([] : List UInt8) [c] = -1 := rfl
    rw [count_miss h]; rfl
  | b :: l => by
    have ih := splitK_one c l
    have hne : [c] ≠ ([] : List UInt8) := by simp
    have hi := index_one c b l
    unfold splL
    by_cases e : b = c
    · rw [if_pos e] at hi ⊢
      have hc := count_hit (i := 0) hne hi
      simp only [List.length_singleton, Nat.zero_add, List.drop_succ_cons, List.drop_zero] at hc
      rw [hc, Nat.add_comm 1, splitK, hi]
      simp [ih]
    · rw [if_neg e] at hi ⊢
      rcases index_spec l [c] with ⟨h1, _⟩ | ⟨i, h1, _⟩
      · rw [h1] at hi
        have hm : index (b :: l) [c] = -1 := hi
        rw [count_miss h1] at ih
        have ih' : [l] = splL c l := ih
        rw [count_miss hm, ← ih']; rfl
      · have hm : index (b :: l) [c] = ((i + 1 : Nat) : Int) := by
          rw [hi, h1, if_neg (by rw [beq_iff_eq]; omega)]; omega
        have c1 := count_hit hne h1
        have c2 := count_hit hne hm
        rw [c1, Nat.add_comm 1, splitK, h1, if_neg (by rw [beq_iff_eq]; omega)] at ih
        rw [c2, Nat.add_comm 1, splitK, hm, if_neg (by rw [beq_iff_eq]; omega), ← ih]
        simp
def splS (c : UInt8) (s : ByteArray) : List ByteArray := (splL c s.data.toList).map (fun l => ⟨l.toArray⟩)
theorem splS_data (c : UInt8) (s : ByteArray) : (splS c s).map (fun x : ByteArray => x.data.toList) = splL c s.data.toList := by
  unfold splS; rw [List.map_map]; simp [Function.comp_def]
theorem splS_of {c : UInt8} {s : ByteArray} {L : List ByteArray} (h : L.map (fun x : ByteArray => x.data.toList) = splL c s.data.toList) : L = splS c s := by
  unfold splS; rw [← h, List.map_map]
  have : ((fun l : List UInt8 => (⟨l.toArray⟩ : ByteArray)) ∘ fun x : ByteArray => x.data.toList) = id := by funext x; cases x; simp
  rw [this, List.map_id]
theorem splS_split (c : UInt8) (s : ByteArray) : Lib.splitB ⟨#[c]⟩ 0 (Lib.countB s ⟨#[c]⟩) s = splS c s := by
  refine splS_of ?_
  have h := Lib.splitB_data ⟨#[c]⟩ 0 (Lib.countB s ⟨#[c]⟩) s
  exact h.trans (splitK_one c s.data.toList)
/-- All but the last piece, and the last one. -/
theorem splS_cut (c : UInt8) (s : ByteArray) : ∃ (P : List ByteArray) (q : ByteArray), splS c s = P ++ [q] ∧ (P.flatMap fun p : ByteArray => p.data.toList ++ [c]) ++ q.data.toList = s.data.toList := by
  have hne : splS c s ≠ [] := by unfold splS; rw [Ne, List.map_eq_nil_iff]; exact splL_ne c _
  refine ⟨(splS c s).dropLast, (splS c s).getLast hne, (List.dropLast_concat_getLast hne).symm, ?_⟩
  have h := splS_data c s
  rw [← List.dropLast_concat_getLast hne, List.map_append] at h
  have h2 := splL_join c s.data.toList _ _ h.symm
  rw [List.flatMap_map] at h2
  exact h2
theorem infoStr4 : (Tryz.prog.info? 9).map (fun i => (i.zero, i.size, i.bytes)) = some (some (.string ⟨#[]⟩), 1, 16) := by kernel_rfl
def OwnRT {α : Type} (E : Flat α) (T : TypeId) (w : World) (xs : List α) (e : Ending) (w' : World) : Prop := ∃ v, e = .returned v ∧ Own E w' w.heap.size T v xs ∧ Below w.heap.size w w'
theorem extract_toList (s : ByteArray) (f k : Nat) : (s.extract f k).data.toList = (s.data.toList.take k).drop f := by
  rw [Lib.extract_data, List.drop_take]

end Go.Proofs.YtmhefhapighloaaGreatDoor

namespace Go.Proofs.YtmhefhapighloaaGreatDoor
open Go.RowKit
set_option linter.unusedVariables false

def ixL (c : UInt8) : List UInt8 → Nat
  | [] => 0
  | b :: l => if b = c then 0 else ixL c l + 1
theorem ixL_cons (c b : UInt8) (l : List UInt8) : ixL c (b :: l) = if b = c then 0 else ixL c l + 1 := rfl
theorem ixL_le (c : UInt8) : ∀ l, ixL c l ≤ l.length
  | [] => Nat.le_refl _
  | b :: l => by
    rw [ixL_cons]; split
    · simp
    · have := ixL_le c l; simp; omega
theorem ixL_index (c : UInt8) : ∀ l, Lib.index l [c] = if ixL c l < l.length then (ixL c l : Int) else -1
  | [] => rfl
  | b :: l => by
    rw [index_one, ixL_index c l, ixL_cons]
    by_cases e : b = c
    · rw [if_pos e, if_pos e, if_pos (by simp)]; rfl
    · rw [if_neg e, if_neg e]
      by_cases h : ixL c l < l.length
      · rw [if_pos h, if_neg (by rw [beq_iff_eq]; omega), if_pos (by simp; omega)]; push_cast; rfl
      · rw [if_neg h, if_pos (by decide), if_neg (by simp; omega)]
theorem ixL_hit {c : UInt8} {l : List UInt8} {k : Nat} (hk : k < l.length) (h : l[k] = c) : ixL c (l.drop k) = 0 := by
  rw [List.drop_eq_getElem_cons hk, ixL_cons, if_pos h]
theorem ixL_no {c : UInt8} {l : List UInt8} {k : Nat} (hk : k < l.length) (h : l[k] ≠ c) : ixL c (l.drop k) = ixL c (l.drop (k + 1)) + 1 := by
  rw [List.drop_eq_getElem_cons hk, ixL_cons, if_neg h]
theorem ixL_end {c : UInt8} {l : List UInt8} {k : Nat} (hk : l.length ≤ k) : ixL c (l.drop k) = 0 := by
  rw [List.drop_of_length_le hk]; rfl
theorem indexB_one (c : UInt8) (s : ByteArray) : Lib.indexB s ⟨#[c]⟩ = if ixL c s.data.toList < s.size then (ixL c s.data.toList : Int) else -1 := by
  have h := ixL_index c s.data.toList
  have h2 : s.data.toList.length = s.size := by simp
  rw [h2] at h
  exact h

end Go.Proofs.YtmhefhapighloaaGreatDoor

namespace Go.Proofs.YtmhefhapighloaaGreatDoor
open Go.RowKit Go.WideShapes Go.ChangeShapes Go.ChangeAt

theorem Tryz.own : ownKnob Tryz.prog.godebug = none := by kernel_rfl
theorem Tryz.laidOut : laidOutB Tryz.prog = true := by kernel_rfl

section
variable {H : Type} {enc : TypeId × Value → H} {P : Program}
theorem post_of_below {f : Func} {s : ChangeSpec} {apart fresh handsOn again : Bool} {W W' : World} {args : Array Value} {v : Value} {ds gs : List (DataW H)} {before pa pv : List MemPlace}
    (hW : DataW.Whole enc P f.params.toList s.vars apart W args.toList ds gs before)
    (hres : ∀ (b : Nat) (sp : Nat → Bool) (hd : Bool), DataW.TrodAll enc P W' b sp hd f.resultTypes.toList (v.resultList f.resultTypes.size) (s.fn H (ds ++ gs)).results [])
    (hargs : ∀ sp : Nat → Bool, (∀ p ∈ before, sp p.block = true) → DataW.TrodAll enc P W' 0 sp true f.params.toList args.toList (s.fn H (ds ++ gs)).args pa)
    (hvars : ∀ sp : Nat → Bool, (∀ p ∈ before, sp p.block = true) → DataW.TrodVars enc P W' sp s.vars (s.fn H (ds ++ gs)).vars pv)
    (hps : before = pa ++ pv) (hb : Below W.heap.size W W')
    (hok : ∀ (j : Nat) (t : TypeId) (r : Value), f.resultTypes[j]? = some t → (v.resultList f.resultTypes.size)[j]? = some r → Value.okWide P W' .any 0 t r) :
    s.post enc P f apart fresh handsOn again W args v W' := by
  have hlt : ∀ p ∈ before, p.block < W.heap.size := fun p hp => hW.lt p hp
  have hold : ∀ p ∈ before, (fun b => decide (b < W.heap.size)) p.block = true := fun p hp => by simpa using hlt p hp
  refine ⟨ds, gs, before, [], pa, pv, hW, hres _ _ _, hargs _ hold, hvars _ hold, World.keptBut_mono (fun p hp => ⟨hp, ?_⟩) (hb.frame (· ∈ before)), fun _ => ?_⟩
  · rw [hps, List.mem_append] at hp
    exact Or.inr hp
  · obtain ⟨_, _, _, _, _, hz, hn⟩ := hW
    refine ⟨hok, _, _, ([] ++ pa) ++ pv, ⟨[] ++ pa, pv, trodAll_append (hargs _ (fun _ _ => rfl)) (hres _ _ _), hvars _ (fun _ _ => rfl), rfl, ?_, ?_⟩, ?_⟩
    · intro b off hp
      have hin : MemPlace.cell b off ∈ before := by rw [hps]; simpa using hp
      rw [hb.frozen (hlt _ hin)]
      exact hz b off hin
    · intro ha
      have := hn ha
      rw [hps] at this
      simpa using this
    · intro p hp _
      rw [hps]
      simpa using hp
end

theorem trodAll_below {H : Type} {enc : TypeId × Value → H} {P : Program} (hl : laidOutB P = true) {W W' : World} (hb : Below W.heap.size W W') {sp : Nat → Bool} :
    ∀ (ts : List TypeId) (vs : List Value) (ds : List (DataW H)) (ps : List MemPlace), (∀ t ∈ ts, P.readableRec t = true ∧ t < P.types.size) → DataW.TrodAll enc P W 0 (fun _ => true) true ts vs ds ps → (∀ x ∈ ps, x.block < W.heap.size) → (∀ x ∈ ps, sp x.block = true) → DataW.TrodAll enc P W' 0 sp true ts vs ds ps
  | [], [], [], ps, _, h, _, _ => h
  | t :: ts, v :: vs, d :: ds, ps, hr, h, hlt, hsp => by
    obtain ⟨p, q, h1, h2, rfl⟩ := h
    obtain ⟨r1, r2⟩ := hr t (by simp)
    exact ⟨p, q, WideElems.Trod_stays hl r1 r2 h1 (fun x hx => hb.same (hlt x (by simp [hx]))) (fun x hx => hsp x (by simp [hx])), trodAll_below hl hb ts vs ds q (fun t ht => hr t (by simp [ht])) h2 (fun x hx => hlt x (by simp [hx])) (fun x hx => hsp x (by simp [hx])), rfl⟩
  | [], _ :: _, _, _, _, h, _, _ => by cases h
  | [], [], _ :: _, _, _, h, _, _ => by cases h
  | _ :: _, [], _, _, _, h, _, _ => by cases h
  | _ :: _, _ :: _, [], _, _, h, _, _ => by cases h

theorem trodAll_len {H : Type} {enc : TypeId × Value → H} {P : Program} {W : World} {b : Nat} {sp : Nat → Bool} {hd : Bool} : ∀ (ts : List TypeId) (vs : List Value) (ds : List (DataW H)) (ps : List MemPlace), DataW.TrodAll enc P W b sp hd ts vs ds ps → ds.length = ts.length
  | [], [], [], _, _ => rfl
  | _ :: ts, _ :: vs, _ :: ds, _, h => by obtain ⟨p, q, h1, h2, rfl⟩ := h; simp [trodAll_len ts vs ds q h2]
  | [], _ :: _, _, _, h => by cases h
  | [], [], _ :: _, _, h => by cases h
  | _ :: _, [], _, _, h => by cases h
  | _ :: _, _ :: _, [], _, h => by cases h

set_option maxRecDepth 100000 in
theorem law_lifted {F : FuncId} {fn : Func} {s : ChangeSpec} (os : Os) (started : os.Started) (H : Type) (enc : TypeId × Value → H)
    (hfn : Tryz.checked.prog.funcs[F]? = some fn) (noInit : Tryz.checked.prog.inits.idxOf? F = none)
    (witness : ∃ (w : World) (tape : Tape) (i : Input), w.os = os ∧ (w.forCall tape i).Shaped Tryz.checked.prog ∧ i.vars = [] ∧ Input.okWide Tryz.checked.prog (w.forCall tape i) .any w.heap.size F i ∧
      s.pre6 enc Tryz.checked.prog fn [] false (w.forCall tape i).memory i.args ∧ ({} : Assume).holds Tryz.checked.prog (lone (Frame.enter Tryz.checked.prog F i.args .normal) [] (w.forCall tape i)))
    (hs : s.vars = []) (hres : fn.resultTypes = #[4]) (hread : ∀ t ∈ fn.params.toList, Tryz.prog.readableRec t = true ∧ t < Tryz.prog.types.size)
    (hspec : ∀ ds : List (DataW H), ds.length = fn.params.toList.length → s.fn H ds = { results := [.lit (.bool true)], args := ds })
    (walk : ∀ (W : World) (args : Array Value) (ds : List (DataW H)) (p : List MemPlace), (∀ (j : Nat) t v, fn.params[j]? = some t → args[j]? = some v → ∃ base, Value.okWide Tryz.prog W .any base t v) →
      DataW.TrodAll enc Tryz.prog W 0 (fun _ => true) true fn.params.toList args.toList ds p → W.noneFrozen p → Calls Tryz.prog F args W fun e W' => e = .returned (.bool true) ∧ Below W.heap.size W W') :
    ReturnsInHanded {} Tryz.checked os F .any (s.pre6 enc Tryz.checked.prog fn [] false) (s.post enc Tryz.checked.prog fn false true false false) := by
  refine returnsInHanded_of_change (C := Tryz.checked) Tryz.own started noInit hfn witness ?_
  intro W base args ds gs before hval hW hcnd _
  have hW' := hW
  obtain ⟨p, q, hA, hV, hpq, hfz, hnd⟩ := hW
  rw [hs] at hV
  obtain ⟨rfl, rfl⟩ := trodVars_none hV
  rw [List.append_nil] at hpq
  subst hpq
  refine (walk W args ds _ (fun j t v h1 h2 => ⟨base, hval j t v h1 h2⟩) hA hfz).mono fun e W' ⟨he, hb⟩ => ?_
  subst he
  have hsp : s.fn H (ds ++ []) = { results := [.lit (.bool true)], args := ds } := by
    rw [List.append_nil]; exact hspec ds (trodAll_len _ _ _ _ hA)
  have hlt := fun x hx => hW'.lt x hx
  refine ⟨_, rfl, post_of_below (pa := before) (pv := []) hW' (fun b sp hd => ?_) (fun sp h => ?_) (fun sp h => ?_) (by simp) hb ?_⟩
  · rw [hsp, hres]; exact trodAll_mk1 (shut_bool Tryz.underlying4 _)
  · rw [hsp]; exact trodAll_below Tryz.laidOut hb _ _ _ _ hread hA hlt h
  · rw [hsp, hs]; rfl
  · rw [hres]; exact fun j t r h1 h2 => ok_one (f := fn) hres rfl (okWide_bool_mk Tryz.underlying4 _) j t r (by rw [hres]; exact h1) (by rw [hres]; exact h2)

end Go.Proofs.YtmhefhapighloaaGreatDoor

namespace Go.Proofs.YtmhefhapighloaaGreatDoor
open Go.RowKit Go.WideShapes Go.ChangeShapes Go.ChangeAt

set_option maxRecDepth 100000 in
theorem law_liftedS {F : FuncId} {fn : Func} {s : ChangeSpec} (os : Os) (started : os.Started) (H : Type) (enc : TypeId × Value → H)
    (hfn : Tryz.checked.prog.funcs[F]? = some fn) (noInit : Tryz.checked.prog.inits.idxOf? F = none)
    (witness : ∃ (w : World) (tape : Tape) (i : Input), w.os = os ∧ (w.forCall tape i).Shaped Tryz.checked.prog ∧ i.vars = [] ∧ Input.okWide Tryz.checked.prog (w.forCall tape i) .any w.heap.size F i ∧
      s.pre6 enc Tryz.checked.prog fn [] false (w.forCall tape i).memory i.args ∧ ({} : Assume).holds Tryz.checked.prog (lone (Frame.enter Tryz.checked.prog F i.args .normal) [] (w.forCall tape i)))
    (hs : s.vars = []) (hres : fn.resultTypes = #[4]) (hread : ∀ t ∈ fn.params.toList, Tryz.prog.readableRec t = true ∧ t < Tryz.prog.types.size)
    (hspec : ∀ ds : List (DataW H), ds.length = fn.params.toList.length → s.fn H ds = { results := [.lit (.bool true)], args := ds })
    (walk : ∀ (W : World) (args : Array Value) (ds : List (DataW H)) (p : List MemPlace), W.ShapedOpen Tryz.prog → (∀ (j : Nat) t v, fn.params[j]? = some t → args[j]? = some v → ∃ base, Value.okWide Tryz.prog W .any base t v) →
      DataW.TrodAll enc Tryz.prog W 0 (fun _ => true) true fn.params.toList args.toList ds p → W.noneFrozen p → Calls Tryz.prog F args W fun e W' => e = .returned (.bool true) ∧ Below W.heap.size W W') :
    ReturnsInHanded {} Tryz.checked os F .any (s.pre6 enc Tryz.checked.prog fn [] false) (s.post enc Tryz.checked.prog fn false true false false) := by
  refine returnsInHanded_of_change_shaped (C := Tryz.checked) Tryz.own started noInit hfn witness ?_
  intro W base args ds gs before hval hW hcnd _ hsh _
  have hW' := hW
  obtain ⟨p, q, hA, hV, hpq, hfz, hnd⟩ := hW
  rw [hs] at hV
  obtain ⟨rfl, rfl⟩ := trodVars_none hV
  rw [List.append_nil] at hpq
  subst hpq
  refine (walk W args ds _ hsh (fun j t v h1 h2 => ⟨base, hval j t v h1 h2⟩) hA hfz).mono fun e W' ⟨he, hb⟩ => ?_
  subst he
  have hsp : s.fn H (ds ++ []) = { results := [.lit (.bool true)], args := ds } := by
    rw [List.append_nil]; exact hspec ds (trodAll_len _ _ _ _ hA)
  have hlt := fun x hx => hW'.lt x hx
  refine ⟨_, rfl, post_of_below (pa := before) (pv := []) hW' (fun b sp hd => ?_) (fun sp h => ?_) (fun sp h => ?_) (by simp) hb ?_⟩
  · rw [hsp, hres]; exact trodAll_mk1 (shut_bool Tryz.underlying4 _)
  · rw [hsp]; exact trodAll_below Tryz.laidOut hb _ _ _ _ hread hA hlt h
  · rw [hsp, hs]; rfl
  · rw [hres]; exact fun j t r h1 h2 => ok_one (f := fn) hres rfl (okWide_bool_mk Tryz.underlying4 _) j t r (by rw [hres]; exact h1) (by rw [hres]; exact h2)

/-- A variable of the library's own holds some number. -/
theorem maxLen_cell {w : World} (h : w.ShapedOpen Tryz.prog) : ∃ m, w.cell? ⟨1, 0, none⟩ = some (.int .i64 m) :=
  Go.Proofs.cell_of_shapedOpen_int (zero := #[.int .i64 0]) (t := 3) h (of_decide_eq_true (by kernel_rfl)) (by kernel_rfl) rfl (by kernel_rfl) (by kernel_rfl) Tryz.underlying3
theorem cell_below {w w' : World} {a : Addr} {v : Value} (h : Below w.heap.size w w') (c : w.cell? a = some v) : w'.cell? a = some v := (h.cell (block_lt_of_cell c)).trans c
end Go.Proofs.YtmhefhapighloaaGreatDoor
