/- The check value of a text: plain laws; the program's Crc16, the reference's l01Crc. Written by wip/gen/cc.py. -/
import Derived.Test.YtaaholabodchaaaGreatDoorNm
import Derived.Laws.Entries
namespace Go.Proofs.YtaaholabodchaaaGreatDoor
open Go.RowKit
set_option linter.unusedVariables false

def crcBit (x : Nat) : Nat := if 65535 < 2 * x then (2 * x &&& 65535) ^^^ 4129 else 2 * x
theorem crcBit_lt {x : Nat} (h : x < 65536) : crcBit x < 65536 := by
  unfold crcBit
  split
  · have h1 : 2 * x &&& 65535 < 2 ^ 16 := Nat.lt_of_le_of_lt Nat.and_le_right (by decide)
    exact Nat.xor_lt_two_pow (n := 16) h1 (by decide)
  · omega
def crcIt : Nat → Nat → Nat
  | 0, x => x
  | k + 1, x => crcBit (crcIt k x)
theorem crcIt_lt {x : Nat} (h : x < 65536) : ∀ k, crcIt k x < 65536
  | 0 => h
  | k + 1 => crcBit_lt (crcIt_lt h k)
def crcIn (x : Nat) (b : UInt8) : Nat := x ^^^ (b.toNat * 256)
theorem crcIt_succ (k x : Nat) : crcIt (k + 1) x = crcBit (crcIt k x) := rfl
theorem crcIt_zero (x : Nat) : crcIt 0 x = x := rfl
theorem crcIn_lt {x : Nat} (h : x < 65536) (b : UInt8) : crcIn x b < 65536 := by
  have := b.toNat_lt
  exact Nat.xor_lt_two_pow (n := 16) h (by omega)
def crcL (l : List UInt8) (x : Nat) : Nat := l.foldl (fun x b => crcIt 8 (crcIn x b)) x
theorem crcL_lt : ∀ (l : List UInt8) {x : Nat}, x < 65536 → crcL l x < 65536
  | [], _, h => h
  | b :: l, x, h => by
    have h1 := crcIt_lt (crcIn_lt h b) 8
    unfold crcL
    rw [List.foldl_cons]
    generalize crcIt 8 (crcIn x b) = y at *
    exact crcL_lt l h1
theorem crcL_step {s : ByteArray} {k : Nat} (h : k < s.size) (x : Nat) : crcL (s.data.toList.take (k + 1)) x = crcIt 8 (crcIn (crcL (s.data.toList.take k) x) s[k]) := by
  rw [List.take_succ_eq_append_getElem (by simpa using h)]
  unfold crcL
  rw [List.foldl_append, List.foldl_cons, List.foldl_nil]
  rw [show s.data.toList[k]'(by simpa using h) = s[k] from rfl]
def crcF (s : ByteArray) : Nat := crcL s.data.toList 65535
theorem crcF_lt (s : ByteArray) : crcF s < 65536 := by
  unfold crcF
  exact crcL_lt (x := 65535) s.data.toList (by omega)
theorem xor_i64 (a b : Nat) (ha : a < 1048576) (hb : b < 1048576) : bits .xor .i64 (a : Int) (b : Int) = ((a ^^^ b : Nat) : Int) := by
  have hx : a ^^^ b < 2 ^ 20 := Nat.xor_lt_two_pow (by omega) (by omega)
  have h1 : (BitVec.ofInt 64 (a : Int)).toNat = a := by
    rw [BitVec.ofInt_natCast, BitVec.toNat_ofNat]; exact Nat.mod_eq_of_lt (by omega)
  have h2 : (BitVec.ofInt 64 (b : Int)).toNat = b := by
    rw [BitVec.ofInt_natCast, BitVec.toNat_ofNat]; exact Nat.mod_eq_of_lt (by omega)
  show IntKind.i64.wrap ((BitVec.ofInt 64 (a : Int) ^^^ BitVec.ofInt 64 (b : Int)).toNat : Int) = _
  rw [BitVec.toNat_xor, h1, h2]
  simp [IntKind.wrap, IntKind.bits, IntKind.signed]
  omega
theorem and_i64 (a b : Nat) (ha : a < 1048576) (hb : b < 1048576) : bits .and .i64 (a : Int) (b : Int) = ((a &&& b : Nat) : Int) := by
  have hx : a &&& b ≤ b := Nat.and_le_right
  have h1 : (BitVec.ofInt 64 (a : Int)).toNat = a := by
    rw [BitVec.ofInt_natCast, BitVec.toNat_ofNat]; exact Nat.mod_eq_of_lt (by omega)
  have h2 : (BitVec.ofInt 64 (b : Int)).toNat = b := by
    rw [BitVec.ofInt_natCast, BitVec.toNat_ofNat]; exact Nat.mod_eq_of_lt (by omega)
  show IntKind.i64.wrap ((BitVec.ofInt 64 (a : Int) &&& BitVec.ofInt 64 (b : Int)).toNat : Int) = _
  rw [BitVec.toNat_and, h1, h2]
  simp [IntKind.wrap, IntKind.bits, IntKind.signed]
  omega
theorem w64_in (n : Int) (h : -9223372036854775808 ≤ n ∧ n ≤ 9223372036854775807) : wrap64 n = n := by unfold wrap64; omega
theorem crcBit_hi {x : Nat} (h : x < 65536) (h1 : 65535 < 2 * x) : bits .xor .i64 (bits .and .i64 ((2 * x : Nat) : Int) 65535) 4129 = (crcBit x : Int) := by
  rw [show (65535 : Int) = ((65535 : Nat) : Int) from rfl, show (4129 : Int) = ((4129 : Nat) : Int) from rfl, and_i64 _ _ (by omega) (by decide)]
  have h2 : 2 * x &&& 65535 ≤ 65535 := Nat.and_le_right
  rw [xor_i64 _ _ (by omega) (by decide)]
  unfold crcBit
  rw [if_pos h1]
attribute [local irreducible] crcIt crcBit crcIn crcL
set_option maxRecDepth 100000 in
set_option maxHeartbeats 2000000 in
theorem l01Crc_any (s : ByteArray) (w : World) (hs : s.size ≤ 1048576) :
    Calls Tryz.prog 42 #[.string s, .int .i64 65535] w fun e w' => e = .returned (.int .i64 (crcF s : Int)) ∧ w = w' := by
  have hin : crcL (s.data.toList.take 0) 65535 = 65535 := by unfold crcL; rfl
  have HI := Lib.hid hin
  clear hin
  go_enter Tryz.func42, Tryz.ntmps42
  go_wp2
  go_loop [1, 5] (fun c i => ∃ k : Nat, k ≤ s.size ∧ i = .int .i64 k ∧ ∃ q : Nat, c = .int .i64 q ∧ q < 65536 ∧ Hid (q = crcL (s.data.toList.take k) 65535)) (fun _ i => s.size - (intOf i).toNat)
  case atStart => exact ⟨0, Nat.zero_le _, rfl, 65535, rfl, by decide, by show _ = _; exact HI.out.symm⟩
  case round =>
    obtain ⟨k, hk, rfl, q, rfl, hq, HQ⟩ := hrel
    by_cases hlt : k < s.size
    · have hx1 : bits .xor .i64 (q : Int) ((s[k].toNat : Int) * 256) = (crcIn q s[k] : Int) := by
        have h := s[k].toNat_lt
        rw [show ((s[k].toNat : Int) * 256) = ((s[k].toNat * 256 : Nat) : Int) from by push_cast; rfl, xor_i64 _ _ (by omega) (by omega)]; unfold crcIn; rfl
      have hq1 := crcIn_lt hq s[k]
      have HX := Lib.hid hx1
      have HQ2 : Hid (crcIt 8 (crcIn q s[k]) = crcL (s.data.toList.take (k + 1)) 65535) := by show _ = _; rw [crcL_step hlt, ← HQ.out]
      have HX3 : Hid (bits .xor .i64 (q : Int) (wrap64 (wrap64 (s[k].toNat : Int) * 256)) = (crcIn q s[k] : Int)) := by
        have h := s[k].toNat_lt
        show _ = _
        rw [w64_in (s[k].toNat : Int) (by omega), w64_in _ (by omega)]; exact HX.out
      clear hx1 hq
      go_wp2
      go_loop [1, 6] (fun c j => ∃ m : Nat, m ≤ 8 ∧ j = .int .i64 m ∧ ∃ x : Nat, c = .int .i64 x ∧ x < 65536 ∧ Hid (x = crcIt m (crcIn q s[k]))) (fun _ j => 8 - (intOf j).toNat)
      case atStart => exact ⟨0, Nat.zero_le _, rfl, crcIn q s[k], by rw [← HX3.out], hq1, by show _ = _; rw [crcIt_zero]⟩
      case round =>
        obtain ⟨m, hm, rfl, x, rfl, hx, HM⟩ := hrel
        by_cases hml : m < 8
        · have HM2 : Hid (crcBit x = crcIt (m + 1) (crcIn q s[k])) := by show _ = _; rw [HM.out, crcIt_succ]
          have hx2 := crcBit_lt hx
          by_cases hb : 65535 < 2 * x
          · have HV := Lib.hid (crcBit_hi hx hb)
            go_wp2
            go_round
            case measure => simp [intOf]; omega
            case rel => exact ⟨m + 1, by omega, by go_num, crcBit x, congrArg (Value.int .i64) (by have h := HV.out; rw [show ((2 * x : Nat) : Int) = (x : Int) * 2 by omega] at h; exact h), hx2, HM2⟩
          · have HV : Hid ((2 * x : Nat) = crcBit x) := by show _ = _; unfold crcBit; rw [if_neg hb]
            go_wp2
            go_round
            case measure => simp [intOf]; omega
            case rel => exact ⟨m + 1, by omega, by go_num, crcBit x, congrArg (Value.int .i64) (by have h := HV.out; omega), hx2, HM2⟩
        · have hme : m = 8 := by omega
          subst hme
          have HQ3 : Hid (x = crcL (s.data.toList.take (k + 1)) 65535) := by show _ = _; rw [HM.out, HQ2.out]
          go_wp2
          go_round
          case measure => simp [intOf]; omega
          case rel => exact ⟨k + 1, by omega, by go_num, x, rfl, hx, HQ3⟩
    · have hke : k = s.size := by omega
      subst hke
      have hfin : q = crcF s := by rw [HQ.out, List.take_of_length_le (by simp)]; rfl
      have HF := Lib.hid hfin
      clear hfin
      go_wp2
      go_ret
      exact ⟨by rw [← HF.out]; rfl, rfl⟩
set_option maxRecDepth 100000 in
set_option maxHeartbeats 2000000 in
theorem implCrc16_any (s : ByteArray) (w : World) (hs : s.size ≤ 1048576) :
    Calls Tryz.prog 71 #[.string s, .int .i64 65535] w fun e w' => e = .returned (.int .i64 (crcF s : Int)) ∧ w = w' := by
  have hin : crcL (s.data.toList.take 0) 65535 = 65535 := by unfold crcL; rfl
  have HI := Lib.hid hin
  clear hin
  go_enter Tryz.func71, Tryz.ntmps71
  go_wp2_with (go_at_call 26; refine (withinB_any _ _ _ _).mono ?_; rintro e w' ⟨rfl, rfl⟩)
  go_loop [5, 13] (fun c i => ∃ k : Nat, k ≤ s.size ∧ i = .int .i64 k ∧ ∃ q : Nat, c = .int .i64 q ∧ q < 65536 ∧ Hid (q = crcL (s.data.toList.take k) 65535)) (fun _ i => s.size - (intOf i).toNat)
  case atStart => exact ⟨0, Nat.zero_le _, rfl, 65535, rfl, by decide, by show _ = _; exact HI.out.symm⟩
  case round =>
    obtain ⟨k, hk, rfl, q, rfl, hq, HQ⟩ := hrel
    by_cases hlt : k < s.size
    · have hx1 : bits .xor .i64 (q : Int) ((s[k].toNat : Int) * 256) = (crcIn q s[k] : Int) := by
        have h := s[k].toNat_lt
        rw [show ((s[k].toNat : Int) * 256) = ((s[k].toNat * 256 : Nat) : Int) from by push_cast; rfl, xor_i64 _ _ (by omega) (by omega)]; unfold crcIn; rfl
      have hq1 := crcIn_lt hq s[k]
      have HX := Lib.hid hx1
      have HQ2 : Hid (crcIt 8 (crcIn q s[k]) = crcL (s.data.toList.take (k + 1)) 65535) := by show _ = _; rw [crcL_step hlt, ← HQ.out]
      have HX3 : Hid (bits .xor .i64 (q : Int) (wrap64 (wrap64 (s[k].toNat : Int) * 256)) = (crcIn q s[k] : Int)) := by
        have h := s[k].toNat_lt
        show _ = _
        rw [w64_in (s[k].toNat : Int) (by omega), w64_in _ (by omega)]; exact HX.out
      clear hx1 hq
      go_wp2
      go_loop [5, 23] (fun c j => ∃ m : Nat, m ≤ 8 ∧ j = .int .i64 m ∧ ∃ x : Nat, c = .int .i64 x ∧ x < 65536 ∧ Hid (x = crcIt m (crcIn q s[k]))) (fun _ j => 8 - (intOf j).toNat)
      case atStart => exact ⟨0, Nat.zero_le _, rfl, crcIn q s[k], by rw [← HX3.out], hq1, by show _ = _; rw [crcIt_zero]⟩
      case round =>
        obtain ⟨m, hm, rfl, x, rfl, hx, HM⟩ := hrel
        by_cases hml : m < 8
        · have HM2 : Hid (crcBit x = crcIt (m + 1) (crcIn q s[k])) := by show _ = _; rw [HM.out, crcIt_succ]
          have hx2 := crcBit_lt hx
          by_cases hb : 65535 < 2 * x
          · have HV := Lib.hid (crcBit_hi hx hb)
            go_wp2
            go_round
            case measure => simp [intOf]; omega
            case rel => exact ⟨m + 1, by omega, by go_num, crcBit x, congrArg (Value.int .i64) (by have h := HV.out; rw [show ((2 * x : Nat) : Int) = (x : Int) * 2 by omega] at h; exact h), hx2, HM2⟩
          · have HV : Hid ((2 * x : Nat) = crcBit x) := by show _ = _; unfold crcBit; rw [if_neg hb]
            go_wp2
            go_round
            case measure => simp [intOf]; omega
            case rel => exact ⟨m + 1, by omega, by go_num, crcBit x, congrArg (Value.int .i64) (by have h := HV.out; omega), hx2, HM2⟩
        · have hme : m = 8 := by omega
          subst hme
          have HQ3 : Hid (x = crcL (s.data.toList.take (k + 1)) 65535) := by show _ = _; rw [HM.out, HQ2.out]
          go_wp2
          go_round
          case measure => simp [intOf]; omega
          case rel => exact ⟨.int .i64 x, .int .i64 k, .int .i64 ((k + 1 : Nat) : Int), ⟨k + 1, by omega, rfl, x, rfl, hx, HQ3⟩, rfl, rfl, by go_num⟩
    · have hke : k = s.size := by omega
      subst hke
      have hfin : q = crcF s := by rw [HQ.out, List.take_of_length_le (by simp)]; rfl
      have HF := Lib.hid hfin
      clear hfin
      go_wp2
      go_ret
      exact ⟨by rw [← HF.out]; rfl, rfl⟩

end Go.Proofs.YtaaholabodchaaaGreatDoor
