
/- Contracts of the functions that look at one line of a report, each for every argument. -/
import Derived.Test.YtibihiejpieadaaBase
namespace Go.Proofs.Ytibihiejpieadaa
open Go.RowKit


def okByte (lo hi : Int) (c : UInt8) : Bool := decide (lo ≤ (c.toNat : Int)) && decide ((c.toNat : Int) ≤ hi)
def bwAll (l : List UInt8) (lo hi : Int) : Bool := l.all (okByte lo hi)
theorem take_snoc (s : ByteArray) (k : Nat) (h : k < s.size) : s.data.toList.take (k + 1) = s.data.toList.take k ++ [s[k]] := by
  rw [List.take_succ_eq_append_getElem (by simpa using h)]; rfl
theorem bwAll_step {s : ByteArray} {k : Nat} {lo hi : Int} (h : k < s.size) (h0 : bwAll (s.data.toList.take k) lo hi = true) (h1 : lo ≤ (s[k].toNat : Int)) (h2 : (s[k].toNat : Int) ≤ hi) : bwAll (s.data.toList.take (k + 1)) lo hi = true := by
  rw [take_snoc s k h]; unfold bwAll at *; rw [List.all_append, h0]; simp [okByte, h1, h2]
theorem bwAll_bad {s : ByteArray} {k : Nat} {lo hi : Int} (h : k < s.size) (h1 : (s[k].toNat : Int) < lo ∨ hi < (s[k].toNat : Int)) : bwAll s.data.toList lo hi = false := by
  unfold bwAll
  rw [List.all_eq_false]
  refine ⟨s[k], ?_, ?_⟩
  · exact Array.mem_toList_iff.2 (Array.getElem_mem _)
  · simp [okByte]; omega
theorem bwAll_full {s : ByteArray} {k : Nat} {lo hi : Int} (h : s.size ≤ k) (h0 : bwAll (s.data.toList.take k) lo hi = true) : bwAll s.data.toList lo hi = true := by
  rwa [List.take_of_length_le (by simpa using h)] at h0

set_option maxHeartbeats 400000 in
theorem bytesWithin_any (s : ByteArray) (lo hi : Int) (w : World) (hs : s.size ≤ 9223372036854775807) :
    Calls Try.prog 72 #[.string s, .int .u8 lo, .int .u8 hi] w fun e w' => e = .returned (.bool (bwAll s.data.toList lo hi)) ∧ w = w' := by
  go_enter Try.func72, Try.ntmps72
  go_wp2
  go_loop [10] (fun i => ∃ k : Nat, k ≤ s.size ∧ i = .int .i64 k ∧ bwAll (s.data.toList.take k) lo hi = true) (fun i => s.size - (intOf i).toNat)
  case atStart => exact ⟨0, Nat.zero_le _, rfl, rfl⟩
  case round =>
    obtain ⟨k, hk, rfl, h0⟩ := hrel
    have H0 := Lib.hid h0
    clear h0
    by_cases hlt : k < s.size
    · go_wp2
      all_goals first
        | (go_ret; exact ⟨ret_bool (bwAll_bad hlt (by omega)).symm, rfl⟩)
        | (go_round
           case rel => exact ⟨k + 1, by omega, by go_num, bwAll_step hlt H0.out (by omega) (by omega)⟩
           case measure => simp [intOf]; omega)
    · go_wp2
      go_ret
      exact ⟨ret_bool (bwAll_full (by omega) H0.out).symm, rfl⟩

def lineB (s : ByteArray) : Bool := bwAll s.data.toList 32 126 && decide (s.size ≤ 100)

set_option maxHeartbeats 400000 in
theorem lineValid_any (s : ByteArray) (w : World) (hs : s.size ≤ 9223372036854775807) :
    Calls Try.prog 39 #[.string s] w fun e w' => e = .returned (.bool (lineB s)) ∧ w = w' := by
  unfold lineB
  by_cases h : s.size ≤ 100
  all_goals
    go_enter Try.func39, Try.ntmps39
    go_wp2_with (go_at_call 72; refine (bytesWithin_any _ _ _ _ hs).mono ?_; rintro e w' ⟨rfl, rfl⟩)
    go_ret
    exact ⟨ret_bool (by simp [h]), rfl⟩

def linesB (l : List ByteArray) : Bool := l.all lineB && decide (l.length ≤ 200)
theorem linesAll_step {l : List ByteArray} {k : Nat} (h : k < l.length) (h0 : (l.take k).all lineB = true) (h1 : lineB l[k] = true) : (l.take (k + 1)).all lineB = true := by
  rw [List.take_succ_eq_append_getElem h, List.all_append, h0]; simp [h1]
theorem linesAll_bad {l : List ByteArray} {k : Nat} (h : k < l.length) (h1 : lineB l[k] = false) : l.all lineB = false := by
  rw [List.all_eq_false]; exact ⟨l[k], List.getElem_mem h, by simp [h1]⟩
theorem linesAll_full {l : List ByteArray} {k : Nat} (h : l.length ≤ k) (h0 : (l.take k).all lineB = true) : l.all lineB = true := by
  rwa [List.take_of_length_le h] at h0

set_option maxRecDepth 100000 in
set_option maxHeartbeats 400000 in
theorem implValidReport_any (v : Value) (xs : List ByteArray) (fp : List Nat) (w : World) (hx : Sl fStr.cod w v xs fp) :
    Calls Try.prog 37 #[v] w fun e w' => e = .returned (.bool (linesB xs)) ∧ w = w' := by
  unfold linesB
  obtain ⟨A, cap, rfl, hlen, hcap⟩ := hx.form
  by_cases hl : xs.length ≤ 200
  · go_enter Try.func37, Try.ntmps37
    go_wp2
    go_loop [10] (fun i => ∃ k : Nat, k ≤ xs.length ∧ i = .int .i64 k ∧ (xs.take k).all lineB = true) (fun i => xs.length - (intOf i).toNat)
    case atStart => exact ⟨0, Nat.zero_le _, rfl, rfl⟩
    case round =>
      obtain ⟨k, hk, rfl, h0⟩ := hrel
      have H0 := Lib.hid h0
      clear h0
      by_cases hlt : k < xs.length
      · obtain ⟨b, off, rfl, _, hok, hc, _⟩ := hx.cell1 rfl hlt rfl
        by_cases hb : lineB xs[k] = true
        · go_wp2_with (go_at_call 39; refine (lineValid_any _ _ hok).mono ?_; rintro e w' ⟨rfl, rfl⟩)
          go_round
          case rel => exact ⟨k + 1, by omega, by go_num, linesAll_step hlt H0.out hb⟩
          case measure => simp [intOf]; omega
        · have hb' : lineB xs[k] = false := by simpa using hb
          go_wp2_with (go_at_call 39; refine (lineValid_any _ _ hok).mono ?_; rintro e w' ⟨rfl, rfl⟩)
          go_ret
          exact ⟨ret_bool (by rw [linesAll_bad hlt hb']; rfl), rfl⟩
      · go_wp2
        go_ret
        exact ⟨ret_bool (by rw [linesAll_full (by omega) H0.out] <;> simp [hl]), rfl⟩
  · go_enter Try.func37, Try.ntmps37
    go_wp2
    go_ret
    exact ⟨ret_bool (by simp <;> omega), rfl⟩

end Go.Proofs.Ytibihiejpieadaa
