
/- String: the data, its cells; the given helpers over it. Written by wip/gentype.py. -/
import Derived.Test.YtpebibegdeioeaaMark
namespace Go.Proofs.Ytpebibegdeioeaa
open Go.RowKit
set_option linter.unusedVariables false

def totString (x : ByteArray) : Nat := x.size
def totStringS (xs : List ByteArray) : Nat := xs.length + (xs.map totString).sum

set_option maxRecDepth 100000 in
set_option maxHeartbeats 1000000 in
theorem szStringS_any (v : Value) (xs : List ByteArray) (fp : List Nat) (left : Int) (w : World) (hx : Sl fStr.cod w v xs fp) (h0 : 0 ≤ left) (h1 : left ≤ 1048576) :
    Calls Try.prog 14 #[v, .int .i64 left] w fun e w' => SzR left (totStringS xs) w e w' := by
  obtain ⟨A, cap, rfl, hlen, hcap⟩ := hx.form
  by_cases hl : left - (xs.length : Int) < 0
  · go_enter Try.func14, Try.ntmps14
    go_wp2
    go_ret
    exact .no (Below.refl _ _)
  · go_enter Try.func14, Try.ntmps14
    go_wp2
    go_loopw [1, 5] (fun l i wr => ∃ k : Nat, k ≤ xs.length ∧ i = .int .i64 k ∧ Below w.heap.size w wr ∧ ∃ r : Int, l = .int .i64 r ∧ 0 ≤ r ∧ r + (xs.length + ((xs.take k).map totString).sum : Nat) = left) (fun _ i _ => xs.length - (intOf i).toNat)
    case atStart => exact ⟨0, Nat.zero_le _, rfl, Below.refl _ _, _, rfl, by omega, by simp⟩
    case round =>
      obtain ⟨k, hk, rfl, hb, r, rfl, hr0, hr⟩ := hrel
      have HR := Lib.hid hr
      clear hr
      have hr1 : r ≤ 1048576 := by have := HR.out; omega
      by_cases hlt : k < xs.length
      · obtain ⟨b, off, rfl, _, hok, hc, _⟩ := (hx.below' hb).at_ hlt
        have hc0 : wr.cell? ⟨b, off + k, none⟩ = some (.string xs[k]) := by have := hc 0 (by decide); rw [show off + k * fStr.n + 0 = off + k from by show off + k * 1 + 0 = _; omega] at this; exact this
        clear hc
        have hsz0 : xs[k].size ≤ 9223372036854775807 := hok
        by_cases hneg : r - (xs[k].size : Int) < 0
        · go_wp2
          go_ret
          exact .no hb
        · go_wp2
          go_roundw
          case rel => exact ⟨k + 1, by omega, by go_num, hb, _, rfl, by omega, by have := HR.out; have hst := sum_take_step_ totString xs k hlt; unfold totString at hst this ⊢; omega⟩
          case measure => simp [intOf]; omega
      · go_wp2
        go_ret
        exact .yes hr0 (by have := HR.out; rw [List.take_of_length_le (by omega)] at this; exact this) hb

theorem infoString : (Try.prog.info? 9).map (fun i => (i.zero, i.size, i.bytes)) = some (some (.string ⟨#[]⟩), 1, 16) := by kernel_rfl
set_option maxRecDepth 100000 in
set_option maxHeartbeats 1000000 in
theorem toStringS_any (v : Value) (xs : List ByteArray) (fp : List Nat) (w : World) (hx : Sl fStr.cod w v xs fp) (h1 : xs.length ≤ 1048576) :
    Calls Try.prog 21 #[v] w fun e w' => NewR fStr.cod w xs e w' := by
  obtain ⟨A, cap, rfl, hlen, hcap⟩ := hx.form
  obtain ⟨i0, hi, hz0, hz1, hz2⟩ := info_parts infoString
  have hmk := fun W => run_make_rowN (P := Try.prog) 28 9 i0 _ Try.underlying28 hi hz0 .i64 .i64 xs.length xs.length (Nat.le_refl _) (by rw [hz2]; omega) (by omega) W
  rw [hz1] at hmk
  go_enter Try.func21, Try.ntmps21
  go_wp2
  go_loopw [4] (fun i wr => ∃ k : Nat, k ≤ xs.length ∧ i = .int .i64 k ∧ Fill wr w.heap.size w.heap.size 9 1 xs.length ((xs.take k).flatMap fStr.enc) ∧ Below w.heap.size w wr) (fun i _ => xs.length - (intOf i).toNat)
  case atStart => exact ⟨0, Nat.zero_le _, rfl, Fill.start1 w _ _ _ (by omega), (Below.refl _ _).alloc (Nat.le_refl _) _⟩
  case round =>
    obtain ⟨k, hk, rfl, hf, hb⟩ := hrel
    by_cases hlt : k < xs.length
    · obtain ⟨b, off, rfl, _, hok, hc, _⟩ := (hx.below' hb).at_ hlt
      have hc0 : wr.cell? ⟨b, off + k, none⟩ = some (.string xs[k]) := by have := hc 0 (by decide); rw [show off + k * fStr.n + 0 = off + k from by show off + k * 1 + 0 = _; omega] at this; exact this
      clear hc
      obtain ⟨u, hu⟩ := hf.cell (j := k) (by omega)
      have hfz := hf.frozen k
      go_wp2
      go_roundw
      case rel => exact ⟨k + 1, by omega, by go_num, fill_step rfl hf hlt rfl, hb.setCell (Nat.le_refl _) _⟩
      case measure => simp [intOf]; omega
    · have hk' : k = xs.length := by omega
      subst hk'
      rw [List.take_length] at hf
      go_wp2
      go_ret
      exact ⟨_, rfl, Sl.of_own rfl (hf.done (flat_len _ 1 _ (fun _ _ => rfl))) hx.oks, hb⟩

set_option maxRecDepth 100000 in
set_option maxHeartbeats 400000 in
theorem eqStringS_any (v v' : Value) (xs : List ByteArray) (fp fp' : List Nat) (w : World) (hx : Sl fStr.cod w v xs fp) (hy : Sl fStr.cod w v' xs fp') :
    Calls Try.prog 33 #[v, v'] w fun e w' => YesR w e w' := by
  obtain ⟨A, cap, rfl, hlen, hcap⟩ := hx.form
  obtain ⟨A', cap', rfl, hlen', hcap'⟩ := hy.form
  go_enter Try.func33, Try.ntmps33
  go_wp2
  go_loopw [5] (fun i wr => ∃ k : Nat, k ≤ xs.length ∧ i = .int .i64 k ∧ ∃ n, wr = w.drewN n) (fun i _ => xs.length - (intOf i).toNat)
  case atStart => exact ⟨0, Nat.zero_le _, rfl, 0, rfl⟩
  case round =>
    obtain ⟨k, hk, rfl, n, rfl⟩ := hrel
    by_cases hlt : k < xs.length
    · obtain ⟨b, off, rfl, _, hok, hc, _⟩ := hx.cell1 rfl hlt rfl
      obtain ⟨b', off', rfl, _, hok', hc', _⟩ := hy.cell1 rfl hlt rfl
      go_wp2
      go_quiet (fail)
      go_wp2
      go_roundw
      case rel => exact ⟨k + 1, by omega, by go_num, _, rfl⟩
      case measure => simp [intOf]; omega
    · go_wp2
      go_ret
      exact ⟨rfl, below_drewN (Below.refl _ _) _⟩

def mkString (k : Int) : ByteArray := mt (k)
def marksString (k : Int) (n : Nat) : List ByteArray := (List.range n).map fun (i : Nat) => mkString (k + 1 * (i : Int))

theorem marksString_get (k0 : Int) (n i : Nat) (h : i < (marksString k0 n).length) : (marksString k0 n)[i] = mkString (k0 + 1 * (i : Int)) := by
  simp [marksString]
theorem marksString_len (k0 : Int) (n : Nat) : (marksString k0 n).length = n := by simp [marksString]



end Go.Proofs.Ytpebibegdeioeaa
