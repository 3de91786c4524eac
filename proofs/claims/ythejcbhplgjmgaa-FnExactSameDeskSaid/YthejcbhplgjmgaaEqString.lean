/- slices.Equal at String. Written by wip/gen/eqs.py. -/
import Derived.Test.YthejcbhplgjmgaaTString
import Derived.Test.YthejcbhplgjmgaaLe
namespace Go.Proofs.Ythejcbhplgjmgaa
open Go.RowKit
set_option linter.unusedVariables false

set_option maxRecDepth 100000 in
set_option maxHeartbeats 4000000 in
theorem sEqualString_any (v v' : Value) (xs ys : List ByteArray) (fp fp' : List Nat) (w : World) (hx : Sl fStr.cod w v xs fp) (hy : Sl fStr.cod w v' ys fp') :
    Calls Try.prog 197 #[v, v'] w fun e w' => e = .returned (.bool (decide (xs = ys))) ∧ Below w.heap.size w w' := by
  obtain ⟨A, cap, rfl, hlen, hcap⟩ := hx.form
  obtain ⟨A', cap', rfl, hlen', hcap'⟩ := hy.form
  by_cases hl : xs.length = ys.length
  · have HL := Lib.hid hl
    generalize hn : ys.length = n at *
    subst hl
    have HN := Lib.hid hn
    clear hn
    go_enter Try.func197, Try.ntmps197
    go_wp2
    go_loopw [13] (fun i wr => ∃ k : Nat, k ≤ xs.length ∧ i = .int .i64 k ∧ Hid (xs.take k = ys.take k) ∧ ∃ n, wr = w.drewN n) (fun i _ => xs.length - (intOf i).toNat)
    case atStart => exact ⟨0, Nat.zero_le _, rfl, rfl, 0, rfl⟩
    case round =>
      obtain ⟨k, hk, rfl, HE, n, rfl⟩ := hrel
      by_cases hlt : k < xs.length
      · have hky : k < ys.length := by have := HN.out; omega
        obtain ⟨b, off, rfl, _, hok, hc, _⟩ := hx.at_ hlt
        obtain ⟨b', off', rfl, _, hok', hd, _⟩ := hy.at_ hky
        have hc0 : w.cell? ⟨b, off + k, none⟩ = some (.string xs[k]) := by have := hc 0 (by decide); rw [show off + k * fStr.n + 0 = off + k from by show off + k * 1 + 0 = _; omega] at this; exact this
        have hd0 : w.cell? ⟨b', off' + k, none⟩ = some (.string ys[k]) := by have := hd 0 (by decide); rw [show off' + k * fStr.n + 0 = off' + k from by show off' + k * 1 + 0 = _; omega] at this; exact this
        clear hc hd hok hok'
        by_cases he : xs[k] = ys[k]
        · rw [← he] at hd0
          have HS := Lib.hid (listEq_step hlt hky HE.out he)
          clear he
          go_wp2
          go_quiet (fail)
          go_wp2
          go_roundw
          case rel => exact ⟨k + 1, by omega, by go_num, HS, _, rfl⟩
          case measure => simp [intOf]; omega
        · have HB := Lib.hid (listEq_bad hlt hky he)
          generalize xs[k] = x at *
          generalize ys[k] = y at *
          have f0 := bytes_beq_false he
          clear he
          go_wp2
          go_quiet (fail)
          go_wp2
          go_ret
          exact ⟨ret_bool (decide_eq_false HB.out).symm, (by repeat (first | exact Below.refl _ _ | assumption | refine Below.alloc ?_ (by first | omega | (simp <;> omega)) _ | refine Below.setCell ?_ (by first | (show _ ≤ _; omega) | (simp <;> omega)) _ | refine Below.drew ?_ | refine below_drewN ?_ _))⟩
      · have he : xs = ys := listEq_full (by omega) (by have := HN.out; omega) HE.out
        have HD := Lib.hid he
        clear he
        go_wp2
        go_ret
        exact ⟨ret_bool (decide_eq_true HD.out).symm, below_drewN (Below.refl _ _) _⟩
  · have HB : Hid (¬ xs = ys) := fun h => hl (by rw [h])
    have h2 : (((xs.length : Nat) : Int) == ((ys.length : Nat) : Int)) = false := by rw [beq_eq_false_iff_ne]; omega
    go_enter Try.func197, Try.ntmps197
    go_wp2
    go_ret
    exact ⟨ret_bool (decide_eq_false HB.out).symm, Below.refl _ _⟩
end Go.Proofs.Ythejcbhplgjmgaa
