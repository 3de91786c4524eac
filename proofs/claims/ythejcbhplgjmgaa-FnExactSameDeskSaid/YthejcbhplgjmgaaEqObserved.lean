/- slices.Equal at Observed. Written by wip/gen/eqs.py. -/
import Derived.Test.YthejcbhplgjmgaaTObserved
import Derived.Test.YthejcbhplgjmgaaLe
namespace Go.Proofs.Ythejcbhplgjmgaa
open Go.RowKit
set_option linter.unusedVariables false

set_option maxRecDepth 100000 in
set_option maxHeartbeats 4000000 in
theorem sEqualObserved_any (v v' : Value) (xs ys : List DObserved) (fp fp' : List Nat) (w : World) (hx : Sl fObserved.cod w v xs fp) (hy : Sl fObserved.cod w v' ys fp') :
    Calls Try.prog 73 #[v, v'] w fun e w' => e = .returned (.bool (decide (xs = ys))) ∧ Below w.heap.size w w' := by
  obtain ⟨A, cap, rfl, hlen, hcap⟩ := hx.form
  obtain ⟨A', cap', rfl, hlen', hcap'⟩ := hy.form
  by_cases hl : xs.length = ys.length
  · have HL := Lib.hid hl
    generalize hn : ys.length = n at *
    subst hl
    have HN := Lib.hid hn
    clear hn
    go_enter Try.func73, Try.ntmps73
    go_wp2
    go_loopw [13] (fun i wr => ∃ k : Nat, k ≤ xs.length ∧ i = .int .i64 k ∧ Hid (xs.take k = ys.take k) ∧ ∃ n, wr = w.drewN n) (fun i _ => xs.length - (intOf i).toNat)
    case atStart => exact ⟨0, Nat.zero_le _, rfl, rfl, 0, rfl⟩
    case round =>
      obtain ⟨k, hk, rfl, HE, n, rfl⟩ := hrel
      by_cases hlt : k < xs.length
      · have hky : k < ys.length := by have := HN.out; omega
        obtain ⟨b, off, rfl, _, hok, hc, _⟩ := hx.at_ hlt
        obtain ⟨b', off', rfl, _, hok', hd, _⟩ := hy.at_ hky
        have hc0 : w.cell? ⟨b, off + k * 4, none⟩ = some (.int .i64 xs[k].hour) := hc 0 (by decide)
        have hd0 : w.cell? ⟨b', off' + k * 4, none⟩ = some (.int .i64 ys[k].hour) := hd 0 (by decide)
        have hc1 : w.cell? ⟨b, off + k * 4 + 1, none⟩ = some (.int .i64 xs[k].snow) := hc 1 (by decide)
        have hd1 : w.cell? ⟨b', off' + k * 4 + 1, none⟩ = some (.int .i64 ys[k].snow) := hd 1 (by decide)
        have hc2 : w.cell? ⟨b, off + k * 4 + 2, none⟩ = some (.int .i64 xs[k].degrees) := hc 2 (by decide)
        have hd2 : w.cell? ⟨b', off' + k * 4 + 2, none⟩ = some (.int .i64 ys[k].degrees) := hd 2 (by decide)
        have hc3 : w.cell? ⟨b, off + k * 4 + 3, none⟩ = some (.int .i64 xs[k].wind) := hc 3 (by decide)
        have hd3 : w.cell? ⟨b', off' + k * 4 + 3, none⟩ = some (.int .i64 ys[k].wind) := hd 3 (by decide)
        clear hc hd hok hok'
        by_cases he : xs[k] = ys[k]
        · rw [← he] at hd0 hd1 hd2 hd3
          have HS := Lib.hid (listEq_step hlt hky HE.out he)
          clear he
          go_wp2
          go_quiet (fail)
          go_wp2
          go_roundw
          case rel => exact ⟨k + 1, by omega, by go_num, HS, _, rfl⟩
          case measure => simp [intOf]; omega
        · have HB := Lib.hid (listEq_bad hlt hky he)
          generalize xs[k] = x at *
          generalize ys[k] = y at *
          by_cases e0 : x.hour = y.hour
          · skip
            by_cases e1 : x.snow = y.snow
            · skip
              by_cases e2 : x.degrees = y.degrees
              · skip
                by_cases e3 : x.wind = y.wind
                · skip
                  exact absurd (by cases x; cases y; simp_all) he
                · skip
                  have f3 : (x.wind == y.wind) = false := by rw [beq_eq_false_iff_ne]; exact e3
                  rw [← e0] at hd0
                  rw [← e1] at hd1
                  rw [← e2] at hd2
                  clear e0 e1 e2 e3 he
                  go_wp2
                  go_quiet (fail)
                  go_wp2
                  go_ret
                  exact ⟨ret_bool (decide_eq_false HB.out).symm, (by repeat (first | exact Below.refl _ _ | assumption | refine Below.alloc ?_ (by first | omega | (simp <;> omega)) _ | refine Below.setCell ?_ (by first | (show _ ≤ _; omega) | (simp <;> omega)) _ | refine Below.drew ?_ | refine below_drewN ?_ _))⟩
              · skip
                have f2 : (x.degrees == y.degrees) = false := by rw [beq_eq_false_iff_ne]; exact e2
                rw [← e0] at hd0
                rw [← e1] at hd1
                clear e0 e1 e2 he
                go_wp2
                go_quiet (fail)
                go_wp2
                go_ret
                exact ⟨ret_bool (decide_eq_false HB.out).symm, (by repeat (first | exact Below.refl _ _ | assumption | refine Below.alloc ?_ (by first | omega | (simp <;> omega)) _ | refine Below.setCell ?_ (by first | (show _ ≤ _; omega) | (simp <;> omega)) _ | refine Below.drew ?_ | refine below_drewN ?_ _))⟩
            · skip
              have f1 : (x.snow == y.snow) = false := by rw [beq_eq_false_iff_ne]; exact e1
              rw [← e0] at hd0
              clear e0 e1 he
              go_wp2
              go_quiet (fail)
              go_wp2
              go_ret
              exact ⟨ret_bool (decide_eq_false HB.out).symm, (by repeat (first | exact Below.refl _ _ | assumption | refine Below.alloc ?_ (by first | omega | (simp <;> omega)) _ | refine Below.setCell ?_ (by first | (show _ ≤ _; omega) | (simp <;> omega)) _ | refine Below.drew ?_ | refine below_drewN ?_ _))⟩
          · skip
            have f0 : (x.hour == y.hour) = false := by rw [beq_eq_false_iff_ne]; exact e0
            clear e0 he
            go_wp2
            go_quiet (fail)
            go_wp2
            go_ret
            exact ⟨ret_bool (decide_eq_false HB.out).symm, (by repeat (first | exact Below.refl _ _ | assumption | refine Below.alloc ?_ (by first | omega | (simp <;> omega)) _ | refine Below.setCell ?_ (by first | (show _ ≤ _; omega) | (simp <;> omega)) _ | refine Below.drew ?_ | refine below_drewN ?_ _))⟩
      · have he : xs = ys := listEq_full (by omega) (by have := HN.out; omega) HE.out
        have HD := Lib.hid he
        clear he
        go_wp2
        go_ret
        exact ⟨ret_bool (decide_eq_true HD.out).symm, below_drewN (Below.refl _ _) _⟩
  · have HB : Hid (¬ xs = ys) := fun h => hl (by rw [h])
    have h2 : (((xs.length : Nat) : Int) == ((ys.length : Nat) : Int)) = false := by rw [beq_eq_false_iff_ne]; omega
    go_enter Try.func73, Try.ntmps73
    go_wp2
    go_ret
    exact ⟨ret_bool (decide_eq_false HB.out).symm, Below.refl _ _⟩
end Go.Proofs.Ythejcbhplgjmgaa
