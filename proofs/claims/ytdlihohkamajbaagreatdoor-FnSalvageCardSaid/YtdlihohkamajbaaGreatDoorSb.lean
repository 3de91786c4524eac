/- Contracts of the functions that compare two lists of blocks. Written by wip/gen/sb.py. -/
import Derived.Test.YtdlihohkamajbaaGreatDoorTBlock
namespace Go.Proofs.YtdlihohkamajbaaGreatDoor
open Go.RowKit

theorem listEq_step {α : Type} {xs ys : List α} {k : Nat} (hx : k < xs.length) (hy : k < ys.length) (h0 : xs.take k = ys.take k) (h1 : xs[k] = ys[k]) : xs.take (k + 1) = ys.take (k + 1) := by
  rw [List.take_succ_eq_append_getElem hx, List.take_succ_eq_append_getElem hy, h0, h1]
theorem listEq_bad {α : Type} {xs ys : List α} {k : Nat} (hx : k < xs.length) (hy : k < ys.length) (h1 : ¬ xs[k] = ys[k]) : ¬ xs = ys := by
  intro h; subst h; exact h1 rfl
theorem listEq_full {α : Type} {xs ys : List α} {k : Nat} (hx : xs.length ≤ k) (hy : ys.length ≤ k) (h0 : xs.take k = ys.take k) : xs = ys := by
  rwa [List.take_of_length_le hx, List.take_of_length_le hy] at h0

set_option maxRecDepth 100000 in
set_option maxHeartbeats 2000000 in
theorem l29Same_any (v v' : Value) (xs ys : List DBlock) (fp fp' : List Nat) (w : World) (hx : Sl fBlock.cod w v xs fp) (hy : Sl fBlock.cod w v' ys fp') :
    Calls Tryz.prog 30 #[v, v'] w fun e w' => e = .returned (.bool (decide (xs = ys))) ∧ Below w.heap.size w w' := by
  obtain ⟨A, cap, rfl, hlen, hcap⟩ := hx.form
  obtain ⟨A', cap', rfl, hlen', hcap'⟩ := hy.form
  by_cases hl : xs.length = ys.length
  · have HL := Lib.hid hl
    generalize hn : ys.length = n at *
    subst hl
    have HN := Lib.hid hn
    clear hn
    go_enter Tryz.func30, Tryz.ntmps30
    go_wp2
    go_loopw [5] (fun i wr => ∃ k : Nat, k ≤ xs.length ∧ i = .int .i64 k ∧ Hid (xs.take k = ys.take k) ∧ ∃ n, wr = w.drewN n) (fun i _ => xs.length - (intOf i).toNat)
    case atStart => exact ⟨0, Nat.zero_le _, rfl, rfl, 0, rfl⟩
    case round =>
      obtain ⟨k, hk, rfl, HE, n, rfl⟩ := hrel
      by_cases hlt : k < xs.length
      · have hky : k < ys.length := by have := HN.out; omega
        obtain ⟨b, off, rfl, _, hok, hc, _⟩ := hx.at_ hlt
        obtain ⟨b', off', rfl, _, hok', hd, _⟩ := hy.at_ hky
        have hc0 : w.cell? ⟨b, off + k * 3, none⟩ = some (.string xs[k].kind) := hc 0 (by decide)
        have hd0 : w.cell? ⟨b', off' + k * 3, none⟩ = some (.string ys[k].kind) := hd 0 (by decide)
        have hc1 : w.cell? ⟨b, off + k * 3 + 1, none⟩ = some (.string xs[k].name) := hc 1 (by decide)
        have hd1 : w.cell? ⟨b', off' + k * 3 + 1, none⟩ = some (.string ys[k].name) := hd 1 (by decide)
        have hc2 : w.cell? ⟨b, off + k * 3 + 2, none⟩ = some (.string xs[k].text) := hc 2 (by decide)
        have hd2 : w.cell? ⟨b', off' + k * 3 + 2, none⟩ = some (.string ys[k].text) := hd 2 (by decide)
        clear hc hd hok hok'
        by_cases he : xs[k] = ys[k]
        · rw [← he] at hd0 hd1 hd2
          have HS := Lib.hid (listEq_step hlt hky HE.out he)
          clear he
          go_wp2
          go_quiet (fail)
          go_wp2
          go_roundw
          case rel => exact ⟨k + 1, by omega, by go_num, HS, _, rfl⟩
          case measure => simp [intOf]; omega
        · have HB := Lib.hid (listEq_bad hlt hky he)
          generalize xs[k] = x at *
          generalize ys[k] = y at *
          by_cases e0 : x.kind = y.kind
          · by_cases e1 : x.name = y.name
            · by_cases e2 : x.text = y.text
              · exact absurd (by cases x; cases y; simp_all) he
              · have f2 := bytes_beq_false e2
                rw [← e0] at hd0
                rw [← e1] at hd1
                clear e0 e1 e2 he
                go_wp2
                go_quiet (fail)
                go_wp2
                go_ret
                exact ⟨ret_bool (decide_eq_false HB.out).symm, (by repeat (first | exact Below.refl _ _ | assumption | refine Below.alloc ?_ (by first | omega | (simp <;> omega)) _ | refine Below.setCell ?_ (by first | (show _ ≤ _; omega) | (simp <;> omega)) _ | refine Below.drew ?_ | refine below_drewN ?_ _))⟩
            · have f1 := bytes_beq_false e1
              rw [← e0] at hd0
              clear e0 e1 he
              go_wp2
              go_quiet (fail)
              go_wp2
              go_ret
              exact ⟨ret_bool (decide_eq_false HB.out).symm, (by repeat (first | exact Below.refl _ _ | assumption | refine Below.alloc ?_ (by first | omega | (simp <;> omega)) _ | refine Below.setCell ?_ (by first | (show _ ≤ _; omega) | (simp <;> omega)) _ | refine Below.drew ?_ | refine below_drewN ?_ _))⟩
          · have f0 := bytes_beq_false e0
            clear e0 he
            go_wp2
            go_quiet (fail)
            go_wp2
            go_ret
            exact ⟨ret_bool (decide_eq_false HB.out).symm, (by repeat (first | exact Below.refl _ _ | assumption | refine Below.alloc ?_ (by first | omega | (simp <;> omega)) _ | refine Below.setCell ?_ (by first | (show _ ≤ _; omega) | (simp <;> omega)) _ | refine Below.drew ?_ | refine below_drewN ?_ _))⟩
      · have he : xs = ys := listEq_full (by omega) (by have := HN.out; omega) HE.out
        have HD := Lib.hid he
        clear he
        go_wp2
        go_ret
        exact ⟨ret_bool (decide_eq_true HD.out).symm, below_drewN (Below.refl _ _) _⟩
  · have HB : Hid (¬ xs = ys) := fun h => hl (by rw [h])
    have h2 : (((xs.length : Nat) : Int) == ((ys.length : Nat) : Int)) = false := by rw [beq_eq_false_iff_ne]; omega
    go_enter Tryz.func30, Tryz.ntmps30
    go_wp2
    go_ret
    exact ⟨ret_bool (decide_eq_false HB.out).symm, Below.refl _ _⟩


set_option maxRecDepth 100000 in
set_option maxHeartbeats 400000 in
theorem specSameBlocks_any (v v' : Value) (xs ys : List DBlock) (fp fp' : List Nat) (w : World) (hx : Sl fBlock.cod w v xs fp) (hy : Sl fBlock.cod w v' ys fp') :
    Calls Tryz.prog 13 #[v, v'] w fun e w' => e = .returned (.bool (decide (xs = ys))) ∧ Below w.heap.size w w' := by
  go_enter Tryz.func13, Tryz.ntmps13
  go_wp2_with (go_at_call 30; refine (l29Same_any _ _ _ _ _ _ _ hx hy).mono ?_; rintro e w1 ⟨rfl, hb⟩)
  go_ret
  exact ⟨rfl, hb⟩
end Go.Proofs.YtdlihohkamajbaaGreatDoor
