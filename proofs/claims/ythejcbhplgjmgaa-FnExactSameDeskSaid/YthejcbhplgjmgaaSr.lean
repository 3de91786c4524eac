/- Regions compared by the spec. Written by wip/gen/sr.py. -/
import Derived.Test.YthejcbhplgjmgaaSd
import Derived.Test.YthejcbhplgjmgaaSeg
namespace Go.Proofs.Ythejcbhplgjmgaa
open Go.RowKit
set_option linter.unusedVariables false

set_option maxRecDepth 100000 in
set_option maxHeartbeats 4000000 in
theorem l18Place_any (b o b' o' : Nat) (x y : DRegion) (v v' : Value) (fp fp' : List Nat) (w : World) (c0 : w.cell? ⟨b, o, none⟩ = some (.string x.id)) (c2 : w.cell? ⟨b, o + 2, none⟩ = some v) (d0 : w.cell? ⟨b', o', none⟩ = some (.string y.id)) (d2 : w.cell? ⟨b', o' + 2, none⟩ = some v') (hx : Sl fStr.cod w v x.near fp) (hy : Sl fStr.cod w v' y.near fp') :
    Calls Try.prog 142 #[.pointer (some ⟨b, o, none⟩), .pointer (some ⟨b', o', none⟩)] w fun e w' => e = .returned (.bool (decide (x.id = y.id) && decide (x.near = y.near))) ∧ Below w.heap.size w w' := by
  obtain ⟨A, cap, rfl, hlen, hcap⟩ := hx.form
  obtain ⟨A', cap', rfl, hlen', hcap'⟩ := hy.form
  by_cases h1 : x.id = y.id
  · have e1 : (x.id.toList == y.id.toList) = true := eqS_true.2 h1
    by_cases h2 : x.near.length = y.near.length
    · have HV := Lib.hid (show (decide (x.id = y.id) && decide (x.near = y.near)) = decide (x.near = y.near) from by rw [decide_eq_true h1]; rfl)
      have HN := Lib.hid h2
      have e2 : (((x.near.length : Nat) : Int) == ((y.near.length : Nat) : Int)) = true := by rw [beq_iff_eq]; omega
      clear h1 h2
      generalize x.near = xs at *
      generalize y.near = ys at *
      go_enter Try.func142, Try.ntmps142
      go_wp2
      go_quiet (fail)
      go_wp2
      go_loopw [5] (fun i wr => ∃ k : Nat, k ≤ xs.length ∧ i = .int .i64 k ∧ Hid (xs.take k = ys.take k) ∧ ∃ n, wr = w.drewN n) (fun i _ => xs.length - (intOf i).toNat)
      case atStart => exact ⟨0, Nat.zero_le _, rfl, rfl, _, rfl⟩
      case round =>
        obtain ⟨k, hk, rfl, HE, n, rfl⟩ := hrel
        by_cases hlt : k < xs.length
        · have hky : k < ys.length := by have := HN.out; omega
          obtain ⟨b1, off, rfl, _, hok, hc, _⟩ := hx.at_ hlt
          obtain ⟨b1', off', rfl, _, hok', hd, _⟩ := hy.at_ hky
          have hc0 : w.cell? ⟨b1, off + k, none⟩ = some (.string xs[k]) := by have := hc 0 (by decide); rw [show off + k * fStr.n + 0 = off + k from by show off + k * 1 + 0 = _; omega] at this; exact this
          have hd0 : w.cell? ⟨b1', off' + k, none⟩ = some (.string ys[k]) := by have := hd 0 (by decide); rw [show off' + k * fStr.n + 0 = off' + k from by show off' + k * 1 + 0 = _; omega] at this; exact this
          clear hc hd hok hok'
          by_cases he : xs[k] = ys[k]
          · rw [← he] at hd0
            have HS := Lib.hid (listEq_step hlt hky HE.out he)
            clear he
            go_wp2
            go_quiet (fail)
            go_wp2
            go_roundw
            case rel => exact ⟨k + 1, by omega, by go_num, HS, _, rfl⟩
            case measure => simp [intOf]; omega
          · have HB := Lib.hid (listEq_bad hlt hky he)
            generalize xs[k] = x1 at *
            generalize ys[k] = y1 at *
            have f0 := bytes_beq_false he
            clear he
            go_wp2
            go_quiet (fail)
            go_wp2
            go_ret
            exact ⟨ret_bool (by rw [HV.out, decide_eq_false HB.out]), (by repeat (first | exact Below.refl _ _ | assumption | refine Below.alloc ?_ (by first | omega | (simp <;> omega)) _ | refine Below.setCell ?_ (by first | (show _ ≤ _; omega) | (simp <;> omega)) _ | refine Below.drew ?_ | refine below_drewN ?_ _))⟩
        · have he : xs = ys := listEq_full (by omega) (by have := HN.out; omega) HE.out
          have HD := Lib.hid he
          clear he
          go_wp2
          go_ret
          exact ⟨ret_bool (by rw [HV.out, decide_eq_true HD.out]), below_drewN (Below.refl _ _) _⟩
    · have HV := Lib.hid (show (decide (x.id = y.id) && decide (x.near = y.near)) = false from by rw [show decide (x.near = y.near) = false from decide_eq_false (fun h => h2 (by rw [h]))]; simp)
      have e2 : (((x.near.length : Nat) : Int) == ((y.near.length : Nat) : Int)) = false := by rw [beq_eq_false_iff_ne]; omega
      clear h1 h2
      go_enter Try.func142, Try.ntmps142
      go_wp2
      go_quiet (fail)
      go_wp2
      go_ret
      exact ⟨ret_bool HV.out.symm, (by repeat (first | exact Below.refl _ _ | assumption | refine Below.alloc ?_ (by first | omega | (simp <;> omega)) _ | refine Below.setCell ?_ (by first | (show _ ≤ _; omega) | (simp <;> omega)) _ | refine Below.drew ?_ | refine below_drewN ?_ _))⟩
  · have HV := Lib.hid (show (decide (x.id = y.id) && decide (x.near = y.near)) = false from by rw [decide_eq_false h1]; rfl)
    have e1 := bytes_beq_false h1
    clear h1
    go_enter Try.func142, Try.ntmps142
    go_wp2
    go_quiet (fail)
    go_wp2
    go_ret
    exact ⟨ret_bool HV.out.symm, (by repeat (first | exact Below.refl _ _ | assumption | refine Below.alloc ?_ (by first | omega | (simp <;> omega)) _ | refine Below.setCell ?_ (by first | (show _ ≤ _; omega) | (simp <;> omega)) _ | refine Below.drew ?_ | refine below_drewN ?_ _))⟩
set_option maxRecDepth 100000 in
set_option maxHeartbeats 4000000 in
theorem specSameRegions_any (v v' : Value) (xs ys : List DRegion) (fp fp' : List Nat) (w : World) (hx : Sl cRegion w v xs fp) (hy : Sl cRegion w v' ys fp') :
    Calls Try.prog 61 #[v, v'] w fun e w' => e = .returned (.bool (decide (xs = ys))) ∧ Below w.heap.size w w' := by
  obtain ⟨A, cap, rfl, hlen, hcap⟩ := hx.form
  obtain ⟨A', cap', rfl, hlen', hcap'⟩ := hy.form
  by_cases hl : xs.length = ys.length
  · have HL := Lib.hid hl
    generalize hn : ys.length = n at *
    subst hl
    have HN := Lib.hid hn
    clear hn
    go_enter Try.func61, Try.ntmps61
    go_wp2
    go_loopw [5] (fun i wr => ∃ k : Nat, k ≤ xs.length ∧ i = .int .i64 k ∧ Hid (xs.take k = ys.take k) ∧ Below w.heap.size w wr) (fun i _ => xs.length - (intOf i).toNat)
    case atStart => exact ⟨0, Nat.zero_le _, rfl, rfl, Below.refl _ _⟩
    case round =>
      obtain ⟨k, hk, rfl, HE, hb⟩ := hrel
      by_cases hlt : k < xs.length
      · have hky : k < ys.length := by have := HN.out; omega
        obtain ⟨b, off, vk, fk, rfl, c0, c1, c2, hs0, _⟩ := (hx.below' hb).reg hlt
        obtain ⟨b', off', vk', fk', rfl, d0, d1, d2, hs1, _⟩ := (hy.below' hb).reg hky
        have hbl := block_lt_of_cell c0
        have hbl' := block_lt_of_cell d0
        go_wp2
        have gc1 := cell_regrown c1
        have gd1 := cell_regrown d1
        refine wp_region_mix (C := fun w' => ∃ p : Regrown, w' = Go.Sort.grow (redrawn wr p.d) p.os) [true, true, true, true, true, true, true, true, true, true, true, true, true, true, true, true, true, true, false, true, true] (by kernel_rfl) (by kernel_rfl) (by kernel_rfl) (fun _ _ d _ _ h => by cases d <;> exact h) (regrown_of_below (Below.drew (Below.refl _ _))) ?_
        have hS0 : Below (wr.heap.size) wr wr.drew := Below.drew (Below.refl _ _)
        refine wpMix_pure (by kernel_rfl) (fun K hK => ?_)
        go_big_quiet_op
        refine hK _ ?_; clear hK K
        refine wpMix_pure (by kernel_rfl) (fun K hK => ?_)
        go_big_quiet_op
        refine hK _ ?_; clear hK K
        refine wpMix_pure (by kernel_rfl) (fun K hK => ?_)
        go_big_quiet_op
        refine hK _ ?_; clear hK K
        refine wpMix_pure (by kernel_rfl) (fun K hK => ?_)
        go_big_quiet_op
        refine hK _ ?_; clear hK K
        refine wpMix_pure (by kernel_rfl) (fun K hK => ?_)
        go_big_quiet_op
        refine hK _ ?_; clear hK K
        refine wpMix_pure (by kernel_rfl) (fun K hK => ?_)
        go_big_quiet_op
        refine hK _ ?_; clear hK K
        refine wpMix_pure (by kernel_rfl) (fun K hK => ?_)
        go_big_quiet_op
        refine hK _ ?_; clear hK K
        refine wpMix_pure (by kernel_rfl) (fun K hK => ?_)
        go_big_quiet_op
        refine hK _ ?_; clear hK K
        refine wpMix_pure (by kernel_rfl) (fun K hK => ?_)
        go_big_quiet_op
        refine hK _ ?_; clear hK K
        refine wpMix_pure (by kernel_rfl) (fun K hK => ?_)
        go_big_quiet_op
        refine hK _ ?_; clear hK K
        by_cases hq10 : xs[k].level = ys[k].level
        · skip
          have e1 : (xs[k].level != ys[k].level) = false := by simpa using hq10
          refine wpMix_pure (by kernel_rfl) (fun K hK => ?_)
          go_big_quiet_op
          refine hK _ ?_; clear hK K
          refine wpMix_pure (by kernel_rfl) (fun K hK => ?_)
          go_big_quiet_op
          refine hK _ ?_; clear hK K
          refine wpMix_pure (by kernel_rfl) (fun K hK => ?_)
          go_big_quiet_op
          refine hK _ ?_; clear hK K
          refine wpMix_pure (by kernel_rfl) (fun K hK => ?_)
          go_big_quiet_op
          refine hK _ ?_; clear hK K
          refine wpMix_pure (by kernel_rfl) (fun K hK => ?_)
          go_big_quiet_op
          refine hK _ ?_; clear hK K
          refine wpMix_pure (by kernel_rfl) (fun K hK => ?_)
          go_big_quiet_op
          refine hK _ ?_; clear hK K
          refine wpMix_pure (by kernel_rfl) (fun K hK => ?_)
          go_big_quiet_op
          refine hK _ ?_; clear hK K
          refine wpMix_pure (by kernel_rfl) (fun K hK => ?_)
          go_big_quiet_op
          refine hK _ ?_; clear hK K
          refine wpMix_act (by kernel_rfl) (fun K hK => ?_)
          go_big_op
          refine (l18Place_any _ _ _ _ xs[k] ys[k] _ _ _ _ _ ((hS0.cell (p := ⟨b, off + k * 3, none⟩) hbl).trans c0) ((hS0.cell (p := ⟨b, off + k * 3 + 2, none⟩) hbl).trans c2) ((hS0.cell (p := ⟨b', off' + k * 3, none⟩) hbl').trans d0) ((hS0.cell (p := ⟨b', off' + k * 3 + 2, none⟩) hbl').trans d2) (hs0.below' hS0) (hs1.below' hS0)).mono ?_
          rintro e wr1 ⟨rfl, hbr1⟩
          have hbr1S : Below (wr.heap.size) wr wr1 := hS0.trans (hbr1.mono hS0.size)
          refine hK _ _ (regrown_of_below hbr1S) ?_
          clear hK K
          cases hq18 : decide (xs[k].id = ys[k].id) && decide (xs[k].near = ys[k].near)
          · skip
            refine wpMix_pure (by kernel_rfl) (fun K hK => ?_)
            go_big_quiet_op
            refine hK _ ?_; clear hK K
            refine wpMix_pure (by kernel_rfl) (fun K hK => ?_)
            go_big_quiet_op
            refine hK _ ?_; clear hK K
            refine wpMix_nil ?_
            have HB := listEq_bad hlt hky (by intro h; have := regEq_eq xs[k] ys[k]; rw [decide_eq_true h] at this; unfold regEq at this; rw [hq18] at this; simp at this)
            go_wp2
            go_ret
            exact ⟨ret_bool (decide_eq_false HB).symm, hb.trans (hbr1S.mono hb.size)⟩
          · skip
            refine wpMix_pure (by kernel_rfl) (fun K hK => ?_)
            go_big_quiet_op
            refine hK _ ?_; clear hK K
            refine wpMix_pure (by kernel_rfl) (fun K hK => ?_)
            go_big_quiet_op
            refine hK _ ?_; clear hK K
            refine wpMix_nil ?_
            have HS := Lib.hid (listEq_step hlt hky HE.out (of_decide_eq_true (by rw [← regEq_eq]; unfold regEq; rw [hq18, decide_eq_true hq10]; rfl)))
            go_wp2
            go_roundw
            case rel => exact ⟨k + 1, by omega, by go_num, HS, hb.trans (hbr1S.mono hb.size)⟩
            case measure => simp [intOf]; omega
        · skip
          have e1 : (xs[k].level != ys[k].level) = true := by simpa using hq10
          refine wpMix_pure (by kernel_rfl) (fun K hK => ?_)
          go_big_quiet_op
          refine hK _ ?_; clear hK K
          refine wpMix_pure (by kernel_rfl) (fun K hK => ?_)
          go_big_quiet_op
          refine hK _ ?_; clear hK K
          refine wpMix_skip (by kernel_rfl) (fun K hK => ?_)
          simp only [Act.put, List.setIfInBounds_toArray, List.set_cons_zero, List.set_cons_succ]
          refine hK _ ?_; clear hK K
          refine wpMix_skip (by kernel_rfl) (fun K hK => ?_)
          simp only [Act.put, List.setIfInBounds_toArray, List.set_cons_zero, List.set_cons_succ]
          refine hK _ ?_; clear hK K
          refine wpMix_skip (by kernel_rfl) (fun K hK => ?_)
          simp only [Act.put, List.setIfInBounds_toArray, List.set_cons_zero, List.set_cons_succ]
          refine hK _ ?_; clear hK K
          refine wpMix_skip (by kernel_rfl) (fun K hK => ?_)
          simp only [Act.put, List.setIfInBounds_toArray, List.set_cons_zero, List.set_cons_succ]
          refine hK _ ?_; clear hK K
          refine wpMix_skip (by kernel_rfl) (fun K hK => ?_)
          simp only [Act.put, List.setIfInBounds_toArray, List.set_cons_zero, List.set_cons_succ]
          refine hK _ ?_; clear hK K
          refine wpMix_skip (by kernel_rfl) (fun K hK => ?_)
          simp only [Act.put, List.setIfInBounds_toArray, List.set_cons_zero, List.set_cons_succ]
          refine hK _ ?_; clear hK K
          refine wpMix_skip (by kernel_rfl) (fun K hK => ?_)
          simp only [Act.put, List.setIfInBounds_toArray, List.set_cons_zero, List.set_cons_succ]
          refine hK _ ?_; clear hK K
          refine wpMix_skip (by kernel_rfl) (fun K hK => ?_)
          simp only [Act.put, List.setIfInBounds_toArray, List.set_cons_zero, List.set_cons_succ]
          refine hK _ ?_; clear hK K
          refine wpMix_pure (by kernel_rfl) (fun K hK => ?_)
          go_big_quiet_op
          refine hK _ ?_; clear hK K
          refine wpMix_nil ?_
          have HB := listEq_bad hlt hky (by intro h; have := regEq_eq xs[k] ys[k]; rw [decide_eq_true h] at this; unfold regEq at this; rw [decide_eq_false hq10] at this; simp at this)
          go_wp2
          go_ret
          exact ⟨ret_bool (decide_eq_false HB).symm, hb.trans (hS0.mono hb.size)⟩
      · have he : xs = ys := listEq_full (by omega) (by have := HN.out; omega) HE.out
        have HD := Lib.hid he
        clear he
        go_wp2
        go_ret
        exact ⟨ret_bool (decide_eq_true HD.out).symm, hb⟩
  · have HB : Hid (¬ xs = ys) := fun h => hl (by rw [h])
    have h2 : (((xs.length : Nat) : Int) == ((ys.length : Nat) : Int)) = false := by rw [beq_eq_false_iff_ne]; omega
    go_enter Try.func61, Try.ntmps61
    go_wp2
    go_ret
    exact ⟨ret_bool (decide_eq_false HB.out).symm, Below.refl _ _⟩
end Go.Proofs.Ythejcbhplgjmgaa
