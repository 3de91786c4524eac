/- Parts of the proof: Kk, Tk, Ki, Kj, Nu, Rd. -/
import Derived.Test.YtdpeffaplkbkgaaGreatDoorG05
import Derived.Test.YtdpeffaplkbkgaaGreatDoorG01
import Derived.Test.YtdpeffaplkbkgaaGreatDoorG02
import Derived.Lib.ParseIntBTie
import Derived.Test.YtdpeffaplkbkgaaGreatDoorG04
import Derived.Stop.LaidErr
import Derived.RowKitTokens
namespace Go.Proofs.YtdpeffaplkbkgaaGreatDoor
open Go.RowKit
set_option linter.unusedVariables false
set_option linter.unusedSimpArgs false

set_option maxRecDepth 100000 in
set_option maxHeartbeats 2000000 in
theorem share_any (n : Int) (k p : Nat) (ak ap : Nat) (w : World) (ck : w.cell? ⟨ak, 0, none⟩ = some (.int .i64 (k : Int))) (cp : w.cell? ⟨ap, 0, none⟩ = some (.int .i64 (p : Int))) (hn : 0 ≤ n ∧ n ≤ 1000) (hk : k ≤ 10) (hp : 1 ≤ p ∧ p ≤ 10) :
    Calls Tryz.prog 22 #[.int .i64 n, .pointer (some ⟨ak, 0, none⟩), .pointer (some ⟨ap, 0, none⟩)] w fun e w' => e = .returned (.int .i64 (shareF n (p : Int) k)) ∧ ∃ m, w' = w.drewN m := by
  have HF : Hid (shareF n (p : Int) k = n * ((k : Int) + 1) / (p : Int) - n * (k : Int) / (p : Int)) := rfl
  have h0 : ((p : Int) == 0) = false := by rw [beq_eq_false_iff_ne]; omega
  have a0 : 0 ≤ n * ((k : Int) + 1) := Int.mul_nonneg hn.1 (by omega)
  have a1 : n * ((k : Int) + 1) ≤ 1000 * 11 := Int.mul_le_mul hn.2 (by omega) (by omega) (by omega)
  have b0 : 0 ≤ n * (k : Int) := Int.mul_nonneg hn.1 (by omega)
  have b1 : n * (k : Int) ≤ 1000 * 10 := Int.mul_le_mul hn.2 (by omega) (by omega) (by omega)
  have c0 : 0 ≤ n * ((k : Int) + 1) / (p : Int) := Int.ediv_nonneg a0 (by omega)
  have c1 : n * ((k : Int) + 1) / (p : Int) ≤ n * ((k : Int) + 1) := Int.ediv_le_self _ a0
  have d0 : 0 ≤ n * (k : Int) / (p : Int) := Int.ediv_nonneg b0 (by omega)
  have d1 : n * (k : Int) / (p : Int) ≤ n * (k : Int) := Int.ediv_le_self _ b0
  generalize shareF n (p : Int) k = R at *
  go_enter Tryz.func22, Tryz.ntmps22
  go_wp2
  go_quiet (fail)
  go_wp2
  go_ret
  exact ⟨ret_int HF.out.symm, _, rfl⟩
/-- What is known while the parts of a group are reckoned: its name, the part's letter; the letter's row, once it is made. -/
structure SpG (s : ByteArray) (c : Int) (a : Act) (w : World) : Prop where
  sz : a.tmps.size = 66
  h27 : a.tmps[27]? = some (.string s)
  h30 : a.tmps[30]? = some (.int .u8 c)
structure SpL (s : ByteArray) (c : Int) (L : Array Bool) (a : Act) (w : World) : Prop where
  g : SpG s c a w
  ls : L.size = 33
  h31 : L.getD 5 true = true → ∃ b, a.tmps[31]? = some (.slice (some ⟨b, 0, none⟩) 1 1) ∧ w.cell? ⟨b, 0, none⟩ = some (.int .u8 c)
theorem SpG.put {s : ByteArray} {c : Int} {a : Act} {w : World} (h : SpG s c a w) (d : Nat) (h1 : d ≠ 27) (h2 : d ≠ 30) (u : Value) (w' : World) : SpG s c (a.put (some d) u) w' := by
  refine ⟨by simp [Act.put, h.sz], ?_, ?_⟩
  · simp only [Act.put]; rw [Array.getElem?_setIfInBounds_ne h1]; exact h.h27
  · simp only [Act.put]; rw [Array.getElem?_setIfInBounds_ne h2]; exact h.h30
theorem SpL.put {s : ByteArray} {c : Int} {L : Array Bool} {a : Act} {w w' : World} (h : SpL s c L a w) (d j : Nat) (h1 : d ≠ 27) (h2 : d ≠ 30) (h3 : d ≠ 31) (hj : j ≠ 5) (u : Value) (hw : ∀ b v, w.cell? ⟨b, 0, none⟩ = some v → w'.cell? ⟨b, 0, none⟩ = some v) : SpL s c (L.setIfInBounds j true) (a.put (some d) u) w' := by
  refine ⟨h.g.put d h1 h2 u w', by simpa using h.ls, fun h5 => ?_⟩
  rw [getD_set_ne true hj] at h5
  obtain ⟨b, hb, hc⟩ := h.h31 h5
  exact ⟨b, by simp only [Act.put]; rw [Array.getElem?_setIfInBounds_ne h3]; exact hb, hw _ _ hc⟩
theorem share_le {n parts : Int} (h0 : 0 ≤ n) (h1 : n ≤ 30) (hp : 2 ≤ parts) (k : Nat) : shareF n parts k ≤ 30 := by
  unfold shareF
  have e : n * ((k : Int) + 1) = n * (k : Int) + n := by rw [Int.mul_add, Int.mul_one]
  rw [e]
  have h2 : (n * (k : Int) + n) / parts ≤ (n * (k : Int) + 30 * parts) / parts := Int.ediv_le_ediv (by omega) (by omega)
  rw [Int.add_mul_ediv_right _ _ (by omega)] at h2
  omega
theorem eval_some {a : Act} {t : Nat} {v : Value} (h : a.tmps[t]? = some v) : a.eval (.tmp t) = v := by
  show a.tmps.getD t undef = v
  rw [Array.getD_eq_getD_getElem?, h]; rfl
theorem listed_of_ready {md : Region.Mode} {ops : Array Oper} {L : Array Bool} {j k : Nat} {o : Oper} (h : j ∈ Region.ready md ops L) (ho : ops[j]? = some o) (hw : o.after.any (fun e => Region.binds md e && e.on == k) = true) (hk : k < L.size) : L.getD k true = true := by
  obtain ⟨_, o', ho', hall⟩ := mem_ready.1 h
  rw [ho] at ho'; injection ho' with ho'; subst ho'
  obtain ⟨e, he, hb⟩ := Array.any_eq_true'.1 hw
  simp only [Bool.and_eq_true, beq_iff_eq] at hb
  have h1 := hall e he hb.1
  rw [hb.2] at h1
  simp [hk] at h1 ⊢
  exact h1

section
variable {s : ByteArray} {c : Int} {md : Region.Mode} {ops : Array Oper} {j : Nat} {o : Oper}
set_option maxRecDepth 100000 in
set_option maxHeartbeats 400000 in
theorem neu_alloc (hg : o.guard = none) (hd : o.dst = some 9) (ho : o.op = .alloc 25) (hj : j ≠ 5) : Neutral Tryz.prog md ops (SpL s c) j o := by
  refine ⟨hg, fun L a w hr hG x w' h => ?_⟩
  have hrun : ∀ w, (execOp a.eval o).run Tryz.prog w = .ok (.value (.pointer (some ⟨w.heap.size, 0, none⟩))) (w.alloc (.cells #[.string ⟨#[]⟩, .int .i64 0, .int .i64 0, .int .i64 0, .int .i64 0, .int .i64 0, .int .i64 0] 25)) := fun w => by
    unfold execOp; rw [ho]; kernel_rfl
  rw [hrun] at h
  injection h with h1 h2
  subst h1 h2
  exact ⟨_, rfl, by rw [hd]; exact hG.put 9 j (by decide) (by decide) (by decide) hj _ (fun b v hv => cell_below ((Below.refl _ _).alloc (Nat.le_refl _) _) hv), fun n => hrun _⟩
set_option maxRecDepth 100000 in
set_option maxHeartbeats 400000 in
theorem neu_slice (hg : o.guard = none) (hd : o.dst = some 31) (ho : o.op = .buildSlice 22 1 #[(0, .tmp 30)]) (hj : j = 5) : Neutral Tryz.prog md ops (SpL s c) j o := by
  subst hj
  refine ⟨hg, fun L a w hr hG x w' h => ?_⟩
  have he := eval_some hG.g.h30
  have hrun : ∀ w, (execOp a.eval o).run Tryz.prog w = .ok (.value (.slice (some ⟨w.heap.size, 0, none⟩) 1 1)) (w.alloc (.cells #[.int .u8 c] 5)) := fun w => by
    unfold execOp; rw [ho]
    simp only [List.map_toArray, List.map_cons, List.map_nil]
    rw [he]; kernel_rfl
  rw [hrun] at h
  injection h with h1 h2
  subst h1 h2
  refine ⟨_, rfl, ?_, fun n => hrun _⟩
  rw [hd]
  refine ⟨?_, by simpa using hG.ls, fun _ => ⟨w.heap.size, ?_, by simp⟩⟩
  · exact hG.g.put 31 (by decide) (by decide) _ _
  · simp only [Act.put]; rw [Array.getElem?_setIfInBounds_self_of_lt (by rw [hG.g.sz]; decide)]
set_option maxRecDepth 100000 in
set_option maxHeartbeats 400000 in
theorem neu_conv (hg : o.guard = none) (hd : o.dst = some 32) (ho : o.op = .convert 22 9 (.tmp 31)) (hops : ops[j]? = some o) (haf : o.after.any (fun e => Region.binds md e && e.on == 5) = true) (hj : j ≠ 5) : Neutral Tryz.prog md ops (SpL s c) j o := by
  refine ⟨hg, fun L a w hr hG x w' h => ?_⟩
  obtain ⟨b, hb, hc⟩ := hG.h31 (listed_of_ready hr hops haf (by rw [hG.ls]; decide))
  have he := eval_some hb
  have hrun : ∀ n, (execOp a.eval o).run Tryz.prog (w.drewN n) = .ok (.value (.string ⟨#[UInt8.ofNat c.toNat]⟩)) (w.drewN n) := fun n => by
    have hcv := run_convert_bytes_arg (P := Tryz.prog) (w.drewN n) 22 5 Tryz.underlying22 Tryz.underlying5 b 0 1 1 [c] rfl (fun i hi => by (obtain rfl : i = 0 := by omega); exact hc) 9 Tryz.underlying9
    unfold execOp; rw [ho]
    show (do pure (.value (← convert 22 9 (a.eval (.tmp 31)))) : Sem Next).run Tryz.prog _ = _
    rw [he, Sem.run_bind, hcv]; rfl
  rw [show w = w.drewN 0 from rfl, hrun] at h
  injection h with h1 h2
  subst h1 h2
  exact ⟨_, rfl, by rw [hd]; exact hG.put 32 j (by decide) (by decide) (by decide) hj _ (fun b v hv => hv), fun n => hrun _⟩
set_option maxRecDepth 100000 in
set_option maxHeartbeats 400000 in
theorem neu_cat (hg : o.guard = none) (hd : o.dst = some 33) (ho : o.op = .binOp .add 9 (.tmp 27) (.tmp 32) 9) (hj : j ≠ 5) : Neutral Tryz.prog md ops (SpL s c) j o := by
  refine ⟨hg, fun L a w hr hG x w' h => ?_⟩
  have he := eval_some hG.g.h27
  have hx : ∀ w, (execOp a.eval o).run Tryz.prog w = (do pure (.value (← binOp .add 9 (.string s) (a.eval (.tmp 32)))) : Sem Next).run Tryz.prog w := fun w => by
    unfold execOp; rw [ho]
    show (do pure (.value (← do eqGuard .add 9 (.tmp 27) (.tmp 32) (a.eval (.tmp 27)) (a.eval (.tmp 32)); binOp .add 9 (a.eval (.tmp 27)) (a.eval (.tmp 32)))) : Sem Next).run Tryz.prog w = _
    rw [he]; rfl
  rw [hx] at h
  generalize a.eval (.tmp 32) = y at *
  cases y
  case string t =>
    have hrun : ∀ w, (do pure (.value (← binOp .add 9 (.string s) (.string t))) : Sem Next).run Tryz.prog w = if ((s.size + t.size : Nat) : Int) > IntKind.i64.max then (do pure (.value (← unsupported (.resourceLimit "string concatenation: a sum of the lengths that is no int"))) : Sem Next).run Tryz.prog w else .ok (.value (.string (s ++ t))) w := fun w => by
      show (do pure (.value (← (if ((s.size + t.size : Nat) : Int) > IntKind.i64.max then unsupported (.resourceLimit "string concatenation: a sum of the lengths that is no int") else pure (.string (s ++ t)))))  : Sem Next).run Tryz.prog w = _
      split <;> rfl
    by_cases hsz : ((s.size + t.size : Nat) : Int) > IntKind.i64.max
    · rw [hrun, if_pos hsz] at h
      exfalso; revert h; simp [unsupported]
    rw [hrun, if_neg hsz] at h
    injection h with h1 h2
    subst h1 h2
    exact ⟨_, rfl, by rw [hd]; exact hG.put 33 j (by decide) (by decide) (by decide) hj _ (fun b v hv => hv), fun n => by rw [hx, hrun, if_neg hsz]⟩
  all_goals
    exfalso
    revert h
    simp [binOp, stuck, unsupported]
end
set_option maxRecDepth 100000 in
set_option maxHeartbeats 16000000 in
theorem implSplitGroup_any (x : DGroup) (parts : Int) (w : World) (hok : fGroup.ok x) :
    Calls Tryz.prog 6 #[.agg #[.string x.id, .int .i64 x.people, .int .i64 x.guides, .int .i64 x.beacons, .int .i64 x.shovels, .int .i64 x.probes, .int .i64 x.skill], .int .i64 parts] w fun e w' => ∃ v', e = .returned (.tuple #[v', .int .i64 (splitC x parts)]) ∧ Own fGroup w' w.heap.size 25 v' (splitF x parts) ∧ Below w.heap.size w w' := by
  have hB0 : Below w.heap.size w ((w.alloc (.cells #[.string x.id, .int .i64 x.people, .int .i64 x.guides, .int .i64 x.beacons, .int .i64 x.shovels, .int .i64 x.probes, .int .i64 x.skill] 25)).alloc (.cells #[.int .i64 parts] 2)) := ((Below.refl _ _).alloc (Nat.le_refl _) _).alloc (by simp) _
  have hpx : PGroup ((w.alloc (.cells #[.string x.id, .int .i64 x.people, .int .i64 x.guides, .int .i64 x.beacons, .int .i64 x.shovels, .int .i64 x.probes, .int .i64 x.skill] 25)).alloc (.cells #[.int .i64 parts] 2)) w.heap.size 0 x := (PGroup.box w x 25).below ((Below.refl (w.heap.size + 1) _).alloc (by simp) _) (Nat.lt_succ_self _)
  have hcp : ((w.alloc (.cells #[.string x.id, .int .i64 x.people, .int .i64 x.guides, .int .i64 x.beacons, .int .i64 x.shovels, .int .i64 x.probes, .int .i64 x.skill] 25)).alloc (.cells #[.int .i64 parts] 2)).cell? ⟨w.heap.size + 1, 0, none⟩ = some (.int .i64 parts) := by simp
  obtain ⟨c0, c1, c2, c3, c4, c5, c6⟩ := id hpx
  go_enter Tryz.func6, Tryz.ntmps6
  go_wp2_with fail
  refine (implValid_any x _ hok).mono ?_
  rintro e w1 ⟨rfl, hbN⟩
  have hp1 := hpx.below' hbN
  have cp1 := cell_below hbN hcp
  have hB1 := hB0.trans (hbN.mono hB0.size)
  clear hpx hcp hB0 hbN c0 c1 c2 c3 c4 c5 c6
  cases hv : groupB x
  · have h1 : splitC x parts = 1 := by unfold splitC; rw [hv]; rfl
    have HE := Lib.hid (show splitC x parts = 1 ∧ splitF x parts = [] from ⟨h1, by unfold splitF; rw [if_neg (by rw [h1]; decide)]⟩)
    clear h1
    go_wp2
    go_ret2
    exact ⟨_, by rw [HE.out.1]; rfl, by rw [HE.out.2]; exact Own.nil _ _ _ _, hB1⟩
  obtain ⟨c0, c1, c2, c3, c4, c5, c6⟩ := id hp1
  go_wp2_with fail
  refine (withinB_any _ _ _ _).mono ?_
  rintro e w' ⟨rfl, rfl⟩
  cases hr : inB parts 2 (min x.people 4)
  · have h1 : splitC x parts = 2 := by unfold splitC; rw [hv, hr]; rfl
    have HE := Lib.hid (show splitC x parts = 2 ∧ splitF x parts = [] from ⟨h1, by unfold splitF; rw [if_neg (by rw [h1]; decide)]⟩)
    clear h1
    go_wp2
    go_ret2
    exact ⟨_, by rw [HE.out.1]; rfl, by rw [HE.out.2]; exact Own.nil _ _ _ _, hB1⟩
  have hrng := inB_true.1 hr
  obtain ⟨p, rfl⟩ : ∃ p : Nat, parts = p := ⟨parts.toNat, by omega⟩
  have hp24 : 2 ≤ p ∧ p ≤ 4 := by omega
  have HC := Lib.hid (show splitC x (p : Int) = if (partsF_ x (p : Int) p).all groupB = false then 6 else 0 by unfold splitC; rw [hv, hr]; rfl)
  have HF := Lib.hid (show splitF x (p : Int) = if splitC x (p : Int) = 0 then partsF_ x (p : Int) p else [] from rfl)
  obtain ⟨hnm, hpe, hgu, hbe, hsh, hpr, hsk⟩ := groupB_bounds hv
  have hidz := nameB_len hnm
  obtain ⟨i0, hi, hz0, hz1, hz2⟩ := info_parts infoGroupK
  have hs1 : w.heap.size + 2 ≤ w1.heap.size := by have h : w.heap.size + 1 < w1.heap.size := block_lt_of_cell cp1; omega
  clear hr hrng hv hnm c0 c1 c2 c3 c4 c5 c6
  go_wp2
  go_loopw [6, 22] (fun v kv wr => ∃ k : Nat, kv = .int .i64 k ∧ k ≤ p ∧ Own fGroup wr w1.heap.size 25 v (partsF_ x (p : Int) k) ∧ (∀ j, j < k → groupB (partF x (p : Int) j) = true) ∧ Below w1.heap.size w1 wr) (fun _ kv _ => p - (intOf kv).toNat)
  case atStart => exact ⟨0, rfl, Nat.zero_le _, Own.nil _ _ _ _, fun j hj => absurd hj (Nat.not_lt_zero _), Below.refl _ _⟩
  case round =>
    obtain ⟨k, rfl, hk, hown, hgd, hb⟩ := hrel
    rename World => wr
    by_cases hlt : k < p
    rotate_left
    · obtain rfl : k = p := by omega
      have hall : (partsF_ x (k : Int) k).all groupB = true := by
        rw [List.all_eq_true]
        intro y hy
        unfold partsF_ at hy
        obtain ⟨j, hj, rfl⟩ := List.mem_map.1 hy
        exact hgd j (by simpa using hj)
      have h1 := HC.out
      rw [hall] at h1
      replace h1 : splitC x (k : Int) = 0 := h1
      have h2 := HF.out
      rw [if_pos h1] at h2
      have HE := Lib.hid (And.intro h1 h2)
      have hown9 : Own fGroup wr w.heap.size 25 u6 (partsF_ x (k : Int) k) := ownM_ hown (show w.heap.size ≤ w1.heap.size by omega)
      have hb9 := hB1.trans (hb.mono (by omega))
      clear h1 h2 hall HC HF hown hb
      obtain ⟨A9, c9, rfl⟩ := hown9.form
      go_wp2
      go_ret2
      exact ⟨_, by rw [HE.out.1]; rfl, by rw [HE.out.2]; exact hown9, hb9⟩
    have hlt9 : (k : Int) < (p : Int) := by omega
    go_upto_region 10 with fail
    refine at_world (fun W => Below wr.heap.size wr W ∧ W.cell? ⟨wr.heap.size, 0, none⟩ = some (.int .i64 (k : Int))) ⟨(Below.refl _ _).alloc (Nat.le_refl _) _, by simp⟩ ?_
    rintro wk ⟨hbk, ck⟩
    have hbk2 := hb.trans (hbk.mono hb.size)
    have hpk := hp1.below' hbk2
    have cp := cell_below hbk2 cp1
    have hown2 := hown.below hbk
    have hkb : w1.heap.size ≤ wr.heap.size := hb.size
    clear hown hb hbk
    generalize wr.heap.size = kb at *
    clear wr
    obtain ⟨c0, c1, c2, c3, c4, c5, c6⟩ := id hpk
    obtain ⟨bt, hbt, hbz⟩ : ∃ bt : ByteArray, Hid (bt = ⟨#[UInt8.ofNat (97 + (k : Int)).toNat]⟩) ∧ bt.size = 1 := ⟨_, Lib.hid rfl, rfl⟩
    have gc0 := cell_regrown c0
    have gc1 := cell_regrown c1
    have gc2 := cell_regrown c2
    have gc3 := cell_regrown c3
    have gc4 := cell_regrown c4
    have gc5 := cell_regrown c5
    have gc6 := cell_regrown c6
    have gck := cell_regrown ck
    have gcp := cell_regrown cp
    refine wp_region_calm (C := fun w' => ∃ p : Regrown, w' = Go.Sort.grow (redrawn wk p.d) p.os) (.look 0 (.look 1 (.look 2 (.look 3 (.look 4 (.look 8 (.look 9 (.look 10 (.look 12 (.look 13 (.look 14 (.look 16 (.look 17 (.look 18 (.look 20 (.look 21 (.look 22 (.look 24 (.look 25 (.look 26 (.look 28 (.look 29 (.still 11 (.still 15 (.still 19 (.still 23 (.still 27 (.two 5 (.two 6 (.look 7 (.look 30 (.act 31 (.act 32 .nil)))) 31 (.act 6 (.look 7 (.look 30 (.act 32 .nil))))) 31 (.act 5 (.act 6 (.look 7 (.look 30 (.act 32 .nil))))))))))))))))))))))))))))))))) [5, 6, 7, 31] [5] (SpG x.id (97 + (k : Int))) (SpL x.id (97 + (k : Int))) (fun L a w hs hl hg => ⟨hg, hs, fun h => by rw [hl 5 (by simp)] at h; cases h⟩) (by
      intro j hj o ho
      simp only [List.mem_cons, List.not_mem_nil, or_false] at hj
      rcases hj with rfl | rfl | rfl | rfl
      · cases Option.some.inj ho; exact neu_slice rfl rfl rfl rfl
      · cases Option.some.inj ho; exact neu_conv rfl rfl rfl rfl (by kernel_rfl) (by decide)
      · cases Option.some.inj ho; exact neu_cat rfl rfl rfl (by decide)
      · cases Option.some.inj ho; exact neu_alloc rfl rfl rfl (by decide)) (fun V n h => regrown_drewN h n) (by kernel_rfl) (by kernel_rfl) (by kernel_rfl) (regrown_of_below (Below.drew (Below.refl _ _))) ?_
    simp only [QT.ops, List.getD_cons_zero, List.getD_cons_succ]
    have hS0 : Below (wk.heap.size) wk wk.drew := Below.drew (Below.refl _ _)
    refine wpMixC_look (by kernel_rfl) (fun K hK => ?_)
    go_big_quiet_op
    refine hK _ ?_; clear hK K
    refine wpMixC_look (by kernel_rfl) (fun K hK => ?_)
    go_big_quiet_op
    refine hK _ ?_; clear hK K
    refine wpMixC_look (by kernel_rfl) (fun K hK => ?_)
    go_big_quiet_op
    refine hK _ ?_; clear hK K
    refine wpMixC_look (by kernel_rfl) (fun K hK => ?_)
    go_big_quiet_op
    refine hK _ ?_; clear hK K
    refine wpMixC_look (by kernel_rfl) (fun K hK => ?_)
    go_big_quiet_op
    refine hK _ ?_; clear hK K
    refine wpMixC_look (by kernel_rfl) (fun K hK => ?_)
    go_big_quiet_op
    refine hK _ ?_; clear hK K
    refine wpMixC_look (by kernel_rfl) (fun K hK => ?_)
    go_big_quiet_op
    refine hK _ ?_; clear hK K
    refine wpMixC_look (by kernel_rfl) (fun K hK => ?_)
    go_big_quiet_op
    refine hK _ ?_; clear hK K
    refine wpMixC_look (by kernel_rfl) (fun K hK => ?_)
    go_big_quiet_op
    refine hK _ ?_; clear hK K
    refine wpMixC_look (by kernel_rfl) (fun K hK => ?_)
    go_big_quiet_op
    refine hK _ ?_; clear hK K
    refine wpMixC_look (by kernel_rfl) (fun K hK => ?_)
    go_big_quiet_op
    refine hK _ ?_; clear hK K
    refine wpMixC_look (by kernel_rfl) (fun K hK => ?_)
    go_big_quiet_op
    refine hK _ ?_; clear hK K
    refine wpMixC_look (by kernel_rfl) (fun K hK => ?_)
    go_big_quiet_op
    refine hK _ ?_; clear hK K
    refine wpMixC_look (by kernel_rfl) (fun K hK => ?_)
    go_big_quiet_op
    refine hK _ ?_; clear hK K
    refine wpMixC_look (by kernel_rfl) (fun K hK => ?_)
    go_big_quiet_op
    refine hK _ ?_; clear hK K
    refine wpMixC_look (by kernel_rfl) (fun K hK => ?_)
    go_big_quiet_op
    refine hK _ ?_; clear hK K
    refine wpMixC_look (by kernel_rfl) (fun K hK => ?_)
    go_big_quiet_op
    refine hK _ ?_; clear hK K
    refine wpMixC_look (by kernel_rfl) (fun K hK => ?_)
    go_big_quiet_op
    refine hK _ ?_; clear hK K
    refine wpMixC_look (by kernel_rfl) (fun K hK => ?_)
    go_big_quiet_op
    refine hK _ ?_; clear hK K
    refine wpMixC_look (by kernel_rfl) (fun K hK => ?_)
    go_big_quiet_op
    refine hK _ ?_; clear hK K
    refine wpMixC_look (by kernel_rfl) (fun K hK => ?_)
    go_big_quiet_op
    refine hK _ ?_; clear hK K
    refine wpMixC_look (by kernel_rfl) (fun K hK => ?_)
    go_big_quiet_op
    refine hK _ ?_; clear hK K
    refine wpMixC_still (by kernel_rfl) ⟨rfl, rfl, rfl⟩ (.int .i64 (shareF x.people (p : Int) k)) (fun W hW => calm_call (f := 22) (args := #[.int .i64 x.people, .pointer (some ⟨kb, 0, none⟩), .pointer (some ⟨w.heap.size + 1, 0, none⟩)]) (by kernel_rfl) ?_) (fun n9 => ?_)
    · skip
      obtain ⟨q, rfl⟩ := hW
      exact share_any x.people k p kb (w.heap.size + 1) _ (cell_regrown ck _ _) (cell_regrown cp _ _) (by omega) (by omega) (by omega)
    simp only [Act.put, List.setIfInBounds_toArray, List.set_cons_zero, List.set_cons_succ]
    refine mixC_world (fun N => Below (wk.heap.size) wk N) (below_drewN hS0 n9) ?_
    clear n9
    intro wr1 hbr1S
    refine wpMixC_still (by kernel_rfl) ⟨rfl, rfl, rfl⟩ (.int .i64 (shareF x.guides (p : Int) k)) (fun W hW => calm_call (f := 22) (args := #[.int .i64 x.guides, .pointer (some ⟨kb, 0, none⟩), .pointer (some ⟨w.heap.size + 1, 0, none⟩)]) (by kernel_rfl) ?_) (fun n9 => ?_)
    · skip
      obtain ⟨q, rfl⟩ := hW
      exact share_any x.guides k p kb (w.heap.size + 1) _ (cell_regrown ck _ _) (cell_regrown cp _ _) (by omega) (by omega) (by omega)
    simp only [Act.put, List.setIfInBounds_toArray, List.set_cons_zero, List.set_cons_succ]
    refine mixC_world (fun N => Below (wk.heap.size) wk N) (below_drewN hbr1S n9) ?_
    clear n9
    intro wr2 hbr2S
    refine wpMixC_still (by kernel_rfl) ⟨rfl, rfl, rfl⟩ (.int .i64 (shareF x.beacons (p : Int) k)) (fun W hW => calm_call (f := 22) (args := #[.int .i64 x.beacons, .pointer (some ⟨kb, 0, none⟩), .pointer (some ⟨w.heap.size + 1, 0, none⟩)]) (by kernel_rfl) ?_) (fun n9 => ?_)
    · skip
      obtain ⟨q, rfl⟩ := hW
      exact share_any x.beacons k p kb (w.heap.size + 1) _ (cell_regrown ck _ _) (cell_regrown cp _ _) (by omega) (by omega) (by omega)
    simp only [Act.put, List.setIfInBounds_toArray, List.set_cons_zero, List.set_cons_succ]
    refine mixC_world (fun N => Below (wk.heap.size) wk N) (below_drewN hbr2S n9) ?_
    clear n9
    intro wr3 hbr3S
    refine wpMixC_still (by kernel_rfl) ⟨rfl, rfl, rfl⟩ (.int .i64 (shareF x.shovels (p : Int) k)) (fun W hW => calm_call (f := 22) (args := #[.int .i64 x.shovels, .pointer (some ⟨kb, 0, none⟩), .pointer (some ⟨w.heap.size + 1, 0, none⟩)]) (by kernel_rfl) ?_) (fun n9 => ?_)
    · skip
      obtain ⟨q, rfl⟩ := hW
      exact share_any x.shovels k p kb (w.heap.size + 1) _ (cell_regrown ck _ _) (cell_regrown cp _ _) (by omega) (by omega) (by omega)
    simp only [Act.put, List.setIfInBounds_toArray, List.set_cons_zero, List.set_cons_succ]
    refine mixC_world (fun N => Below (wk.heap.size) wk N) (below_drewN hbr3S n9) ?_
    clear n9
    intro wr4 hbr4S
    refine wpMixC_still (by kernel_rfl) ⟨rfl, rfl, rfl⟩ (.int .i64 (shareF x.probes (p : Int) k)) (fun W hW => calm_call (f := 22) (args := #[.int .i64 x.probes, .pointer (some ⟨kb, 0, none⟩), .pointer (some ⟨w.heap.size + 1, 0, none⟩)]) (by kernel_rfl) ?_) (fun n9 => ?_)
    · skip
      obtain ⟨q, rfl⟩ := hW
      exact share_any x.probes k p kb (w.heap.size + 1) _ (cell_regrown ck _ _) (cell_regrown cp _ _) (by omega) (by omega) (by omega)
    simp only [Act.put, List.setIfInBounds_toArray, List.set_cons_zero, List.set_cons_succ]
    refine mixC_world (fun N => Below (wk.heap.size) wk N) (below_drewN hbr4S n9) ?_
    clear n9
    intro wr5 hbr5S
    refine wpMixC_two ?_ ?_
    · skip
      refine wpMixC_act (by kernel_rfl) (fun K hK => ?_)
      go_big_op
      refine hK _ _ (regrown_of_below (hbr5S.alloc hbr5S.size _)) ?_
      clear hK K
      have hsb := hbr5S.size
      refine mixC_world (fun N => Below wk.heap.size wk N ∧ N.cell? ⟨wr5.heap.size, 0, none⟩ = some (.int .u8 (97 + (k : Int))) ∧ True) ⟨hbr5S.alloc hbr5S.size _, by simp, trivial⟩ ?_
      generalize wr5.heap.size = sb at *
      intro w5
      rintro ⟨h5S, h5F, _⟩
      refine wpMixC_two ?_ ?_
      · skip
        refine wpMixC_act (by kernel_rfl) (fun K hK => ?_)
        have hcv : (convert 22 9 (.slice (some ⟨sb, 0, none⟩) 1 1)).run Tryz.prog w5 = .ok (.string bt) w5 := by
          have h := run_convert_bytes_arg (P := Tryz.prog) w5 22 5 Tryz.underlying22 Tryz.underlying5 sb 0 1 1 [97 + (k : Int)] rfl (fun i hi => by (obtain rfl : i = 0 := by omega); exact h5F) 9 Tryz.underlying9
          rw [show strOfNums [97 + (k : Int)] = bt from hbt.out.symm] at h
          exact h
        go_big_op
        refine hK _ _ (regrown_of_below h5S) ?_
        clear hK K hcv h5F
        refine wpMixC_look (by kernel_rfl) (fun K hK => ?_)
        go_big_quiet_op
        refine hK _ ?_; clear hK K
        refine wpMixC_look (by kernel_rfl) (fun K hK => ?_)
        go_big_quiet_op
        refine hK _ ?_; clear hK K
        refine wpMixC_act (by kernel_rfl) (fun K hK => ?_)
        go_big_op
        refine hK _ _ (regrown_of_below (h5S.alloc h5S.size _)) ?_
        clear hK K
        have hgb := h5S.size
        refine mixC_world (fun N => Below wk.heap.size wk N ∧ BxGroup N w5.heap.size ∧ True) ⟨h5S.alloc h5S.size _, BxGroup.new _ _, trivial⟩ ?_
        generalize w5.heap.size = gb at *
        intro w31
        rintro ⟨h31S, hBG, _⟩
        refine wpMixC_act (by kernel_rfl) (fun K hK => ?_)
        obtain ⟨d0, d1, d2, d3, d4, d5, d6, z0, z1, z2, z3, z4, z5, z6⟩ := id hBG
        go_big_op
        have h32S : Below wk.heap.size wk ((((((((((((((w31).setCell ⟨gb, 0, none⟩ (.string (x.id ++ bt)))).setCell ⟨gb, 1, none⟩ (.int .i64 (shareF x.people (p : Int) k)))).setCell ⟨gb, 2, none⟩ (.int .i64 (shareF x.guides (p : Int) k)))).setCell ⟨gb, 3, none⟩ (.int .i64 (shareF x.beacons (p : Int) k)))).setCell ⟨gb, 4, none⟩ (.int .i64 (shareF x.shovels (p : Int) k)))).setCell ⟨gb, 5, none⟩ (.int .i64 (shareF x.probes (p : Int) k)))).setCell ⟨gb, 6, none⟩ (.int .i64 x.skill)) := (((((((h31S.setCell (p := ⟨gb, 0, none⟩) hgb _).setCell (p := ⟨gb, 1, none⟩) hgb _).setCell (p := ⟨gb, 2, none⟩) hgb _).setCell (p := ⟨gb, 3, none⟩) hgb _).setCell (p := ⟨gb, 4, none⟩) hgb _).setCell (p := ⟨gb, 5, none⟩) hgb _).setCell (p := ⟨gb, 6, none⟩) hgb _)
        have hP9 : PGroup ((((((((((((((w31).setCell ⟨gb, 0, none⟩ (.string (x.id ++ bt)))).setCell ⟨gb, 1, none⟩ (.int .i64 (shareF x.people (p : Int) k)))).setCell ⟨gb, 2, none⟩ (.int .i64 (shareF x.guides (p : Int) k)))).setCell ⟨gb, 3, none⟩ (.int .i64 (shareF x.beacons (p : Int) k)))).setCell ⟨gb, 4, none⟩ (.int .i64 (shareF x.shovels (p : Int) k)))).setCell ⟨gb, 5, none⟩ (.int .i64 (shareF x.probes (p : Int) k)))).setCell ⟨gb, 6, none⟩ (.int .i64 x.skill)) gb 0 ⟨x.id ++ bt, shareF x.people (p : Int) k, shareF x.guides (p : Int) k, shareF x.beacons (p : Int) k, shareF x.shovels (p : Int) k, shareF x.probes (p : Int) k, x.skill⟩ := ((((((((show PGroup w31 gb 0 ⟨⟨#[]⟩, 0, 0, 0, 0, 0, 0⟩ from ⟨hBG.d0, hBG.d1, hBG.d2, hBG.d3, hBG.d4, hBG.d5, hBG.d6⟩).vset0 (x.id ++ bt)).vset1 (shareF x.people (p : Int) k)).vset2 (shareF x.guides (p : Int) k)).vset3 (shareF x.beacons (p : Int) k)).vset4 (shareF x.shovels (p : Int) k)).vset5 (shareF x.probes (p : Int) k)).vset6 x.skill)
        refine hK _ _ (regrown_of_below h32S) ?_
        clear hK K d0 d1 d2 d3 d4 d5 d6 z0 z1 z2 z3 z4 z5 z6 hBG
        revert h32S hP9
        generalize ((((((((((((((w31).setCell ⟨gb, 0, none⟩ (.string (x.id ++ bt)))).setCell ⟨gb, 1, none⟩ (.int .i64 (shareF x.people (p : Int) k)))).setCell ⟨gb, 2, none⟩ (.int .i64 (shareF x.guides (p : Int) k)))).setCell ⟨gb, 3, none⟩ (.int .i64 (shareF x.beacons (p : Int) k)))).setCell ⟨gb, 4, none⟩ (.int .i64 (shareF x.shovels (p : Int) k)))).setCell ⟨gb, 5, none⟩ (.int .i64 (shareF x.probes (p : Int) k)))).setCell ⟨gb, 6, none⟩ (.int .i64 x.skill)) = w32
        intro h32S hP9
        refine wpMixC_nil ?_
        have hPF : partF x (p : Int) k = ⟨x.id ++ bt, shareF x.people (p : Int) k, shareF x.guides (p : Int) k, shareF x.beacons (p : Int) k, shareF x.shovels (p : Int) k, shareF x.probes (p : Int) k, x.skill⟩ := by
          have e := hbt.out
          have e2 : (97 + (k : Int)).toNat = 97 + k := by omega
          rw [e2] at e
          unfold partF; rw [← e]
        have hshr : ∀ n : Int, 0 ≤ n ∧ n ≤ 30 → 0 ≤ shareF n (p : Int) k ∧ shareF n (p : Int) k ≤ 30 := fun n hn => ⟨share_nn hn.1 (by omega) k, share_le hn.1 hn.2 (by omega) k⟩
        have b1 := hshr x.people (by omega)
        have b2 := hshr x.guides (by omega)
        have b3 := hshr x.beacons (by omega)
        have b4 := hshr x.shovels (by omega)
        have b5 := hshr x.probes (by omega)
        have hPF2 := Lib.hid hPF
        clear hshr gc0 gc1 gc2 gc3 gc4 gc5 gc6 gck gcp hPF ck cp c0 c1 c2 c3 c4 c5 c6 hS0 hpk
        have hb32 := hbk2.trans (h32S.mono hbk2.size)
        have hown32 := hown2.below h32S
        clear hown2 h32S hbk2
        generalize shareF x.people (p : Int) k = q1 at *
        generalize shareF x.guides (p : Int) k = q2 at *
        generalize shareF x.beacons (p : Int) k = q3 at *
        generalize shareF x.shovels (p : Int) k = q4 at *
        generalize shareF x.probes (p : Int) k = q5 at *
        have hz12 : (x.id ++ bt).size ≤ 11 := by rw [ByteArray.size_append, hbz]; omega
        have hoky : fGroup.ok ⟨x.id ++ bt, q1, q2, q3, q4, q5, x.skill⟩ := ⟨by show _ ≤ _; simp only; omega, by show _ ∧ _; simp only; omega, by show _ ∧ _; simp only; omega, by show _ ∧ _; simp only; omega, by show _ ∧ _; simp only; omega, by show _ ∧ _; simp only; omega, by show _ ∧ _; simp only; omega⟩
        obtain ⟨c0, c1, c2, c3, c4, c5, c6⟩ := id hP9
        go_wp2_with fail
        refine (implValid_any ⟨x.id ++ bt, q1, q2, q3, q4, q5, x.skill⟩ _ hoky).mono ?_
        rintro e w6 ⟨rfl, hb6⟩
        have hP6 := hP9.below' hb6
        have hb7 := hb32.trans (hb6.mono hb32.size)
        have hown6 : w6.ownsRow w1.heap.size 25 7 u6 (partsF_ x (p : Int) k).length ((partsF_ x (p : Int) k).flatMap fGroup.enc) := hown32.below hb6
        clear hP9 hb32 hb6 hown32 c0 c1 c2 c3 c4 c5 c6
        cases hvy : groupB ⟨x.id ++ bt, q1, q2, q3, q4, q5, x.skill⟩
        · have hbad : (partsF_ x (p : Int) p).all groupB = false := by
            rw [List.all_eq_false]
            refine ⟨partF x (p : Int) k, ?_, by rw [hPF2.out, hvy]; decide⟩
            unfold partsF_
            exact List.mem_map.2 ⟨k, by simpa using hlt, rfl⟩
          have h1 := HC.out
          rw [if_pos hbad] at h1
          have h2 := HF.out
          rw [if_neg (by rw [h1]; decide)] at h2
          have HE := Lib.hid (And.intro h1 h2)
          have hb9 := hB1.trans (hb7.mono (by omega))
          clear h1 h2 hbad HC HF hown6 hvy hb7 hoky
          go_wp2
          go_ret2
          exact ⟨_, by rw [HE.out.1]; rfl, by rw [HE.out.2]; exact Own.nil _ _ _ _, hb9⟩
        obtain ⟨c0, c1, c2, c3, c4, c5, c6⟩ := id hP6
        have hlenP := partsF_len x (p : Int) k
        have hszw := hb7.size
        have hgd2 : ∀ j, j < k + 1 → groupB (partF x (p : Int) j) = true := fun j hj => by
          by_cases e : j = k
          · subst e; rw [hPF2.out]; exact hvy
          · exact hgd j (by omega)
        have hle10 : (partsF_ x (p : Int) k).length ≤ 10 := by omega
        have HL := Lib.hid (show partsF_ x (p : Int) (k + 1) = partsF_ x (p : Int) k ++ [⟨x.id ++ bt, q1, q2, q3, q4, q5, x.skill⟩] by rw [partsF_succ, hPF2.out])
        clear hlenP hgd hvy hoky hP6 hPF2
        generalize partsF_ x (p : Int) k = PL at *
        go_wp2_with (at_builtin; refine wpList_append_one rfl _ _ 28 rfl w1.heap.size 25 i0 (.agg #[.string ⟨#[]⟩, .int .i64 0, .int .i64 0, .int .i64 0, .int .i64 0, .int .i64 0, .int .i64 0]) 7 64 Tryz.underlying28 hi hz0 hz1 hz2 rfl (by decide) u6 PL.length _ rfl hown6 [.string (x.id ++ bt), .int .i64 q1, .int .i64 q2, .int .i64 q3, .int .i64 q4, .int .i64 q5, .int .i64 x.skill] rfl (by intro u hu; simp only [List.mem_cons, List.not_mem_nil, or_false] at hu; rcases hu with rfl | rfl | rfl | rfl | rfl | rfl | rfl <;> rfl) rfl (by omega) (by decide) hszw ?_)
        intro v' u hownU hbu _ _
        have hoD : Own fGroup u w1.heap.size 25 v' (PL ++ [⟨x.id ++ bt, q1, q2, q3, q4, q5, x.skill⟩]) := Own.push _ (by omega) hownU
        have hb9 := hb7.trans hbu
        clear hownU hb7 hbu hown6 c0 c1 c2 c3 c4 c5 c6
        go_wp2
        go_roundw
        case rel => exact ⟨k + 1, by go_num, by omega, by rw [HL.out]; exact hoD, hgd2, hb9⟩
        case measure => simp [intOf]; omega
      · skip
        refine wpMixC_act (by kernel_rfl) (fun K hK => ?_)
        go_big_op
        refine hK _ _ (regrown_of_below (h5S.alloc h5S.size _)) ?_
        clear hK K
        have hgb := h5S.size
        refine mixC_world (fun N => Below wk.heap.size wk N ∧ BxGroup N w5.heap.size ∧ N.cell? ⟨sb, 0, none⟩ = some (.int .u8 (97 + (k : Int)))) ⟨h5S.alloc h5S.size _, BxGroup.new _ _, cell_below ((Below.refl _ _).alloc (Nat.le_refl _) _) h5F⟩ ?_
        generalize w5.heap.size = gb at *
        intro w31
        rintro ⟨h31S, hBG, h5F⟩
        refine wpMixC_act (by kernel_rfl) (fun K hK => ?_)
        have hcv : (convert 22 9 (.slice (some ⟨sb, 0, none⟩) 1 1)).run Tryz.prog w31 = .ok (.string bt) w31 := by
          have h := run_convert_bytes_arg (P := Tryz.prog) w31 22 5 Tryz.underlying22 Tryz.underlying5 sb 0 1 1 [97 + (k : Int)] rfl (fun i hi => by (obtain rfl : i = 0 := by omega); exact h5F) 9 Tryz.underlying9
          rw [show strOfNums [97 + (k : Int)] = bt from hbt.out.symm] at h
          exact h
        go_big_op
        refine hK _ _ (regrown_of_below h31S) ?_
        clear hK K hcv h5F
        refine wpMixC_look (by kernel_rfl) (fun K hK => ?_)
        go_big_quiet_op
        refine hK _ ?_; clear hK K
        refine wpMixC_look (by kernel_rfl) (fun K hK => ?_)
        go_big_quiet_op
        refine hK _ ?_; clear hK K
        refine wpMixC_act (by kernel_rfl) (fun K hK => ?_)
        obtain ⟨d0, d1, d2, d3, d4, d5, d6, z0, z1, z2, z3, z4, z5, z6⟩ := id hBG
        go_big_op
        have h32S : Below wk.heap.size wk ((((((((((((((w31).setCell ⟨gb, 0, none⟩ (.string (x.id ++ bt)))).setCell ⟨gb, 1, none⟩ (.int .i64 (shareF x.people (p : Int) k)))).setCell ⟨gb, 2, none⟩ (.int .i64 (shareF x.guides (p : Int) k)))).setCell ⟨gb, 3, none⟩ (.int .i64 (shareF x.beacons (p : Int) k)))).setCell ⟨gb, 4, none⟩ (.int .i64 (shareF x.shovels (p : Int) k)))).setCell ⟨gb, 5, none⟩ (.int .i64 (shareF x.probes (p : Int) k)))).setCell ⟨gb, 6, none⟩ (.int .i64 x.skill)) := (((((((h31S.setCell (p := ⟨gb, 0, none⟩) hgb _).setCell (p := ⟨gb, 1, none⟩) hgb _).setCell (p := ⟨gb, 2, none⟩) hgb _).setCell (p := ⟨gb, 3, none⟩) hgb _).setCell (p := ⟨gb, 4, none⟩) hgb _).setCell (p := ⟨gb, 5, none⟩) hgb _).setCell (p := ⟨gb, 6, none⟩) hgb _)
        have hP9 : PGroup ((((((((((((((w31).setCell ⟨gb, 0, none⟩ (.string (x.id ++ bt)))).setCell ⟨gb, 1, none⟩ (.int .i64 (shareF x.people (p : Int) k)))).setCell ⟨gb, 2, none⟩ (.int .i64 (shareF x.guides (p : Int) k)))).setCell ⟨gb, 3, none⟩ (.int .i64 (shareF x.beacons (p : Int) k)))).setCell ⟨gb, 4, none⟩ (.int .i64 (shareF x.shovels (p : Int) k)))).setCell ⟨gb, 5, none⟩ (.int .i64 (shareF x.probes (p : Int) k)))).setCell ⟨gb, 6, none⟩ (.int .i64 x.skill)) gb 0 ⟨x.id ++ bt, shareF x.people (p : Int) k, shareF x.guides (p : Int) k, shareF x.beacons (p : Int) k, shareF x.shovels (p : Int) k, shareF x.probes (p : Int) k, x.skill⟩ := ((((((((show PGroup w31 gb 0 ⟨⟨#[]⟩, 0, 0, 0, 0, 0, 0⟩ from ⟨hBG.d0, hBG.d1, hBG.d2, hBG.d3, hBG.d4, hBG.d5, hBG.d6⟩).vset0 (x.id ++ bt)).vset1 (shareF x.people (p : Int) k)).vset2 (shareF x.guides (p : Int) k)).vset3 (shareF x.beacons (p : Int) k)).vset4 (shareF x.shovels (p : Int) k)).vset5 (shareF x.probes (p : Int) k)).vset6 x.skill)
        refine hK _ _ (regrown_of_below h32S) ?_
        clear hK K d0 d1 d2 d3 d4 d5 d6 z0 z1 z2 z3 z4 z5 z6 hBG
        revert h32S hP9
        generalize ((((((((((((((w31).setCell ⟨gb, 0, none⟩ (.string (x.id ++ bt)))).setCell ⟨gb, 1, none⟩ (.int .i64 (shareF x.people (p : Int) k)))).setCell ⟨gb, 2, none⟩ (.int .i64 (shareF x.guides (p : Int) k)))).setCell ⟨gb, 3, none⟩ (.int .i64 (shareF x.beacons (p : Int) k)))).setCell ⟨gb, 4, none⟩ (.int .i64 (shareF x.shovels (p : Int) k)))).setCell ⟨gb, 5, none⟩ (.int .i64 (shareF x.probes (p : Int) k)))).setCell ⟨gb, 6, none⟩ (.int .i64 x.skill)) = w32
        intro h32S hP9
        refine wpMixC_nil ?_
        have hPF : partF x (p : Int) k = ⟨x.id ++ bt, shareF x.people (p : Int) k, shareF x.guides (p : Int) k, shareF x.beacons (p : Int) k, shareF x.shovels (p : Int) k, shareF x.probes (p : Int) k, x.skill⟩ := by
          have e := hbt.out
          have e2 : (97 + (k : Int)).toNat = 97 + k := by omega
          rw [e2] at e
          unfold partF; rw [← e]
        have hshr : ∀ n : Int, 0 ≤ n ∧ n ≤ 30 → 0 ≤ shareF n (p : Int) k ∧ shareF n (p : Int) k ≤ 30 := fun n hn => ⟨share_nn hn.1 (by omega) k, share_le hn.1 hn.2 (by omega) k⟩
        have b1 := hshr x.people (by omega)
        have b2 := hshr x.guides (by omega)
        have b3 := hshr x.beacons (by omega)
        have b4 := hshr x.shovels (by omega)
        have b5 := hshr x.probes (by omega)
        have hPF2 := Lib.hid hPF
        clear hshr gc0 gc1 gc2 gc3 gc4 gc5 gc6 gck gcp hPF ck cp c0 c1 c2 c3 c4 c5 c6 hS0 hpk
        have hb32 := hbk2.trans (h32S.mono hbk2.size)
        have hown32 := hown2.below h32S
        clear hown2 h32S hbk2
        generalize shareF x.people (p : Int) k = q1 at *
        generalize shareF x.guides (p : Int) k = q2 at *
        generalize shareF x.beacons (p : Int) k = q3 at *
        generalize shareF x.shovels (p : Int) k = q4 at *
        generalize shareF x.probes (p : Int) k = q5 at *
        have hz12 : (x.id ++ bt).size ≤ 11 := by rw [ByteArray.size_append, hbz]; omega
        have hoky : fGroup.ok ⟨x.id ++ bt, q1, q2, q3, q4, q5, x.skill⟩ := ⟨by show _ ≤ _; simp only; omega, by show _ ∧ _; simp only; omega, by show _ ∧ _; simp only; omega, by show _ ∧ _; simp only; omega, by show _ ∧ _; simp only; omega, by show _ ∧ _; simp only; omega, by show _ ∧ _; simp only; omega⟩
        obtain ⟨c0, c1, c2, c3, c4, c5, c6⟩ := id hP9
        go_wp2_with fail
        refine (implValid_any ⟨x.id ++ bt, q1, q2, q3, q4, q5, x.skill⟩ _ hoky).mono ?_
        rintro e w6 ⟨rfl, hb6⟩
        have hP6 := hP9.below' hb6
        have hb7 := hb32.trans (hb6.mono hb32.size)
        have hown6 : w6.ownsRow w1.heap.size 25 7 u6 (partsF_ x (p : Int) k).length ((partsF_ x (p : Int) k).flatMap fGroup.enc) := hown32.below hb6
        clear hP9 hb32 hb6 hown32 c0 c1 c2 c3 c4 c5 c6
        cases hvy : groupB ⟨x.id ++ bt, q1, q2, q3, q4, q5, x.skill⟩
        · have hbad : (partsF_ x (p : Int) p).all groupB = false := by
            rw [List.all_eq_false]
            refine ⟨partF x (p : Int) k, ?_, by rw [hPF2.out, hvy]; decide⟩
            unfold partsF_
            exact List.mem_map.2 ⟨k, by simpa using hlt, rfl⟩
          have h1 := HC.out
          rw [if_pos hbad] at h1
          have h2 := HF.out
          rw [if_neg (by rw [h1]; decide)] at h2
          have HE := Lib.hid (And.intro h1 h2)
          have hb9 := hB1.trans (hb7.mono (by omega))
          clear h1 h2 hbad HC HF hown6 hvy hb7 hoky
          go_wp2
          go_ret2
          exact ⟨_, by rw [HE.out.1]; rfl, by rw [HE.out.2]; exact Own.nil _ _ _ _, hb9⟩
        obtain ⟨c0, c1, c2, c3, c4, c5, c6⟩ := id hP6
        have hlenP := partsF_len x (p : Int) k
        have hszw := hb7.size
        have hgd2 : ∀ j, j < k + 1 → groupB (partF x (p : Int) j) = true := fun j hj => by
          by_cases e : j = k
          · subst e; rw [hPF2.out]; exact hvy
          · exact hgd j (by omega)
        have hle10 : (partsF_ x (p : Int) k).length ≤ 10 := by omega
        have HL := Lib.hid (show partsF_ x (p : Int) (k + 1) = partsF_ x (p : Int) k ++ [⟨x.id ++ bt, q1, q2, q3, q4, q5, x.skill⟩] by rw [partsF_succ, hPF2.out])
        clear hlenP hgd hvy hoky hP6 hPF2
        generalize partsF_ x (p : Int) k = PL at *
        go_wp2_with (at_builtin; refine wpList_append_one rfl _ _ 28 rfl w1.heap.size 25 i0 (.agg #[.string ⟨#[]⟩, .int .i64 0, .int .i64 0, .int .i64 0, .int .i64 0, .int .i64 0, .int .i64 0]) 7 64 Tryz.underlying28 hi hz0 hz1 hz2 rfl (by decide) u6 PL.length _ rfl hown6 [.string (x.id ++ bt), .int .i64 q1, .int .i64 q2, .int .i64 q3, .int .i64 q4, .int .i64 q5, .int .i64 x.skill] rfl (by intro u hu; simp only [List.mem_cons, List.not_mem_nil, or_false] at hu; rcases hu with rfl | rfl | rfl | rfl | rfl | rfl | rfl <;> rfl) rfl (by omega) (by decide) hszw ?_)
        intro v' u hownU hbu _ _
        have hoD : Own fGroup u w1.heap.size 25 v' (PL ++ [⟨x.id ++ bt, q1, q2, q3, q4, q5, x.skill⟩]) := Own.push _ (by omega) hownU
        have hb9 := hb7.trans hbu
        clear hownU hb7 hbu hown6 c0 c1 c2 c3 c4 c5 c6
        go_wp2
        go_roundw
        case rel => exact ⟨k + 1, by go_num, by omega, by rw [HL.out]; exact hoD, hgd2, hb9⟩
        case measure => simp [intOf]; omega
    · skip
      refine wpMixC_act (by kernel_rfl) (fun K hK => ?_)
      go_big_op
      refine hK _ _ (regrown_of_below (hbr5S.alloc hbr5S.size _)) ?_
      clear hK K
      have hgb := hbr5S.size
      refine mixC_world (fun N => Below wk.heap.size wk N ∧ BxGroup N wr5.heap.size ∧ True) ⟨hbr5S.alloc hbr5S.size _, BxGroup.new _ _, trivial⟩ ?_
      generalize wr5.heap.size = gb at *
      intro w31
      rintro ⟨h31S, hBG, _⟩
      refine wpMixC_act (by kernel_rfl) (fun K hK => ?_)
      go_big_op
      refine hK _ _ (regrown_of_below (h31S.alloc h31S.size _)) ?_
      clear hK K
      have hsb := h31S.size
      refine mixC_world (fun N => Below wk.heap.size wk N ∧ N.cell? ⟨w31.heap.size, 0, none⟩ = some (.int .u8 (97 + (k : Int))) ∧ BxGroup N gb) ⟨h31S.alloc h31S.size _, by simp, hBG.belowB ((Below.refl _ _).alloc (Nat.le_refl _) _) hBG.lt⟩ ?_
      generalize w31.heap.size = sb at *
      intro w5
      rintro ⟨h5S, h5F, hBG⟩
      refine wpMixC_act (by kernel_rfl) (fun K hK => ?_)
      have hcv : (convert 22 9 (.slice (some ⟨sb, 0, none⟩) 1 1)).run Tryz.prog w5 = .ok (.string bt) w5 := by
        have h := run_convert_bytes_arg (P := Tryz.prog) w5 22 5 Tryz.underlying22 Tryz.underlying5 sb 0 1 1 [97 + (k : Int)] rfl (fun i hi => by (obtain rfl : i = 0 := by omega); exact h5F) 9 Tryz.underlying9
        rw [show strOfNums [97 + (k : Int)] = bt from hbt.out.symm] at h
        exact h
      go_big_op
      refine hK _ _ (regrown_of_below h5S) ?_
      clear hK K hcv h5F
      refine wpMixC_look (by kernel_rfl) (fun K hK => ?_)
      go_big_quiet_op
      refine hK _ ?_; clear hK K
      refine wpMixC_look (by kernel_rfl) (fun K hK => ?_)
      go_big_quiet_op
      refine hK _ ?_; clear hK K
      refine wpMixC_act (by kernel_rfl) (fun K hK => ?_)
      obtain ⟨d0, d1, d2, d3, d4, d5, d6, z0, z1, z2, z3, z4, z5, z6⟩ := id hBG
      go_big_op
      have h32S : Below wk.heap.size wk ((((((((((((((w5).setCell ⟨gb, 0, none⟩ (.string (x.id ++ bt)))).setCell ⟨gb, 1, none⟩ (.int .i64 (shareF x.people (p : Int) k)))).setCell ⟨gb, 2, none⟩ (.int .i64 (shareF x.guides (p : Int) k)))).setCell ⟨gb, 3, none⟩ (.int .i64 (shareF x.beacons (p : Int) k)))).setCell ⟨gb, 4, none⟩ (.int .i64 (shareF x.shovels (p : Int) k)))).setCell ⟨gb, 5, none⟩ (.int .i64 (shareF x.probes (p : Int) k)))).setCell ⟨gb, 6, none⟩ (.int .i64 x.skill)) := (((((((h5S.setCell (p := ⟨gb, 0, none⟩) hgb _).setCell (p := ⟨gb, 1, none⟩) hgb _).setCell (p := ⟨gb, 2, none⟩) hgb _).setCell (p := ⟨gb, 3, none⟩) hgb _).setCell (p := ⟨gb, 4, none⟩) hgb _).setCell (p := ⟨gb, 5, none⟩) hgb _).setCell (p := ⟨gb, 6, none⟩) hgb _)
      have hP9 : PGroup ((((((((((((((w5).setCell ⟨gb, 0, none⟩ (.string (x.id ++ bt)))).setCell ⟨gb, 1, none⟩ (.int .i64 (shareF x.people (p : Int) k)))).setCell ⟨gb, 2, none⟩ (.int .i64 (shareF x.guides (p : Int) k)))).setCell ⟨gb, 3, none⟩ (.int .i64 (shareF x.beacons (p : Int) k)))).setCell ⟨gb, 4, none⟩ (.int .i64 (shareF x.shovels (p : Int) k)))).setCell ⟨gb, 5, none⟩ (.int .i64 (shareF x.probes (p : Int) k)))).setCell ⟨gb, 6, none⟩ (.int .i64 x.skill)) gb 0 ⟨x.id ++ bt, shareF x.people (p : Int) k, shareF x.guides (p : Int) k, shareF x.beacons (p : Int) k, shareF x.shovels (p : Int) k, shareF x.probes (p : Int) k, x.skill⟩ := ((((((((show PGroup w5 gb 0 ⟨⟨#[]⟩, 0, 0, 0, 0, 0, 0⟩ from ⟨hBG.d0, hBG.d1, hBG.d2, hBG.d3, hBG.d4, hBG.d5, hBG.d6⟩).vset0 (x.id ++ bt)).vset1 (shareF x.people (p : Int) k)).vset2 (shareF x.guides (p : Int) k)).vset3 (shareF x.beacons (p : Int) k)).vset4 (shareF x.shovels (p : Int) k)).vset5 (shareF x.probes (p : Int) k)).vset6 x.skill)
      refine hK _ _ (regrown_of_below h32S) ?_
      clear hK K d0 d1 d2 d3 d4 d5 d6 z0 z1 z2 z3 z4 z5 z6 hBG
      revert h32S hP9
      generalize ((((((((((((((w5).setCell ⟨gb, 0, none⟩ (.string (x.id ++ bt)))).setCell ⟨gb, 1, none⟩ (.int .i64 (shareF x.people (p : Int) k)))).setCell ⟨gb, 2, none⟩ (.int .i64 (shareF x.guides (p : Int) k)))).setCell ⟨gb, 3, none⟩ (.int .i64 (shareF x.beacons (p : Int) k)))).setCell ⟨gb, 4, none⟩ (.int .i64 (shareF x.shovels (p : Int) k)))).setCell ⟨gb, 5, none⟩ (.int .i64 (shareF x.probes (p : Int) k)))).setCell ⟨gb, 6, none⟩ (.int .i64 x.skill)) = w32
      intro h32S hP9
      refine wpMixC_nil ?_
      have hPF : partF x (p : Int) k = ⟨x.id ++ bt, shareF x.people (p : Int) k, shareF x.guides (p : Int) k, shareF x.beacons (p : Int) k, shareF x.shovels (p : Int) k, shareF x.probes (p : Int) k, x.skill⟩ := by
        have e := hbt.out
        have e2 : (97 + (k : Int)).toNat = 97 + k := by omega
        rw [e2] at e
        unfold partF; rw [← e]
      have hshr : ∀ n : Int, 0 ≤ n ∧ n ≤ 30 → 0 ≤ shareF n (p : Int) k ∧ shareF n (p : Int) k ≤ 30 := fun n hn => ⟨share_nn hn.1 (by omega) k, share_le hn.1 hn.2 (by omega) k⟩
      have b1 := hshr x.people (by omega)
      have b2 := hshr x.guides (by omega)
      have b3 := hshr x.beacons (by omega)
      have b4 := hshr x.shovels (by omega)
      have b5 := hshr x.probes (by omega)
      have hPF2 := Lib.hid hPF
      clear hshr gc0 gc1 gc2 gc3 gc4 gc5 gc6 gck gcp hPF ck cp c0 c1 c2 c3 c4 c5 c6 hS0 hpk
      have hb32 := hbk2.trans (h32S.mono hbk2.size)
      have hown32 := hown2.below h32S
      clear hown2 h32S hbk2
      generalize shareF x.people (p : Int) k = q1 at *
      generalize shareF x.guides (p : Int) k = q2 at *
      generalize shareF x.beacons (p : Int) k = q3 at *
      generalize shareF x.shovels (p : Int) k = q4 at *
      generalize shareF x.probes (p : Int) k = q5 at *
      have hz12 : (x.id ++ bt).size ≤ 11 := by rw [ByteArray.size_append, hbz]; omega
      have hoky : fGroup.ok ⟨x.id ++ bt, q1, q2, q3, q4, q5, x.skill⟩ := ⟨by show _ ≤ _; simp only; omega, by show _ ∧ _; simp only; omega, by show _ ∧ _; simp only; omega, by show _ ∧ _; simp only; omega, by show _ ∧ _; simp only; omega, by show _ ∧ _; simp only; omega, by show _ ∧ _; simp only; omega⟩
      obtain ⟨c0, c1, c2, c3, c4, c5, c6⟩ := id hP9
      go_wp2_with fail
      refine (implValid_any ⟨x.id ++ bt, q1, q2, q3, q4, q5, x.skill⟩ _ hoky).mono ?_
      rintro e w6 ⟨rfl, hb6⟩
      have hP6 := hP9.below' hb6
      have hb7 := hb32.trans (hb6.mono hb32.size)
      have hown6 : w6.ownsRow w1.heap.size 25 7 u6 (partsF_ x (p : Int) k).length ((partsF_ x (p : Int) k).flatMap fGroup.enc) := hown32.below hb6
      clear hP9 hb32 hb6 hown32 c0 c1 c2 c3 c4 c5 c6
      cases hvy : groupB ⟨x.id ++ bt, q1, q2, q3, q4, q5, x.skill⟩
      · have hbad : (partsF_ x (p : Int) p).all groupB = false := by
          rw [List.all_eq_false]
          refine ⟨partF x (p : Int) k, ?_, by rw [hPF2.out, hvy]; decide⟩
          unfold partsF_
          exact List.mem_map.2 ⟨k, by simpa using hlt, rfl⟩
        have h1 := HC.out
        rw [if_pos hbad] at h1
        have h2 := HF.out
        rw [if_neg (by rw [h1]; decide)] at h2
        have HE := Lib.hid (And.intro h1 h2)
        have hb9 := hB1.trans (hb7.mono (by omega))
        clear h1 h2 hbad HC HF hown6 hvy hb7 hoky
        go_wp2
        go_ret2
        exact ⟨_, by rw [HE.out.1]; rfl, by rw [HE.out.2]; exact Own.nil _ _ _ _, hb9⟩
      obtain ⟨c0, c1, c2, c3, c4, c5, c6⟩ := id hP6
      have hlenP := partsF_len x (p : Int) k
      have hszw := hb7.size
      have hgd2 : ∀ j, j < k + 1 → groupB (partF x (p : Int) j) = true := fun j hj => by
        by_cases e : j = k
        · subst e; rw [hPF2.out]; exact hvy
        · exact hgd j (by omega)
      have hle10 : (partsF_ x (p : Int) k).length ≤ 10 := by omega
      have HL := Lib.hid (show partsF_ x (p : Int) (k + 1) = partsF_ x (p : Int) k ++ [⟨x.id ++ bt, q1, q2, q3, q4, q5, x.skill⟩] by rw [partsF_succ, hPF2.out])
      clear hlenP hgd hvy hoky hP6 hPF2
      generalize partsF_ x (p : Int) k = PL at *
      go_wp2_with (at_builtin; refine wpList_append_one rfl _ _ 28 rfl w1.heap.size 25 i0 (.agg #[.string ⟨#[]⟩, .int .i64 0, .int .i64 0, .int .i64 0, .int .i64 0, .int .i64 0, .int .i64 0]) 7 64 Tryz.underlying28 hi hz0 hz1 hz2 rfl (by decide) u6 PL.length _ rfl hown6 [.string (x.id ++ bt), .int .i64 q1, .int .i64 q2, .int .i64 q3, .int .i64 q4, .int .i64 q5, .int .i64 x.skill] rfl (by intro u hu; simp only [List.mem_cons, List.not_mem_nil, or_false] at hu; rcases hu with rfl | rfl | rfl | rfl | rfl | rfl | rfl <;> rfl) rfl (by omega) (by decide) hszw ?_)
      intro v' u hownU hbu _ _
      have hoD : Own fGroup u w1.heap.size 25 v' (PL ++ [⟨x.id ++ bt, q1, q2, q3, q4, q5, x.skill⟩]) := Own.push _ (by omega) hownU
      have hb9 := hb7.trans hbu
      clear hownU hb7 hbu hown6 c0 c1 c2 c3 c4 c5 c6
      go_wp2
      go_roundw
      case rel => exact ⟨k + 1, by go_num, by omega, by rw [HL.out]; exact hoD, hgd2, hb9⟩
      case measure => simp [intOf]; omega

end Go.Proofs.YtdpeffaplkbkgaaGreatDoor

namespace Go.Proofs.YtdpeffaplkbkgaaGreatDoor
open Go.RowKit
section
variable {P : Program} {ops : Array Oper} {Q : Exit → Act → World → Prop} {md : Region.Mode} {C : World → Prop} {t : Nat}

/-- Whichever comes up: behind each but number 't' the class holds. -/
def wpSink (P : Program) (md : Region.Mode) (ops : Array Oper) (Q : Exit → Act → World → Prop) (C : World → Prop) (t : Nat) : Nat → Array Bool → Act → World → Prop
  | 0, L, a, w => Region.ready md ops L = [] ∧ Q .normal a w
  | n + 1, L, a, w => (Region.ready md ops L = [] → Q .normal a w) ∧ ∀ i, i ∈ Region.ready md ops L → wpOp P ops Q i (fun b v => (i ≠ t → C v) ∧ wpSink P md ops Q C t n (L.setIfInBounds i true) b v) a w
theorem any_of_sink : ∀ (n : Nat) (L : Array Bool) (a : Act) (w : World), wpSink P md ops Q C t n L a w → wpAny P md ops Q n L a w
  | 0, _, _, _, h => h
  | n + 1, _, _, _, h => And.intro h.1 fun i hi => wpOp_mono (fun b v g => any_of_sink n _ b v g.2) (h.2 i hi)
/-- Does number 't' wait for number 'i'? -/
def waitsOn (md : Region.Mode) (ops : Array Oper) (t i : Nat) : Bool := match ops[t]? with | some o => o.after.any (fun e => Region.binds md e && e.on == i) | none => false
theorem waitsOn_not {i : Nat} {L : Array Bool} (hw : waitsOn md ops t i = true) (hi : L.getD i true = false) : t ∉ Region.ready md ops L := by
  intro ht
  obtain ⟨_, o, ho, hall⟩ := mem_ready.1 ht
  unfold waitsOn at hw
  rw [ho] at hw
  simp only at hw
  obtain ⟨e, he, hb⟩ := Array.any_eq_true'.1 hw
  simp only [Bool.and_eq_true, beq_iff_eq] at hb
  have h1 := hall e he hb.1
  rw [hb.2] at h1
  rcases Nat.lt_or_ge i L.size with h' | h'
  · simp [h'] at hi h1; rw [hi] at h1; cases h1
  · simp [Array.getElem?_eq_none h'] at h1
/-- Does number 't' wait for number 'i', or for one that is not listed yet and that waits for 'i'? -/
def waitsBy (md : Region.Mode) (ops : Array Oper) (t i : Nat) (L : Array Bool) : Bool := waitsOn md ops t i || (List.range ops.size).any fun j => waitsOn md ops t j && waitsOn md ops j i && !(L.getD j true)
theorem waitsBy_not {i : Nat} {L : Array Bool} (hw : waitsBy md ops t i L = true) (hi : L.getD i true = false) : t ∉ Region.ready md ops L := by
  unfold waitsBy at hw
  rw [Bool.or_eq_true] at hw
  rcases hw with hw | hw
  · exact waitsOn_not hw hi
  · obtain ⟨j, _, hj⟩ := List.any_eq_true.1 hw
    simp only [Bool.and_eq_true, Bool.not_eq_true'] at hj
    exact waitsOn_not hj.1.1 hj.2
theorem waitsBy_keep {i k : Nat} {L : Array Bool} (hw : waitsBy md ops t i L = true) (hi : L.getD i true = false) (hk : k ∈ Region.ready md ops L) : waitsBy md ops t i (L.setIfInBounds k true) = true := by
  unfold waitsBy at hw ⊢
  rw [Bool.or_eq_true] at hw ⊢
  rcases hw with hw | hw
  · exact .inl hw
  · refine .inr ?_
    obtain ⟨j, hjr, hj⟩ := List.any_eq_true.1 hw
    refine List.any_eq_true.2 ⟨j, hjr, ?_⟩
    simp only [Bool.and_eq_true, Bool.not_eq_true'] at hj ⊢
    refine ⟨hj.1, ?_⟩
    have hkj : k ≠ j := fun e => waitsOn_not (t := j) hj.1.2 hi (e ▸ hk)
    rw [getD_set_ne true hkj]
    exact hj.2
theorem sink_first {i : Nat} {o : Oper} {v : Value} (ho : ops[i]? = some o) (hs : Region.noSelect ops = true) (hit : i ≠ t)
    (hQ : ∀ c a w, Q (.panic c) (a.put o.dst v) w → Q (.panic c) a w) : ∀ (n : Nat) (L : Array Bool) (a : Act) (w : World),
      (∀ j p, ops[j]? = some p → j ≠ i → L.getD j true = false → (∀ e ∈ p.after, Region.binds md e = true → e.on ≠ i) → o.apart ops p = true) →
      waitsBy md ops t i L = true → i ∈ Region.ready md ops L → YieldsIf P ops C o v a → C w → wpSink P md ops Q C t n (L.setIfInBounds i true) (a.put o.dst v) w → wpSink P md ops Q C t (n + 1) L a w := by
  intro n
  induction n with
  | zero =>
    intro L a w _ _ hr hy hC H
    constructor
    · intro h; rw [h] at hr; exact absurd hr List.not_mem_nil
    · intro j hj
      rcases Decidable.em (j = i) with rfl | e
      · exact hy.wpOp ho hC ⟨fun _ => hC, H⟩
      · have h2 := ready_mono hj e
        rw [H.1] at h2
        exact absurd h2 List.not_mem_nil
  | succ n ih =>
    intro L a w hf hwt hr hy hC H
    constructor
    · intro h; rw [h] at hr; exact absurd hr List.not_mem_nil
    · intro j hj
      rcases Decidable.em (j = i) with rfl | e
      · exact hy.wpOp ho hC ⟨fun _ => hC, H⟩
      · have hun := (mem_ready.1 hr).1
        have hjt : j ≠ t := fun h => waitsBy_not hwt hun (h ▸ hj)
        obtain ⟨hju, p, hp, hall⟩ := mem_ready.1 hj
        have hno : ∀ e ∈ p.after, Region.binds md e = true → e.on ≠ i := fun e he hb h => by
          have h1 := hall e he hb
          rw [h] at h1
          rcases Nat.lt_or_ge i L.size with h' | h'
          · simp [h'] at hun h1; rw [hun] at h1; cases h1
          · simp [Array.getElem?_eq_none h'] at h1
        have h2 := wpOp_putIf hp (hf j p hp e hju hno) (fun cs b => Region.noSelect_spec hs i o cs b ho) (fun cs b => Region.noSelect_spec hs j p cs b hp) hQ hy (H.2 j (ready_mono hj e))
        refine wpOp_mono (fun b u g => ?_) h2
        have hCu := g.2.1 hjt
        refine ⟨fun _ => hCu, ih _ b u (fun k q hk hki hku hkn => ?_) (waitsBy_keep hwt hun hj) (ready_mono hr (Ne.symm e)) g.1 hCu ?_⟩
        · refine hf k q hk hki ?_ hkn
          rcases Decidable.em (j = k) with rfl | hjk
          · exact hju
          · rw [getD_set_ne true hjk] at hku; exact hku
        · rw [Array.setIfInBounds_comm _ _ e]
          exact g.2.2

def wpMixS (P : Program) (ops : Array Oper) (Q : Exit → Act → World → Prop) (C : World → Prop) : List Bool → List Oper → Act → World → Prop
  | _, [], a, w => Q .normal a w
  | [], _ :: _, _, _ => False
  | true :: ks, o :: l, a, w => if Region.wanted o (yielded ops a.tmps) then o.quiet P a C (fun a' => wpMixS P ops Q C ks l a' w) else wpMixS P ops Q C ks l (a.put o.dst undef) w
  | false :: ks, o :: l, a, w => if Region.wanted o (yielded ops a.tmps) then o.wp P a w (fun a' w' => (l ≠ [] → C w') ∧ wpMixS P ops Q C ks l a' w') Q else wpMixS P ops Q C ks l (a.put o.dst undef) w
def mixSB (md : Region.Mode) (ops : Array Oper) (t : Nat) : List Nat → List Bool → Array Bool → Bool
  | [], _, L => (Region.ready md ops L).isEmpty
  | i :: is, true :: ks, L => (Region.ready md ops L).contains i && Region.free md ops L i && ((ops[i]?).map valueOnly).getD false && !(i == t) && waitsBy md ops t i L && mixSB md ops t is ks (L.setIfInBounds i true)
  | i :: is, false :: ks, L => (Region.ready md ops L == [i]) && (is.isEmpty == (i == t)) && mixSB md ops t is ks (L.setIfInBounds i true)
  | _ :: _, [], _ => false
theorem sink_of_mix (hs : Region.noSelect ops = true) (hQ : ∀ (c : _) (a : Act) (d : Option Tmp) (v : Value) (w : World), Q (.panic c) (a.put d v) w → Q (.panic c) a w) :
    ∀ (is : List Nat) (ks : List Bool) (l : List Oper) (L : Array Bool) (a : Act) (w : World), (∀ j : Nat, l[j]? = (is[j]?).bind (fun i => ops[i]?)) → l.length = is.length →
      mixSB md ops t is ks L = true → (l ≠ [] → C w) → wpMixS P ops Q C ks l a w → wpSink P md ops Q C t is.length L a w := by
  intro is
  induction is with
  | nil =>
    intro ks l L a w _ hn hB _ h
    obtain rfl : l = [] := List.eq_nil_of_length_eq_zero hn
    have h' : Q .normal a w := by cases ks <;> exact h
    exact ⟨by simpa [mixSB] using hB, h'⟩
  | cons i is ih =>
    intro ks l L a w hl hn hB hC h
    cases l with
    | nil => simp at hn
    | cons o l =>
      have hC := hC (by simp)
      have ho : ops[i]? = some o := by simpa using (hl 0).symm
      have hl' : ∀ j : Nat, l[j]? = (is[j]?).bind (fun i => ops[i]?) := fun j => by simpa using hl (j + 1)
      have hn' : l.length = is.length := by simpa using hn
      cases ks with
      | nil => simp [mixSB] at hB
      | cons k ks =>
        cases k with
        | true =>
          simp only [mixSB, Bool.and_eq_true, ho, Option.map_some, Option.getD_some, Bool.not_eq_true', beq_eq_false_iff_ne] at hB
          obtain ⟨⟨⟨⟨⟨hr, hf⟩, hv⟩, hit⟩, hwt⟩, hB'⟩ := hB
          simp only [wpMixS] at h
          have hr' : i ∈ Region.ready md ops L := by simpa using hr
          by_cases hw : Region.wanted o (yielded ops a.tmps) = true
          · rw [if_pos hw] at h
            obtain ⟨v, h1, h2⟩ := yieldsIf_of_quiet hv h
            exact sink_first ho hs hit (fun c a w => hQ c a _ _ w) _ L a w (Region.free_spec ho hf) hwt hr' (.inl ⟨hw, h1⟩) hC (ih ks l _ _ w hl' hn' hB' (fun _ => hC) h2)
          · rw [if_neg hw] at h
            exact sink_first ho hs hit (fun c a w => hQ c a _ _ w) _ L a w (Region.free_spec ho hf) hwt hr' (.inr ⟨by simpa using hw, rfl⟩) hC (ih ks l _ _ w hl' hn' hB' (fun _ => hC) h)
        | false =>
          simp only [mixSB, Bool.and_eq_true, beq_iff_eq] at hB
          obtain ⟨⟨hr, he⟩, hB'⟩ := hB
          simp only [wpMixS] at h
          have hlt : i ≠ t → l ≠ [] := fun hne hl0 => by
            subst hl0
            have : is = [] := List.eq_nil_of_length_eq_zero hn'.symm
            rw [this] at he
            exact hne (by simpa using he.symm)
          refine ⟨fun h0 => by rw [h0] at hr; simp at hr, fun j hj => ?_⟩
          rw [hr, List.mem_singleton] at hj
          subst hj
          unfold wpOp
          simp only [ho]
          by_cases hw : Region.wanted o (yielded ops a.tmps) = true
          · rw [if_pos hw] at h ⊢
            exact .inl (Oper.wp_mono (fun a' w' hh => ⟨fun hne => hh.1 (hlt hne), ih ks l _ a' w' hl' hn' hB' hh.1 hh.2⟩) h)
          · rw [if_neg hw] at h ⊢
            exact ⟨fun _ => hC, ih ks l _ _ w hl' hn' hB' (fun _ => hC) h⟩
structure MixS (P : Program) (ops : Array Oper) (Q : Exit → Act → World → Prop) (C : World → Prop) (ks : List Bool) (l : List Oper) (a : Act) (w : World) : Prop where
  out : wpMixS P ops Q C ks l a w
theorem wp_region_sink {id : Nat} {l : List Oper} {a : Act} {w : World} (is : List Nat) (ks : List Bool) (t : Nat) (hm : P.follows .mixedOrders = true) (hs : Region.noSelect l.toArray = true)
    (hB : (is.all (fun i => decide (i < l.length)) && decide (is.length = l.length) && mixSB .any l.toArray t is ks (Array.replicate l.length false)) = true)
    (hQ : ∀ (c : _) (a : Act) (d : Option Tmp) (v : Value) (w : World), Q (.panic c) (a.put d v) w → Q (.panic c) a w) (hC : C w.drew) (h : MixS P l.toArray Q C ks (is.map fun i => l.getD i default) a w.drew) : (Code.region id l.toArray true).wp P Q a w := by
  simp only [Bool.and_eq_true, decide_eq_true_eq, List.all_eq_true] at hB
  obtain ⟨⟨h1, h2⟩, h3⟩ := hB
  refine wp_region_any hm (any_of_sink (C := C) (t := t) _ _ _ _ ?_)
  have := sink_of_mix (md := .any) hs hQ is ks (is.map fun i => l.getD i default) (Array.replicate l.length false) a w.drew (fun j => by
    rw [List.getElem?_map]
    cases hj : is[j]? with
    | none => rfl
    | some i =>
      have hi := h1 i (List.mem_of_getElem? hj)
      simp [hi, List.getD_eq_getElem?_getD]) (by simp) h3 (fun _ => hC) h.out
  rw [h2] at this
  simpa using this
theorem wpMixS_pure {ks : List Bool} {o : Oper} {l : List Oper} {a : Act} {w : World} (hw : Region.wanted o (yielded ops a.tmps) = true)
    (h : ∀ K : Act → Prop, (∀ a', MixS P ops Q C ks l a' w → K a') → o.quiet P a C K) : MixS P ops Q C (true :: ks) (o :: l) a w := by
  refine ⟨?_⟩
  simp only [wpMixS]; rw [if_pos hw]; exact h _ fun _ h => h.out
theorem wpMixS_skip {k : Bool} {ks : List Bool} {o : Oper} {l : List Oper} {a : Act} {w : World} (hw : Region.wanted o (yielded ops a.tmps) = false)
    (h : ∀ K : Act → Prop, (∀ a', MixS P ops Q C ks l a' w → K a') → K (a.put o.dst undef)) : MixS P ops Q C (k :: ks) (o :: l) a w := by
  have h' : wpMixS P ops Q C ks l (a.put o.dst undef) w := h _ fun _ h => h.out
  refine ⟨?_⟩
  cases k <;> (simp only [wpMixS]; rw [if_neg (by rw [hw]; exact Bool.false_ne_true)]; exact h')
theorem wpMixS_act {ks : List Bool} {o : Oper} {l : List Oper} {a : Act} {w : World} (hw : Region.wanted o (yielded ops a.tmps) = true)
    (h : ∀ K : Act → World → Prop, (∀ a' w', C w' → MixS P ops Q C ks l a' w' → K a' w') → o.wp P a w K Q) : MixS P ops Q C (false :: ks) (o :: l) a w := by
  refine ⟨?_⟩
  simp only [wpMixS]; rw [if_pos hw]; exact h _ fun _ _ hc h => ⟨fun _ => hc, h.out⟩
theorem wpMixS_last {ks : List Bool} {o : Oper} {a : Act} {w : World} (hw : Region.wanted o (yielded ops a.tmps) = true)
    (h : ∀ K : Act → World → Prop, (∀ a' w', Q .normal a' w' → K a' w') → o.wp P a w K Q) : MixS P ops Q C (false :: ks) [o] a w := by
  refine ⟨?_⟩
  simp only [wpMixS]; rw [if_pos hw]; exact h _ fun _ _ hq => ⟨fun h0 => absurd rfl h0, by cases ks <;> exact hq⟩
theorem mixS_world {ks : List Bool} {l : List Oper} {a : Act} {w : World} (X : World → Prop) (hX : X w) (h : ∀ N, X N → MixS P ops Q C ks l a N) : MixS P ops Q C ks l a w := h w hX
end
end Go.Proofs.YtdpeffaplkbkgaaGreatDoor

namespace Go.Proofs.YtdpeffaplkbkgaaGreatDoor
open Go.RowKit
set_option linter.unusedVariables false

set_option linter.unusedSimpArgs false
structure Sh3 (w : World) (b : Nat) (a0 a1 a2 : Int) : Prop where
  c0 : w.cell? ⟨b, 0, none⟩ = some (.int .i64 a0)
  c1 : w.cell? ⟨b, 1, none⟩ = some (.int .i64 a1)
  c2 : w.cell? ⟨b, 2, none⟩ = some (.int .i64 a2)
  z : ∀ j, w.frozen? ⟨b, j, none⟩ = false
theorem Sh3.lt {w : World} {b : Nat} {a0 a1 a2 : Int} (h : Sh3 w b a0 a1 a2) : b < w.heap.size := block_lt_of_cell h.c0
theorem Sh3.below {w w' : World} {b B : Nat} {a0 a1 a2 : Int} (h : Sh3 w b a0 a1 a2) (hb : Below B w w') (hB : b < B) : Sh3 w' b a0 a1 a2 :=
  ⟨(World.cell?_of_block (a := ⟨b, _, none⟩) (hb.block b hB)).trans h.c0, (World.cell?_of_block (a := ⟨b, _, none⟩) (hb.block b hB)).trans h.c1, (World.cell?_of_block (a := ⟨b, _, none⟩) (hb.block b hB)).trans h.c2, fun j => (hb.frozen (p := ⟨b, j, none⟩) hB).trans (h.z j)⟩
theorem Sh3.new (w : World) (T : TypeId) : Sh3 (w.alloc (.cells #[.int .i64 0, .int .i64 0, .int .i64 0] T)) w.heap.size 0 0 0 :=
  ⟨by simp, by simp, by simp, fun j => World.frozen?_alloc_at _ _ _ _ rfl⟩
theorem Sh3.set0 {w : World} {b : Nat} {a0 a1 a2 : Int} (h : Sh3 w b a0 a1 a2) (c : Int) : Sh3 (w.setCell ⟨b, 0, none⟩ (.int .i64 c)) b c a1 a2 :=
  ⟨World.cell?_setCell_same _ _ _ h.c0, (World.cell?_setCell_other _ _ _ _ (by simp)).trans h.c1, (World.cell?_setCell_other _ _ _ _ (by simp)).trans h.c2, fun j => (frozen?_setCell _ _ _ _).trans (h.z j)⟩
theorem Sh3.set1 {w : World} {b : Nat} {a0 a1 a2 : Int} (h : Sh3 w b a0 a1 a2) (c : Int) : Sh3 (w.setCell ⟨b, 1, none⟩ (.int .i64 c)) b a0 c a2 :=
  ⟨(World.cell?_setCell_other _ _ _ _ (by simp)).trans h.c0, World.cell?_setCell_same _ _ _ h.c1, (World.cell?_setCell_other _ _ _ _ (by simp)).trans h.c2, fun j => (frozen?_setCell _ _ _ _).trans (h.z j)⟩
theorem Sh3.set2 {w : World} {b : Nat} {a0 a1 a2 : Int} (h : Sh3 w b a0 a1 a2) (c : Int) : Sh3 (w.setCell ⟨b, 2, none⟩ (.int .i64 c)) b a0 a1 c :=
  ⟨(World.cell?_setCell_other _ _ _ _ (by simp)).trans h.c0, (World.cell?_setCell_other _ _ _ _ (by simp)).trans h.c1, World.cell?_setCell_same _ _ _ h.c2, fun j => (frozen?_setCell _ _ _ _).trans (h.z j)⟩
def kitK (x : DGroup) : Nat → Int
  | 0 => x.beacons
  | 1 => x.shovels
  | _ => x.probes
def shT (xs : List DGroup) (j : Nat) : Nat → Int
  | 0 => 0
  | i + 1 => shT xs j i + ((xs.getD i ⟨⟨#[]⟩, 0, 0, 0, 0, 0, 0⟩).people - kitK (xs.getD i ⟨⟨#[]⟩, 0, 0, 0, 0, 0, 0⟩) j)
theorem kitK_in {x : DGroup} (h : groupB x = true) (j : Nat) : 0 ≤ kitK x j ∧ kitK x j ≤ 30 := by
  obtain ⟨_, _, _, h4, h5, h6, _⟩ := groupB_bounds h
  unfold kitK; split <;> omega
theorem shT_in {xs : List DGroup} (hv : groupsB xs = true) (j : Nat) : ∀ i, i ≤ xs.length → -30 * (i : Int) ≤ shT xs j i ∧ shT xs j i ≤ 30 * (i : Int)
  | 0, _ => by unfold shT; omega
  | i + 1, h => by
    have ih := shT_in hv j i (by omega)
    have hg := groupsB_one hv (show i < xs.length by omega)
    have h1 := (groupB_bounds hg).2.1
    have h2 := kitK_in hg j
    unfold shT
    rw [getD_lt (by omega)]
    omega
theorem shT_sum (xs : List DGroup) (j : Nat) : ∀ i, i ≤ xs.length → shT xs j i = shortS (fun x => kitK x j) (xs.take i)
  | 0, _ => by unfold shT shortS; simp
  | i + 1, h => by
    have hlt : i < xs.length := by omega
    have ih := shT_sum xs j i (by omega)
    rw [shT, ih, getD_lt hlt, List.take_succ_eq_append_getElem hlt]
    unfold shortS
    rw [List.map_append]
    have key : ∀ (a b : List Int), (a ++ b).sum = a.sum + b.sum := fun a b => by
      induction a with
      | nil => simp
      | cons x a ih => simp only [List.cons_append, List.sum_cons, ih]; omega
    rw [key]; simp
def kitC (xs : List DGroup) : Int := if groupsB xs then 0 else 1
def kitV (xs : List DGroup) : Int := if groupsB xs then kitS xs else 0
theorem kitS_eq (xs : List DGroup) : kitS xs = max (shT xs 0 xs.length) 0 + max (shT xs 1 xs.length) 0 + max (shT xs 2 xs.length) 0 := by
  rw [shT_sum xs 0 _ (Nat.le_refl _), shT_sum xs 1 _ (Nat.le_refl _), shT_sum xs 2 _ (Nat.le_refl _), List.take_length]
  rfl
set_option maxRecDepth 100000 in
set_option maxHeartbeats 8000000 in
theorem implKitShort_any (v : Value) (xs : List DGroup) (fp : List Nat) (w : World) (hx : Sl fGroup.cod w v xs fp) :
    Calls Tryz.prog 11 #[v] w fun e w' => e = .returned (.tuple #[.int .i64 (kitV xs), .int .i64 (kitC xs)]) ∧ Below w.heap.size w w' := by
  obtain ⟨A, cap, rfl, hlen, hcap⟩ := hx.form
  go_enter Tryz.func11, Tryz.ntmps11
  go_wp2_with fail
  refine (validGroups_any _ xs fp _ hx).mono ?_
  rintro e w1 ⟨rfl, hb1⟩
  have hx1 := hx.below' hb1
  cases hv : groupsB xs
  · have HE := Lib.hid (show kitV xs = 0 ∧ kitC xs = 1 by unfold kitV kitC; rw [hv]; exact ⟨rfl, rfl⟩)
    go_wp2
    go_ret2
    exact ⟨by rw [HE.out.1, HE.out.2]; rfl, hb1⟩
  have HE := Lib.hid (show kitV xs = kitS xs ∧ kitC xs = 0 by unfold kitV kitC; rw [hv]; exact ⟨rfl, rfl⟩)
  have hl8 := groupsB_len hv
  have hB1 := hb1.size
  have hS0 := Sh3.new w1 68
  have hA0 : Below w1.heap.size w1 (w1.alloc (.cells #[.int .i64 0, .int .i64 0, .int .i64 0] 68)) := (Below.refl _ _).alloc (Nat.le_refl _) _
  clear hx
  go_wp2
  go_loopw [14] (fun iv wr => ∃ i : Nat, iv = .int .i64 i ∧ i ≤ xs.length ∧ Sh3 wr w1.heap.size (shT xs 0 i) (shT xs 1 i) (shT xs 2 i) ∧ Below w1.heap.size w1 wr) (fun iv _ => xs.length - (intOf iv).toNat)
  case atStart => exact ⟨0, rfl, Nat.zero_le _, hS0, hA0⟩
  case round =>
    clear hS0 hA0
    obtain ⟨i, rfl, hi, hS, hb⟩ := hrel
    rename World => wo
    have hi0 := shT_in hv 0 i hi
    have hi1 := shT_in hv 1 i hi
    have hi2 := shT_in hv 2 i hi
    by_cases hlt : i < xs.length
    · obtain ⟨bb, off, rfl, _, _, hp⟩ := PGroup.elem (hx1.below' hb) hlt
      have hg := groupsB_one hv hlt
      have HN : ∀ j, shT xs j (i + 1) = shT xs j i + (xs[i].people - kitK xs[i] j) := fun j => by rw [shT, getD_lt hlt]
      have H0 := Lib.hid (HN 0)
      have H1 := Lib.hid (HN 1)
      have H2 := Lib.hid (HN 2)
      clear HN
      obtain ⟨_, hpe, _, hbe, hsh, hpr, _⟩ := groupB_bounds hg
      clear hg
      have hlt9 : (i : Int) < (xs.length : Int) := by omega
      generalize xs[i] = x at *
      generalize shT xs 0 i = t0 at *
      generalize shT xs 1 i = t1 at *
      generalize shT xs 2 i = t2 at *
      obtain ⟨c0, c1, c2, c3, c4, c5, c6⟩ := id hp
      have hpx := PGroup.box wo x 25
      have hbA : Below wo.heap.size wo (wo.alloc (.cells #[.string x.id, .int .i64 x.people, .int .i64 x.guides, .int .i64 x.beacons, .int .i64 x.shovels, .int .i64 x.probes, .int .i64 x.skill] 25)) := (Below.refl _ _).alloc (Nat.le_refl _) _
      have hlw := hS.lt
      go_wp2_with fail
      refine (kit_any _ _ x _ hpx).mono ?_
      rintro e w2 ⟨rfl, hb2⟩
      have hp2 := hpx.below' hb2
      have hb3 : Below wo.heap.size wo w2 := hbA.trans (hb2.mono (by simp))
      have hS2 := hS.below hb3 hlw
      have hb4 := hb.trans (hb3.mono hb.size)
      clear hp hpx hbA hb2 hb3 c0 c1 c2 c3 c4 c5 c6 hS hb
      have e0 := ix_p0
      have e1 := ix_p1
      have e2 := ix_p2
      go_wp2
      go_loopw [19] (fun kv wi => ∃ k : Nat, kv = .int .i64 k ∧ k ≤ 3 ∧ PGroup wi wo.heap.size 0 x ∧ Sh3 wi w1.heap.size (if 0 < k then t0 + (x.people - x.beacons) else t0) (if 1 < k then t1 + (x.people - x.shovels) else t1) (if 2 < k then t2 + (x.people - x.probes) else t2) ∧ Below w1.heap.size w1 wi) (fun kv _ => 3 - (intOf kv).toNat)
      case atStart => exact ⟨0, rfl, by omega, hp2, by simpa using hS2, hb4⟩
      case round =>
        clear hp2 hS2 hb4
        obtain ⟨k, rfl, hk, hpi, hSi, hbi⟩ := hrel
        rename World => wi
        have hk4 : k = 0 ∨ k = 1 ∨ k = 2 ∨ k = 3 := by omega
        rcases hk4 with rfl | rfl | rfl | rfl
        · skip
          obtain ⟨c0, c1, c2, c3, c4, c5, c6⟩ := id hpi
          obtain ⟨s0, s1, s2, sz⟩ := id hSi
          have z0 := sz 0
          clear sz
          try simp only [Nat.not_lt_zero, if_false, Nat.lt_irrefl, if_true, Nat.zero_lt_one, Nat.zero_lt_two, Nat.one_lt_two, Nat.lt_succ_self] at *
          go_wp2
          have gc1 := cell_regrown c1
          have gc3 := cell_regrown c3
          have gc4 := cell_regrown c4
          have gc5 := cell_regrown c5
          have gs0 := cell_regrown s0
          refine wp_region_sink (C := fun w' => ∃ p : Regrown, w' = Go.Sort.grow (redrawn wi p.d) p.os) [0, 1, 2, 3, 4, 5, 6, 7, 8, 9, 10, 11] [true, true, true, true, true, true, true, true, true, true, true, false] 11 (by kernel_rfl) (by kernel_rfl) (by kernel_rfl) (fun _ _ d _ _ h => by cases d <;> exact h) (regrown_of_below (Below.drew (Below.refl _ _))) ?_
          simp only [List.map_cons, List.map_nil, List.getD_cons_zero, List.getD_cons_succ]
          have hS0 : Below (wi.heap.size) wi wi.drew := Below.drew (Below.refl _ _)
          refine wpMixS_pure (by kernel_rfl) (fun K hK => ?_)
          go_big_quiet_op
          refine hK _ ?_; clear hK K
          refine wpMixS_pure (by kernel_rfl) (fun K hK => ?_)
          go_big_quiet_op
          refine hK _ ?_; clear hK K
          refine wpMixS_pure (by kernel_rfl) (fun K hK => ?_)
          go_big_quiet_op
          refine hK _ ?_; clear hK K
          refine wpMixS_pure (by kernel_rfl) (fun K hK => ?_)
          go_big_quiet_op
          refine hK _ ?_; clear hK K
          refine wpMixS_pure (by kernel_rfl) (fun K hK => ?_)
          go_big_quiet_op
          refine hK _ ?_; clear hK K
          refine wpMixS_pure (by kernel_rfl) (fun K hK => ?_)
          go_big_quiet_op
          refine hK _ ?_; clear hK K
          refine wpMixS_pure (by kernel_rfl) (fun K hK => ?_)
          go_big_quiet_op
          refine hK _ ?_; clear hK K
          refine wpMixS_pure (by kernel_rfl) (fun K hK => ?_)
          go_big_quiet_op
          refine hK _ ?_; clear hK K
          refine wpMixS_pure (by kernel_rfl) (fun K hK => ?_)
          go_big_quiet_op
          refine hK _ ?_; clear hK K
          refine wpMixS_pure (by kernel_rfl) (fun K hK => ?_)
          go_big_quiet_op
          refine hK _ ?_; clear hK K
          refine wpMixS_pure (by kernel_rfl) (fun K hK => ?_)
          go_big_quiet_op
          refine hK _ ?_; clear hK K
          refine wpMixS_last (by kernel_rfl) (fun K hK => ?_)
          go_big_op
          try simp only [Act.put, List.setIfInBounds_toArray, List.set_cons_zero, List.set_cons_succ]
          refine hK _ _ ?_
          clear hK K
          have hb9 : Below w1.heap.size w1 (wi.drew.setCell ⟨w1.heap.size, 0, none⟩ (.int .i64 (t0 + (x.people - x.beacons)))) := (hbi.trans (Below.drew (Below.refl _ _))).setCell (p := ⟨w1.heap.size, 0, none⟩) (Nat.le_refl _) _
          have hS9 := (hSi.below (Below.drew (Below.refl (w1.heap.size + 1) wi)) (Nat.lt_succ_self _)).set0 (t0 + (x.people - x.beacons))
          have hp9 : PGroup (wi.drew.setCell ⟨w1.heap.size, 0, none⟩ (.int .i64 (t0 + (x.people - x.beacons)))) wo.heap.size 0 x := (hpi.drewN 1).keepB (((Only.refl [w1.heap.size] wi.drew).set 0 _).block _ hpi.lt (by simp; omega))
          go_wp2
          go_roundw
          case rel => exact ⟨1, by go_num, by omega, hp9, hS9, hb9⟩
          case measure => simp [intOf]

        · skip
          obtain ⟨c0, c1, c2, c3, c4, c5, c6⟩ := id hpi
          obtain ⟨s0, s1, s2, sz⟩ := id hSi
          have z1 := sz 1
          clear sz
          try simp only [Nat.not_lt_zero, if_false, Nat.lt_irrefl, if_true, Nat.zero_lt_one, Nat.zero_lt_two, Nat.one_lt_two, Nat.lt_succ_self] at *
          go_wp2
          have gc1 := cell_regrown c1
          have gc3 := cell_regrown c3
          have gc4 := cell_regrown c4
          have gc5 := cell_regrown c5
          have gs1 := cell_regrown s1
          refine wp_region_sink (C := fun w' => ∃ p : Regrown, w' = Go.Sort.grow (redrawn wi p.d) p.os) [0, 1, 2, 3, 4, 5, 6, 7, 8, 9, 10, 11] [true, true, true, true, true, true, true, true, true, true, true, false] 11 (by kernel_rfl) (by kernel_rfl) (by kernel_rfl) (fun _ _ d _ _ h => by cases d <;> exact h) (regrown_of_below (Below.drew (Below.refl _ _))) ?_
          simp only [List.map_cons, List.map_nil, List.getD_cons_zero, List.getD_cons_succ]
          have hS0 : Below (wi.heap.size) wi wi.drew := Below.drew (Below.refl _ _)
          refine wpMixS_pure (by kernel_rfl) (fun K hK => ?_)
          go_big_quiet_op
          refine hK _ ?_; clear hK K
          refine wpMixS_pure (by kernel_rfl) (fun K hK => ?_)
          go_big_quiet_op
          refine hK _ ?_; clear hK K
          refine wpMixS_pure (by kernel_rfl) (fun K hK => ?_)
          go_big_quiet_op
          refine hK _ ?_; clear hK K
          refine wpMixS_pure (by kernel_rfl) (fun K hK => ?_)
          go_big_quiet_op
          refine hK _ ?_; clear hK K
          refine wpMixS_pure (by kernel_rfl) (fun K hK => ?_)
          go_big_quiet_op
          refine hK _ ?_; clear hK K
          refine wpMixS_pure (by kernel_rfl) (fun K hK => ?_)
          go_big_quiet_op
          refine hK _ ?_; clear hK K
          refine wpMixS_pure (by kernel_rfl) (fun K hK => ?_)
          go_big_quiet_op
          refine hK _ ?_; clear hK K
          refine wpMixS_pure (by kernel_rfl) (fun K hK => ?_)
          go_big_quiet_op
          refine hK _ ?_; clear hK K
          refine wpMixS_pure (by kernel_rfl) (fun K hK => ?_)
          go_big_quiet_op
          refine hK _ ?_; clear hK K
          refine wpMixS_pure (by kernel_rfl) (fun K hK => ?_)
          go_big_quiet_op
          refine hK _ ?_; clear hK K
          refine wpMixS_pure (by kernel_rfl) (fun K hK => ?_)
          go_big_quiet_op
          refine hK _ ?_; clear hK K
          refine wpMixS_last (by kernel_rfl) (fun K hK => ?_)
          go_big_op
          try simp only [Act.put, List.setIfInBounds_toArray, List.set_cons_zero, List.set_cons_succ]
          refine hK _ _ ?_
          clear hK K
          have hb9 : Below w1.heap.size w1 (wi.drew.setCell ⟨w1.heap.size, 1, none⟩ (.int .i64 (t1 + (x.people - x.shovels)))) := (hbi.trans (Below.drew (Below.refl _ _))).setCell (p := ⟨w1.heap.size, 1, none⟩) (Nat.le_refl _) _
          have hS9 := (hSi.below (Below.drew (Below.refl (w1.heap.size + 1) wi)) (Nat.lt_succ_self _)).set1 (t1 + (x.people - x.shovels))
          have hp9 : PGroup (wi.drew.setCell ⟨w1.heap.size, 1, none⟩ (.int .i64 (t1 + (x.people - x.shovels)))) wo.heap.size 0 x := (hpi.drewN 1).keepB (((Only.refl [w1.heap.size] wi.drew).set 1 _).block _ hpi.lt (by simp; omega))
          go_wp2
          go_roundw
          case rel => exact ⟨2, by go_num, by omega, hp9, hS9, hb9⟩
          case measure => simp [intOf]

        · skip
          obtain ⟨c0, c1, c2, c3, c4, c5, c6⟩ := id hpi
          obtain ⟨s0, s1, s2, sz⟩ := id hSi
          have z2 := sz 2
          clear sz
          try simp only [Nat.not_lt_zero, if_false, Nat.lt_irrefl, if_true, Nat.zero_lt_one, Nat.zero_lt_two, Nat.one_lt_two, Nat.lt_succ_self] at *
          go_wp2
          have gc1 := cell_regrown c1
          have gc3 := cell_regrown c3
          have gc4 := cell_regrown c4
          have gc5 := cell_regrown c5
          have gs2 := cell_regrown s2
          refine wp_region_sink (C := fun w' => ∃ p : Regrown, w' = Go.Sort.grow (redrawn wi p.d) p.os) [0, 1, 2, 3, 4, 5, 6, 7, 8, 9, 10, 11] [true, true, true, true, true, true, true, true, true, true, true, false] 11 (by kernel_rfl) (by kernel_rfl) (by kernel_rfl) (fun _ _ d _ _ h => by cases d <;> exact h) (regrown_of_below (Below.drew (Below.refl _ _))) ?_
          simp only [List.map_cons, List.map_nil, List.getD_cons_zero, List.getD_cons_succ]
          have hS0 : Below (wi.heap.size) wi wi.drew := Below.drew (Below.refl _ _)
          refine wpMixS_pure (by kernel_rfl) (fun K hK => ?_)
          go_big_quiet_op
          refine hK _ ?_; clear hK K
          refine wpMixS_pure (by kernel_rfl) (fun K hK => ?_)
          go_big_quiet_op
          refine hK _ ?_; clear hK K
          refine wpMixS_pure (by kernel_rfl) (fun K hK => ?_)
          go_big_quiet_op
          refine hK _ ?_; clear hK K
          refine wpMixS_pure (by kernel_rfl) (fun K hK => ?_)
          go_big_quiet_op
          refine hK _ ?_; clear hK K
          refine wpMixS_pure (by kernel_rfl) (fun K hK => ?_)
          go_big_quiet_op
          refine hK _ ?_; clear hK K
          refine wpMixS_pure (by kernel_rfl) (fun K hK => ?_)
          go_big_quiet_op
          refine hK _ ?_; clear hK K
          refine wpMixS_pure (by kernel_rfl) (fun K hK => ?_)
          go_big_quiet_op
          refine hK _ ?_; clear hK K
          refine wpMixS_pure (by kernel_rfl) (fun K hK => ?_)
          go_big_quiet_op
          refine hK _ ?_; clear hK K
          refine wpMixS_pure (by kernel_rfl) (fun K hK => ?_)
          go_big_quiet_op
          refine hK _ ?_; clear hK K
          refine wpMixS_pure (by kernel_rfl) (fun K hK => ?_)
          go_big_quiet_op
          refine hK _ ?_; clear hK K
          refine wpMixS_pure (by kernel_rfl) (fun K hK => ?_)
          go_big_quiet_op
          refine hK _ ?_; clear hK K
          refine wpMixS_last (by kernel_rfl) (fun K hK => ?_)
          go_big_op
          try simp only [Act.put, List.setIfInBounds_toArray, List.set_cons_zero, List.set_cons_succ]
          refine hK _ _ ?_
          clear hK K
          have hb9 : Below w1.heap.size w1 (wi.drew.setCell ⟨w1.heap.size, 2, none⟩ (.int .i64 (t2 + (x.people - x.probes)))) := (hbi.trans (Below.drew (Below.refl _ _))).setCell (p := ⟨w1.heap.size, 2, none⟩) (Nat.le_refl _) _
          have hS9 := (hSi.below (Below.drew (Below.refl (w1.heap.size + 1) wi)) (Nat.lt_succ_self _)).set2 (t2 + (x.people - x.probes))
          have hp9 : PGroup (wi.drew.setCell ⟨w1.heap.size, 2, none⟩ (.int .i64 (t2 + (x.people - x.probes)))) wo.heap.size 0 x := (hpi.drewN 1).keepB (((Only.refl [w1.heap.size] wi.drew).set 2 _).block _ hpi.lt (by simp; omega))
          go_wp2
          go_roundw
          case rel => exact ⟨3, by go_num, by omega, hp9, hS9, hb9⟩
          case measure => simp [intOf]

        · have hS9 : Sh3 wi w1.heap.size (shT xs 0 (i + 1)) (shT xs 1 (i + 1)) (shT xs 2 (i + 1)) := by
            rw [H0.out, H1.out, H2.out]; simpa [kitK] using hSi
          go_wp2
          go_roundw
          case rel => exact ⟨i + 1, by go_num, by omega, hS9, hbi⟩
          case measure => simp [intOf]; omega
    · obtain rfl : i = xs.length := by omega
      have HS := Lib.hid (kitS_eq xs)
      generalize shT xs 0 xs.length = t0 at *
      generalize shT xs 1 xs.length = t1 at *
      generalize shT xs 2 xs.length = t2 at *
      obtain ⟨s0, s1, s2, sz⟩ := hS
      have hb9 := hb1.trans (hb.mono hB1)
      go_wp2
      go_ret2
      exact ⟨by rw [HE.out.1, HE.out.2, HS.out]; rfl, hb9⟩

end Go.Proofs.YtdpeffaplkbkgaaGreatDoor

namespace Go.Proofs.YtdpeffaplkbkgaaGreatDoor
open Go.RowKit
set_option linter.unusedVariables false
set_option linter.unusedSimpArgs false

def lendV (xs : List DGroup) (i j : Int) : List DGroup := if lendC xs i j = 0 then lendL xs i.toNat j.toNat else []
theorem lend_bad {xs : List DGroup} {i j c : Int} (hc : lendC xs i j = c) (h0 : c ≠ 0) : Hid (lendC xs i j = c ∧ lendV xs i j = []) := ⟨hc, by unfold lendV; rw [if_neg (by rw [hc]; exact h0)]⟩
/-- The lender and the other when k things are done. -/
def lendAk (a b : DGroup) (k : Nat) : DGroup := ⟨a.id, a.people, a.guides, if 0 < k then a.beacons - giveF a.beacons a.people b.beacons b.people else a.beacons, if 1 < k then a.shovels - giveF a.shovels a.people b.shovels b.people else a.shovels, if 2 < k then a.probes - giveF a.probes a.people b.probes b.people else a.probes, a.skill⟩
def lendBk (a b : DGroup) (k : Nat) : DGroup := ⟨b.id, b.people, b.guides, if 0 < k then b.beacons + giveF a.beacons a.people b.beacons b.people else b.beacons, if 1 < k then b.shovels + giveF a.shovels a.people b.shovels b.people else b.shovels, if 2 < k then b.probes + giveF a.probes a.people b.probes b.people else b.probes, b.skill⟩
theorem PGroup.own {w : World} {base g n cap : Nat} {e : TypeId} {L : List DGroup} (h : Own fGroup w base e (.slice (some ⟨g, 0, none⟩) n cap) L) {k : Nat} (hk : k < L.length) : PGroup w g (k * 7) L[k] :=
  ⟨h.cellF hk (j := 0) (by decide) rfl, h.cellF hk (j := 1) (by decide) rfl, h.cellF hk (j := 2) (by decide) rfl, h.cellF hk (j := 3) (by decide) rfl, h.cellF hk (j := 4) (by decide) rfl, h.cellF hk (j := 5) (by decide) rfl, h.cellF hk (j := 6) (by decide) rfl⟩
theorem lk_setA {xs : List DGroup} {a b : Nat} (hab : a ≠ b) (X Y X' : DGroup) : ((xs.set a X).set b Y).set a X' = (xs.set a X').set b Y := by rw [List.set_comm _ _ (Ne.symm hab), List.set_set]
theorem lk_getA {xs : List DGroup} {a b : Nat} (hab : a ≠ b) (X Y : DGroup) (h : a < ((xs.set a X).set b Y).length) : ((xs.set a X).set b Y)[a] = X := by
  rw [List.getElem_set_ne (Ne.symm hab), List.getElem_set_self]
theorem lk_getB {xs : List DGroup} {a b : Nat} (X Y : DGroup) (h : b < ((xs.set a X).set b Y).length) : ((xs.set a X).set b Y)[b] = Y := List.getElem_set_self _
theorem lk_len (xs : List DGroup) (a b : Nat) (X Y : DGroup) : ((xs.set a X).set b Y).length = xs.length := by rw [List.length_set, List.length_set]
set_option maxRecDepth 100000 in
set_option maxHeartbeats 8000000 in
theorem implLendKit_any (v : Value) (xs : List DGroup) (fp : List Nat) (i j : Int) (w : World) (hx : Sl fGroup.cod w v xs fp) :
    Calls Tryz.prog 10 #[v, .int .i64 i, .int .i64 j] w fun e w' => ∃ v', e = .returned (.tuple #[v', .int .i64 (lendC xs i j)]) ∧ Own fGroup w' w.heap.size 25 v' (lendV xs i j) ∧ Below w.heap.size w w' := by
  obtain ⟨A, cap, rfl, hlen, hcap⟩ := hx.form
  go_enter Tryz.func10, Tryz.ntmps10
  go_wp2_with fail
  refine (validGroups_any _ xs fp _ hx).mono ?_
  rintro e w1 ⟨rfl, hb1⟩
  have hx1 := hx.below' hb1
  clear hx
  have hB1 := hb1.size
  cases hv : groupsB xs
  · have HE := lend_bad (show lendC xs i j = 1 by unfold lendC; rw [hv]; rfl) (by decide)
    go_wp2
    go_ret2
    exact ⟨_, by rw [HE.out.1]; rfl, by rw [HE.out.2]; exact Own.nil _ _ _ _, hb1⟩
  have hl8 := groupsB_len hv
  go_wp2_with fail
  refine (indexValidG_any _ xs fp i _ hx1 (by omega)).mono ?_
  rintro e w' ⟨rfl, rfl⟩
  cases hi : inB i 0 ((xs.length : Int) - 1)
  · have HE := lend_bad (show lendC xs i j = 2 by unfold lendC; rw [hv, hi]; rfl) (by decide)
    go_wp2
    go_ret2
    exact ⟨_, by rw [HE.out.1]; rfl, by rw [HE.out.2]; exact Own.nil _ _ _ _, hb1⟩
  go_wp2_with fail
  refine (indexValidG_any _ xs fp j _ hx1 (by omega)).mono ?_
  rintro e w' ⟨rfl, rfl⟩
  cases hj : inB j 0 ((xs.length : Int) - 1)
  · have HE := lend_bad (show lendC xs i j = 2 by unfold lendC; rw [hv, hi, hj]; rfl) (by decide)
    go_wp2
    go_ret2
    exact ⟨_, by rw [HE.out.1]; rfl, by rw [HE.out.2]; exact Own.nil _ _ _ _, hb1⟩
  by_cases hij : i = j
  · have HE := lend_bad (show lendC xs i j = 2 by unfold lendC; rw [hv, hi, hj, decide_eq_false (by simpa using hij)]; rfl) (by decide)
    have hq : (i == j) = true := beq_iff_eq.2 hij
    have HH := Lib.hid hij
    clear hij hi hj hv
    go_wp2
    go_ret2
    exact ⟨_, by rw [HE.out.1]; rfl, by rw [HE.out.2]; exact Own.nil _ _ _ _, hb1⟩
  have hq : (i == j) = false := beq_eq_false_iff_ne.2 hij
  have HC := Lib.hid (show lendC xs i j = 0 by unfold lendC; rw [hv, hi, hj, decide_eq_true (show i ≠ j from hij)]; rfl)
  have hi2 := inB_true.1 hi
  have hj2 := inB_true.1 hj
  obtain ⟨a, rfl⟩ : ∃ a : Nat, i = a := ⟨i.toNat, by omega⟩
  obtain ⟨b, rfl⟩ : ∃ b : Nat, j = b := ⟨j.toNat, by omega⟩
  have ha : a < xs.length := by omega
  have hbl : b < xs.length := by omega
  have hab : a ≠ b := fun e => hij (by rw [e])
  have HL := Lib.hid (show lendV xs a b = lendL xs a b by unfold lendV; rw [if_pos HC.out]; rfl)
  clear hi hj hij hi2 hj2
  go_wp2_with fail
  refine (cloneGroup_any _ xs fp _ hx1 (by omega)).mono ?_
  rintro e w2 ⟨v2, rfl, hown, hb2⟩
  have hg := groupsB_one hv ha
  have hg2 := groupsB_one hv hbl
  have hb3 := hb1.trans (hb2.mono hB1)
  have hown2 := ownM_ hown hB1
  obtain ⟨g, cg, hvg⟩ : ∃ g cg, v2 = .slice (some ⟨g, 0, none⟩) xs.length cg := by
    rcases hown.2 with ⟨_, e⟩ | ⟨g, cap', cur, e, _⟩
    · omega
    · exact ⟨g, cap', e⟩
  subst hvg
  clear hown hb2 hx1 hlen hcap
  have ha9 : (a : Int) < (xs.length : Int) := by omega
  have hb9 : (b : Int) < (xs.length : Int) := by omega
  go_wp2
  refine wp_region_mix (C := fun w' => ∃ p : Regrown, w' = Go.Sort.grow (redrawn w2 p.d) p.os) [true, true, true, true, true, true, true, true] (by kernel_rfl) (by kernel_rfl) (by kernel_rfl) (fun _ _ d _ _ h => by cases d <;> exact h) (regrown_of_below (Below.drew (Below.refl _ _))) ?_
  have hS0 : Below (w2.heap.size) w2 w2.drew := Below.drew (Below.refl _ _)
  refine wpMix_pure (by kernel_rfl) (fun K hK => ?_); go_big_quiet_op; refine hK _ ?_; clear hK K
  refine wpMix_pure (by kernel_rfl) (fun K hK => ?_); go_big_quiet_op; refine hK _ ?_; clear hK K
  refine wpMix_pure (by kernel_rfl) (fun K hK => ?_); go_big_quiet_op; refine hK _ ?_; clear hK K
  refine wpMix_pure (by kernel_rfl) (fun K hK => ?_); go_big_quiet_op; refine hK _ ?_; clear hK K
  refine wpMix_pure (by kernel_rfl) (fun K hK => ?_); go_big_quiet_op; refine hK _ ?_; clear hK K
  refine wpMix_pure (by kernel_rfl) (fun K hK => ?_); go_big_quiet_op; refine hK _ ?_; clear hK K
  refine wpMix_pure (by kernel_rfl) (fun K hK => ?_); go_big_quiet_op; refine hK _ ?_; clear hK K
  refine wpMix_pure (by kernel_rfl) (fun K hK => ?_); go_big_quiet_op; refine hK _ ?_; clear hK K
  refine wpMix_nil ?_
  have hb4 := hb3.trans (Below.drew (Below.refl w.heap.size w2))
  have hown3 : Own fGroup w2.drew w.heap.size 25 (.slice (some ⟨g, 0, none⟩) xs.length cg) xs := hown2
  have hgB : w.heap.size ≤ g := by
    rcases hown2.2 with ⟨e, _⟩ | ⟨g', cap', cur, e, hg', _⟩
    · cases e
    · injection e with e _ _
      injection e with e
      injection e with e
      rw [e]; exact hg'
  clear hb3 hown2 hb1 hB1 hS0
  generalize w2.drew = w3 at *
  clear w2 w1
  have hpa := PGroup.own hown3 ha
  go_wp2_with fail
  refine (kit_any g (a * 7) _ _ hpa).mono ?_
  rintro e w4 ⟨rfl, hb5⟩
  have hown4 := hown3.below hb5
  have hb6 := hb4.trans (hb5.mono hb4.size)
  clear hpa hb5 hb4 hown3
  have hlk : Hid (lendL xs a b = ((xs.set a (lendAk xs[a] xs[b] 3)).set b (lendBk xs[a] xs[b] 3))) := by
    show _ = _
    unfold lendL
    rw [getD_lt ha, getD_lt hbl]; rfl
  have hl0 : ((xs.set a (lendAk xs[a] xs[b] 0)).set b (lendBk xs[a] xs[b] 0)) = xs := by
    have e1 : lendAk xs[a] xs[b] 0 = xs[a] := rfl
    have e2 : lendBk xs[a] xs[b] 0 = xs[b] := rfl
    rw [e1, e2, List.set_getElem_self, List.set_getElem_self]
  obtain ⟨_, hAp, _, hA0, hA1, hA2, _⟩ := groupB_bounds hg
  obtain ⟨_, hBp, _, hB0, hB1, hB2, _⟩ := groupB_bounds hg2
  clear hg hg2
  generalize xs[a] = A at *
  generalize xs[b] = B at *
  rw [← hl0] at hown4
  have how0 : Own fGroup w4 w.heap.size 25 (.slice (some ⟨g, 0, none⟩) xs.length cg) ((xs.set a (lendAk A B 0)).set b (lendBk A B 0)) := by
    rw [hl0] at hown4 ⊢; exact hown4
  clear hl0 hown4
  go_wp2
  go_loopw [45] (fun kv wi => ∃ k : Nat, kv = .int .i64 k ∧ k ≤ 3 ∧ Own fGroup wi w.heap.size 25 (.slice (some ⟨g, 0, none⟩) xs.length cg) ((xs.set a (lendAk A B k)).set b (lendBk A B k)) ∧ Below w.heap.size w wi) (fun kv _ => 3 - (intOf kv).toNat)
  case atStart => exact ⟨0, rfl, by omega, how0, hb6⟩
  case round =>
    clear how0 hb6
    obtain ⟨k, rfl, hk, how, hb5⟩ := hrel
    rename World => wi
    have hk4 : k = 0 ∨ k = 1 ∨ k = 2 ∨ k = 3 := by omega
    rcases hk4 with rfl | rfl | rfl | rfl
    · skip
      have hpA := PGroup.own how (k := a) (by rw [lk_len]; exact ha)
      have hpB := PGroup.own how (k := b) (by rw [lk_len]; exact hbl)
      rw [lk_getA hab] at hpA
      rw [lk_getB] at hpB
      have e0 := ix_p0
      have e1 := ix_p1
      have e2 := ix_p2
      go_wp2_with fail
      refine (kit_any g (b * 7) _ _ hpB).mono ?_
      rintro e wj ⟨rfl, hbj⟩
      have hb6 := hb5.trans (hbj.mono hb5.size)
      have hpA6 := hpA.below' hbj
      have hpB6 := hpB.below' hbj
      have how6 := how.below hbj
      clear hpA hpB how hb5 hbj
      have cA1 : wj.cell? ⟨g, a * 7 + 1, none⟩ = some (.int .i64 A.people) := hpA6.c1
      have cAf : wj.cell? ⟨g, a * 7 + 3, none⟩ = some (.int .i64 A.beacons) := hpA6.c3
      have cB1 : wj.cell? ⟨g, b * 7 + 1, none⟩ = some (.int .i64 B.people) := hpB6.c1
      have cBf : wj.cell? ⟨g, b * 7 + 3, none⟩ = some (.int .i64 B.beacons) := hpB6.c3
      clear hpA6 hpB6
      go_wp2
      have gcA1 := cell_regrown cA1
      have gcAf := cell_regrown cAf
      have gcB1 := cell_regrown cB1
      have gcBf := cell_regrown cBf
      refine wp_region_mix (C := fun w' => ∃ p : Regrown, w' = Go.Sort.grow (redrawn wj p.d) p.os) [true, true, true, true, true, true, true, true, true, true, true, true, true, true, true, true, true, true, true, true] (by kernel_rfl) (by kernel_rfl) (by kernel_rfl) (fun _ _ d _ _ h => by cases d <;> exact h) (regrown_of_below (Below.drew (Below.refl _ _))) ?_
      have hS0 : Below (wj.heap.size) wj wj.drew := Below.drew (Below.refl _ _)
      refine wpMix_pure (by kernel_rfl) (fun K hK => ?_); go_big_quiet_op; refine hK _ ?_; clear hK K
      refine wpMix_pure (by kernel_rfl) (fun K hK => ?_); go_big_quiet_op; refine hK _ ?_; clear hK K
      refine wpMix_pure (by kernel_rfl) (fun K hK => ?_); go_big_quiet_op; refine hK _ ?_; clear hK K
      refine wpMix_pure (by kernel_rfl) (fun K hK => ?_); go_big_quiet_op; refine hK _ ?_; clear hK K
      refine wpMix_pure (by kernel_rfl) (fun K hK => ?_); go_big_quiet_op; refine hK _ ?_; clear hK K
      refine wpMix_pure (by kernel_rfl) (fun K hK => ?_); go_big_quiet_op; refine hK _ ?_; clear hK K
      refine wpMix_pure (by kernel_rfl) (fun K hK => ?_); go_big_quiet_op; refine hK _ ?_; clear hK K
      refine wpMix_pure (by kernel_rfl) (fun K hK => ?_); go_big_quiet_op; refine hK _ ?_; clear hK K
      refine wpMix_pure (by kernel_rfl) (fun K hK => ?_); go_big_quiet_op; refine hK _ ?_; clear hK K
      refine wpMix_pure (by kernel_rfl) (fun K hK => ?_); go_big_quiet_op; refine hK _ ?_; clear hK K
      refine wpMix_pure (by kernel_rfl) (fun K hK => ?_); go_big_quiet_op; refine hK _ ?_; clear hK K
      refine wpMix_pure (by kernel_rfl) (fun K hK => ?_); go_big_quiet_op; refine hK _ ?_; clear hK K
      refine wpMix_pure (by kernel_rfl) (fun K hK => ?_); go_big_quiet_op; refine hK _ ?_; clear hK K
      refine wpMix_pure (by kernel_rfl) (fun K hK => ?_); go_big_quiet_op; refine hK _ ?_; clear hK K
      refine wpMix_pure (by kernel_rfl) (fun K hK => ?_); go_big_quiet_op; refine hK _ ?_; clear hK K
      refine wpMix_pure (by kernel_rfl) (fun K hK => ?_); go_big_quiet_op; refine hK _ ?_; clear hK K
      refine wpMix_pure (by kernel_rfl) (fun K hK => ?_); go_big_quiet_op; refine hK _ ?_; clear hK K
      refine wpMix_pure (by kernel_rfl) (fun K hK => ?_); go_big_quiet_op; refine hK _ ?_; clear hK K
      refine wpMix_pure (by kernel_rfl) (fun K hK => ?_); go_big_quiet_op; refine hK _ ?_; clear hK K
      refine wpMix_pure (by kernel_rfl) (fun K hK => ?_); go_big_quiet_op; refine hK _ ?_; clear hK K
      refine wpMix_nil ?_
      have hb7 : Below w.heap.size w wj.drew := hb6.trans (Below.drew (Below.refl _ _))
      have how : Own fGroup wj.drew w.heap.size 25 (.slice (some ⟨g, 0, none⟩) xs.length cg) ((xs.set a (lendAk A B 0)).set b (lendBk A B 0)) := how6
      have hn0 : 0 ≤ (min (max (A.beacons - A.people) 0) (max (B.people - B.beacons) 0)) ∧ (min (max (A.beacons - A.people) 0) (max (B.people - B.beacons) 0)) ≤ 30 := by omega
      have hgv : Hid (giveF A.beacons A.people B.beacons B.people = (min (max (A.beacons - A.people) 0) (max (B.people - B.beacons) 0))) := rfl
      generalize (min (max (A.beacons - A.people) 0) (max (B.people - B.beacons) 0)) = nn at *
      clear gcA1 gcAf gcB1 gcBf hS0
      have dAf : wj.drew.cell? ⟨g, a * 7 + 3, none⟩ = some (.int .i64 A.beacons) := cAf
      have dBf : wj.drew.cell? ⟨g, b * 7 + 3, none⟩ = some (.int .i64 B.beacons) := cBf
      generalize wj.drew = W0 at *
      have zA : W0.frozen? ⟨g, a * 7 + 3, none⟩ = false := how.frozenF _
      have zB : ∀ W, Own fGroup W w.heap.size 25 (.slice (some ⟨g, 0, none⟩) xs.length cg) ((xs.set a (lendAk A B 1)).set b (lendBk A B 0)) → W.frozen? ⟨g, b * 7 + 3, none⟩ = false := fun W h => h.frozenF _
      have how1 : Own fGroup (W0.setCell ⟨g, a * 7 + 3, none⟩ (.int .i64 (A.beacons - nn))) w.heap.size 25 (.slice (some ⟨g, 0, none⟩) xs.length cg) ((xs.set a (lendAk A B 1)).set b (lendBk A B 0)) := by
        have h := how.setF (k := a) (by rw [lk_len]; exact ha) 3 (by decide) (lendAk A B 1) (.int .i64 (A.beacons - nn)) (by rw [lk_getA hab, ← hgv.out]; rfl)
        rw [lk_setA hab] at h; exact h
      have hb8 : Below w.heap.size w (W0.setCell ⟨g, a * 7 + 3, none⟩ (.int .i64 (A.beacons - nn))) := hb7.setCell (p := ⟨g, a * 7 + 3, none⟩) hgB _
      have dB1 : (W0.setCell ⟨g, a * 7 + 3, none⟩ (.int .i64 (A.beacons - nn))).cell? ⟨g, b * 7 + 3, none⟩ = some (.int .i64 B.beacons) := (World.cell?_setCell_other _ _ _ _ (by simp [hab])).trans dBf
      go_upto_region 13 with fail
      refine at_world (fun W => Own fGroup W w.heap.size 25 (.slice (some ⟨g, 0, none⟩) xs.length cg) ((xs.set a (lendAk A B 1)).set b (lendBk A B 0)) ∧ Below w.heap.size w W ∧ W.cell? ⟨g, b * 7 + 3, none⟩ = some (.int .i64 B.beacons)) ⟨how1, hb8, dB1⟩ ?_
      clear how1 hb8 dB1 how hb7 dAf dBf zA how6 hb6 cA1 cAf cB1 cBf
      rintro W1 ⟨how1, hb8, dB1⟩
      have zB1 := zB W1 how1
      clear zB
      have how2 : Own fGroup (W1.setCell ⟨g, b * 7 + 3, none⟩ (.int .i64 (B.beacons + nn))) w.heap.size 25 (.slice (some ⟨g, 0, none⟩) xs.length cg) ((xs.set a (lendAk A B 1)).set b (lendBk A B 1)) := by
        have h := how1.setF (k := b) (by rw [lk_len]; exact hbl) 3 (by decide) (lendBk A B 1) (.int .i64 (B.beacons + nn)) (by rw [lk_getB, ← hgv.out]; rfl)
        rw [List.set_set] at h; exact h
      have hb9 : Below w.heap.size w (W1.setCell ⟨g, b * 7 + 3, none⟩ (.int .i64 (B.beacons + nn))) := hb8.setCell (p := ⟨g, b * 7 + 3, none⟩) hgB _
      go_wp2
      go_roundw
      case rel => exact ⟨1, by go_num, by omega, how2, hb9⟩
      case measure => simp [intOf]

    · skip
      have hpA := PGroup.own how (k := a) (by rw [lk_len]; exact ha)
      have hpB := PGroup.own how (k := b) (by rw [lk_len]; exact hbl)
      rw [lk_getA hab] at hpA
      rw [lk_getB] at hpB
      have e0 := ix_p0
      have e1 := ix_p1
      have e2 := ix_p2
      go_wp2_with fail
      refine (kit_any g (b * 7) _ _ hpB).mono ?_
      rintro e wj ⟨rfl, hbj⟩
      have hb6 := hb5.trans (hbj.mono hb5.size)
      have hpA6 := hpA.below' hbj
      have hpB6 := hpB.below' hbj
      have how6 := how.below hbj
      clear hpA hpB how hb5 hbj
      have cA1 : wj.cell? ⟨g, a * 7 + 1, none⟩ = some (.int .i64 A.people) := hpA6.c1
      have cAf : wj.cell? ⟨g, a * 7 + 4, none⟩ = some (.int .i64 A.shovels) := hpA6.c4
      have cB1 : wj.cell? ⟨g, b * 7 + 1, none⟩ = some (.int .i64 B.people) := hpB6.c1
      have cBf : wj.cell? ⟨g, b * 7 + 4, none⟩ = some (.int .i64 B.shovels) := hpB6.c4
      clear hpA6 hpB6
      go_wp2
      have gcA1 := cell_regrown cA1
      have gcAf := cell_regrown cAf
      have gcB1 := cell_regrown cB1
      have gcBf := cell_regrown cBf
      refine wp_region_mix (C := fun w' => ∃ p : Regrown, w' = Go.Sort.grow (redrawn wj p.d) p.os) [true, true, true, true, true, true, true, true, true, true, true, true, true, true, true, true, true, true, true, true] (by kernel_rfl) (by kernel_rfl) (by kernel_rfl) (fun _ _ d _ _ h => by cases d <;> exact h) (regrown_of_below (Below.drew (Below.refl _ _))) ?_
      have hS0 : Below (wj.heap.size) wj wj.drew := Below.drew (Below.refl _ _)
      refine wpMix_pure (by kernel_rfl) (fun K hK => ?_); go_big_quiet_op; refine hK _ ?_; clear hK K
      refine wpMix_pure (by kernel_rfl) (fun K hK => ?_); go_big_quiet_op; refine hK _ ?_; clear hK K
      refine wpMix_pure (by kernel_rfl) (fun K hK => ?_); go_big_quiet_op; refine hK _ ?_; clear hK K
      refine wpMix_pure (by kernel_rfl) (fun K hK => ?_); go_big_quiet_op; refine hK _ ?_; clear hK K
      refine wpMix_pure (by kernel_rfl) (fun K hK => ?_); go_big_quiet_op; refine hK _ ?_; clear hK K
      refine wpMix_pure (by kernel_rfl) (fun K hK => ?_); go_big_quiet_op; refine hK _ ?_; clear hK K
      refine wpMix_pure (by kernel_rfl) (fun K hK => ?_); go_big_quiet_op; refine hK _ ?_; clear hK K
      refine wpMix_pure (by kernel_rfl) (fun K hK => ?_); go_big_quiet_op; refine hK _ ?_; clear hK K
      refine wpMix_pure (by kernel_rfl) (fun K hK => ?_); go_big_quiet_op; refine hK _ ?_; clear hK K
      refine wpMix_pure (by kernel_rfl) (fun K hK => ?_); go_big_quiet_op; refine hK _ ?_; clear hK K
      refine wpMix_pure (by kernel_rfl) (fun K hK => ?_); go_big_quiet_op; refine hK _ ?_; clear hK K
      refine wpMix_pure (by kernel_rfl) (fun K hK => ?_); go_big_quiet_op; refine hK _ ?_; clear hK K
      refine wpMix_pure (by kernel_rfl) (fun K hK => ?_); go_big_quiet_op; refine hK _ ?_; clear hK K
      refine wpMix_pure (by kernel_rfl) (fun K hK => ?_); go_big_quiet_op; refine hK _ ?_; clear hK K
      refine wpMix_pure (by kernel_rfl) (fun K hK => ?_); go_big_quiet_op; refine hK _ ?_; clear hK K
      refine wpMix_pure (by kernel_rfl) (fun K hK => ?_); go_big_quiet_op; refine hK _ ?_; clear hK K
      refine wpMix_pure (by kernel_rfl) (fun K hK => ?_); go_big_quiet_op; refine hK _ ?_; clear hK K
      refine wpMix_pure (by kernel_rfl) (fun K hK => ?_); go_big_quiet_op; refine hK _ ?_; clear hK K
      refine wpMix_pure (by kernel_rfl) (fun K hK => ?_); go_big_quiet_op; refine hK _ ?_; clear hK K
      refine wpMix_pure (by kernel_rfl) (fun K hK => ?_); go_big_quiet_op; refine hK _ ?_; clear hK K
      refine wpMix_nil ?_
      have hb7 : Below w.heap.size w wj.drew := hb6.trans (Below.drew (Below.refl _ _))
      have how : Own fGroup wj.drew w.heap.size 25 (.slice (some ⟨g, 0, none⟩) xs.length cg) ((xs.set a (lendAk A B 1)).set b (lendBk A B 1)) := how6
      have hn0 : 0 ≤ (min (max (A.shovels - A.people) 0) (max (B.people - B.shovels) 0)) ∧ (min (max (A.shovels - A.people) 0) (max (B.people - B.shovels) 0)) ≤ 30 := by omega
      have hgv : Hid (giveF A.shovels A.people B.shovels B.people = (min (max (A.shovels - A.people) 0) (max (B.people - B.shovels) 0))) := rfl
      generalize (min (max (A.shovels - A.people) 0) (max (B.people - B.shovels) 0)) = nn at *
      clear gcA1 gcAf gcB1 gcBf hS0
      have dAf : wj.drew.cell? ⟨g, a * 7 + 4, none⟩ = some (.int .i64 A.shovels) := cAf
      have dBf : wj.drew.cell? ⟨g, b * 7 + 4, none⟩ = some (.int .i64 B.shovels) := cBf
      generalize wj.drew = W0 at *
      have zA : W0.frozen? ⟨g, a * 7 + 4, none⟩ = false := how.frozenF _
      have zB : ∀ W, Own fGroup W w.heap.size 25 (.slice (some ⟨g, 0, none⟩) xs.length cg) ((xs.set a (lendAk A B 2)).set b (lendBk A B 1)) → W.frozen? ⟨g, b * 7 + 4, none⟩ = false := fun W h => h.frozenF _
      have how1 : Own fGroup (W0.setCell ⟨g, a * 7 + 4, none⟩ (.int .i64 (A.shovels - nn))) w.heap.size 25 (.slice (some ⟨g, 0, none⟩) xs.length cg) ((xs.set a (lendAk A B 2)).set b (lendBk A B 1)) := by
        have h := how.setF (k := a) (by rw [lk_len]; exact ha) 4 (by decide) (lendAk A B 2) (.int .i64 (A.shovels - nn)) (by rw [lk_getA hab, ← hgv.out]; rfl)
        rw [lk_setA hab] at h; exact h
      have hb8 : Below w.heap.size w (W0.setCell ⟨g, a * 7 + 4, none⟩ (.int .i64 (A.shovels - nn))) := hb7.setCell (p := ⟨g, a * 7 + 4, none⟩) hgB _
      have dB1 : (W0.setCell ⟨g, a * 7 + 4, none⟩ (.int .i64 (A.shovels - nn))).cell? ⟨g, b * 7 + 4, none⟩ = some (.int .i64 B.shovels) := (World.cell?_setCell_other _ _ _ _ (by simp [hab])).trans dBf
      go_upto_region 13 with fail
      refine at_world (fun W => Own fGroup W w.heap.size 25 (.slice (some ⟨g, 0, none⟩) xs.length cg) ((xs.set a (lendAk A B 2)).set b (lendBk A B 1)) ∧ Below w.heap.size w W ∧ W.cell? ⟨g, b * 7 + 4, none⟩ = some (.int .i64 B.shovels)) ⟨how1, hb8, dB1⟩ ?_
      clear how1 hb8 dB1 how hb7 dAf dBf zA how6 hb6 cA1 cAf cB1 cBf
      rintro W1 ⟨how1, hb8, dB1⟩
      have zB1 := zB W1 how1
      clear zB
      have how2 : Own fGroup (W1.setCell ⟨g, b * 7 + 4, none⟩ (.int .i64 (B.shovels + nn))) w.heap.size 25 (.slice (some ⟨g, 0, none⟩) xs.length cg) ((xs.set a (lendAk A B 2)).set b (lendBk A B 2)) := by
        have h := how1.setF (k := b) (by rw [lk_len]; exact hbl) 4 (by decide) (lendBk A B 2) (.int .i64 (B.shovels + nn)) (by rw [lk_getB, ← hgv.out]; rfl)
        rw [List.set_set] at h; exact h
      have hb9 : Below w.heap.size w (W1.setCell ⟨g, b * 7 + 4, none⟩ (.int .i64 (B.shovels + nn))) := hb8.setCell (p := ⟨g, b * 7 + 4, none⟩) hgB _
      go_wp2
      go_roundw
      case rel => exact ⟨2, by go_num, by omega, how2, hb9⟩
      case measure => simp [intOf]

    · skip
      have hpA := PGroup.own how (k := a) (by rw [lk_len]; exact ha)
      have hpB := PGroup.own how (k := b) (by rw [lk_len]; exact hbl)
      rw [lk_getA hab] at hpA
      rw [lk_getB] at hpB
      have e0 := ix_p0
      have e1 := ix_p1
      have e2 := ix_p2
      go_wp2_with fail
      refine (kit_any g (b * 7) _ _ hpB).mono ?_
      rintro e wj ⟨rfl, hbj⟩
      have hb6 := hb5.trans (hbj.mono hb5.size)
      have hpA6 := hpA.below' hbj
      have hpB6 := hpB.below' hbj
      have how6 := how.below hbj
      clear hpA hpB how hb5 hbj
      have cA1 : wj.cell? ⟨g, a * 7 + 1, none⟩ = some (.int .i64 A.people) := hpA6.c1
      have cAf : wj.cell? ⟨g, a * 7 + 5, none⟩ = some (.int .i64 A.probes) := hpA6.c5
      have cB1 : wj.cell? ⟨g, b * 7 + 1, none⟩ = some (.int .i64 B.people) := hpB6.c1
      have cBf : wj.cell? ⟨g, b * 7 + 5, none⟩ = some (.int .i64 B.probes) := hpB6.c5
      clear hpA6 hpB6
      go_wp2
      have gcA1 := cell_regrown cA1
      have gcAf := cell_regrown cAf
      have gcB1 := cell_regrown cB1
      have gcBf := cell_regrown cBf
      refine wp_region_mix (C := fun w' => ∃ p : Regrown, w' = Go.Sort.grow (redrawn wj p.d) p.os) [true, true, true, true, true, true, true, true, true, true, true, true, true, true, true, true, true, true, true, true] (by kernel_rfl) (by kernel_rfl) (by kernel_rfl) (fun _ _ d _ _ h => by cases d <;> exact h) (regrown_of_below (Below.drew (Below.refl _ _))) ?_
      have hS0 : Below (wj.heap.size) wj wj.drew := Below.drew (Below.refl _ _)
      refine wpMix_pure (by kernel_rfl) (fun K hK => ?_); go_big_quiet_op; refine hK _ ?_; clear hK K
      refine wpMix_pure (by kernel_rfl) (fun K hK => ?_); go_big_quiet_op; refine hK _ ?_; clear hK K
      refine wpMix_pure (by kernel_rfl) (fun K hK => ?_); go_big_quiet_op; refine hK _ ?_; clear hK K
      refine wpMix_pure (by kernel_rfl) (fun K hK => ?_); go_big_quiet_op; refine hK _ ?_; clear hK K
      refine wpMix_pure (by kernel_rfl) (fun K hK => ?_); go_big_quiet_op; refine hK _ ?_; clear hK K
      refine wpMix_pure (by kernel_rfl) (fun K hK => ?_); go_big_quiet_op; refine hK _ ?_; clear hK K
      refine wpMix_pure (by kernel_rfl) (fun K hK => ?_); go_big_quiet_op; refine hK _ ?_; clear hK K
      refine wpMix_pure (by kernel_rfl) (fun K hK => ?_); go_big_quiet_op; refine hK _ ?_; clear hK K
      refine wpMix_pure (by kernel_rfl) (fun K hK => ?_); go_big_quiet_op; refine hK _ ?_; clear hK K
      refine wpMix_pure (by kernel_rfl) (fun K hK => ?_); go_big_quiet_op; refine hK _ ?_; clear hK K
      refine wpMix_pure (by kernel_rfl) (fun K hK => ?_); go_big_quiet_op; refine hK _ ?_; clear hK K
      refine wpMix_pure (by kernel_rfl) (fun K hK => ?_); go_big_quiet_op; refine hK _ ?_; clear hK K
      refine wpMix_pure (by kernel_rfl) (fun K hK => ?_); go_big_quiet_op; refine hK _ ?_; clear hK K
      refine wpMix_pure (by kernel_rfl) (fun K hK => ?_); go_big_quiet_op; refine hK _ ?_; clear hK K
      refine wpMix_pure (by kernel_rfl) (fun K hK => ?_); go_big_quiet_op; refine hK _ ?_; clear hK K
      refine wpMix_pure (by kernel_rfl) (fun K hK => ?_); go_big_quiet_op; refine hK _ ?_; clear hK K
      refine wpMix_pure (by kernel_rfl) (fun K hK => ?_); go_big_quiet_op; refine hK _ ?_; clear hK K
      refine wpMix_pure (by kernel_rfl) (fun K hK => ?_); go_big_quiet_op; refine hK _ ?_; clear hK K
      refine wpMix_pure (by kernel_rfl) (fun K hK => ?_); go_big_quiet_op; refine hK _ ?_; clear hK K
      refine wpMix_pure (by kernel_rfl) (fun K hK => ?_); go_big_quiet_op; refine hK _ ?_; clear hK K
      refine wpMix_nil ?_
      have hb7 : Below w.heap.size w wj.drew := hb6.trans (Below.drew (Below.refl _ _))
      have how : Own fGroup wj.drew w.heap.size 25 (.slice (some ⟨g, 0, none⟩) xs.length cg) ((xs.set a (lendAk A B 2)).set b (lendBk A B 2)) := how6
      have hn0 : 0 ≤ (min (max (A.probes - A.people) 0) (max (B.people - B.probes) 0)) ∧ (min (max (A.probes - A.people) 0) (max (B.people - B.probes) 0)) ≤ 30 := by omega
      have hgv : Hid (giveF A.probes A.people B.probes B.people = (min (max (A.probes - A.people) 0) (max (B.people - B.probes) 0))) := rfl
      generalize (min (max (A.probes - A.people) 0) (max (B.people - B.probes) 0)) = nn at *
      clear gcA1 gcAf gcB1 gcBf hS0
      have dAf : wj.drew.cell? ⟨g, a * 7 + 5, none⟩ = some (.int .i64 A.probes) := cAf
      have dBf : wj.drew.cell? ⟨g, b * 7 + 5, none⟩ = some (.int .i64 B.probes) := cBf
      generalize wj.drew = W0 at *
      have zA : W0.frozen? ⟨g, a * 7 + 5, none⟩ = false := how.frozenF _
      have zB : ∀ W, Own fGroup W w.heap.size 25 (.slice (some ⟨g, 0, none⟩) xs.length cg) ((xs.set a (lendAk A B 3)).set b (lendBk A B 2)) → W.frozen? ⟨g, b * 7 + 5, none⟩ = false := fun W h => h.frozenF _
      have how1 : Own fGroup (W0.setCell ⟨g, a * 7 + 5, none⟩ (.int .i64 (A.probes - nn))) w.heap.size 25 (.slice (some ⟨g, 0, none⟩) xs.length cg) ((xs.set a (lendAk A B 3)).set b (lendBk A B 2)) := by
        have h := how.setF (k := a) (by rw [lk_len]; exact ha) 5 (by decide) (lendAk A B 3) (.int .i64 (A.probes - nn)) (by rw [lk_getA hab, ← hgv.out]; rfl)
        rw [lk_setA hab] at h; exact h
      have hb8 : Below w.heap.size w (W0.setCell ⟨g, a * 7 + 5, none⟩ (.int .i64 (A.probes - nn))) := hb7.setCell (p := ⟨g, a * 7 + 5, none⟩) hgB _
      have dB1 : (W0.setCell ⟨g, a * 7 + 5, none⟩ (.int .i64 (A.probes - nn))).cell? ⟨g, b * 7 + 5, none⟩ = some (.int .i64 B.probes) := (World.cell?_setCell_other _ _ _ _ (by simp [hab])).trans dBf
      go_upto_region 13 with fail
      refine at_world (fun W => Own fGroup W w.heap.size 25 (.slice (some ⟨g, 0, none⟩) xs.length cg) ((xs.set a (lendAk A B 3)).set b (lendBk A B 2)) ∧ Below w.heap.size w W ∧ W.cell? ⟨g, b * 7 + 5, none⟩ = some (.int .i64 B.probes)) ⟨how1, hb8, dB1⟩ ?_
      clear how1 hb8 dB1 how hb7 dAf dBf zA how6 hb6 cA1 cAf cB1 cBf
      rintro W1 ⟨how1, hb8, dB1⟩
      have zB1 := zB W1 how1
      clear zB
      have how2 : Own fGroup (W1.setCell ⟨g, b * 7 + 5, none⟩ (.int .i64 (B.probes + nn))) w.heap.size 25 (.slice (some ⟨g, 0, none⟩) xs.length cg) ((xs.set a (lendAk A B 3)).set b (lendBk A B 3)) := by
        have h := how1.setF (k := b) (by rw [lk_len]; exact hbl) 5 (by decide) (lendBk A B 3) (.int .i64 (B.probes + nn)) (by rw [lk_getB, ← hgv.out]; rfl)
        rw [List.set_set] at h; exact h
      have hb9 : Below w.heap.size w (W1.setCell ⟨g, b * 7 + 5, none⟩ (.int .i64 (B.probes + nn))) := hb8.setCell (p := ⟨g, b * 7 + 5, none⟩) hgB _
      go_wp2
      go_roundw
      case rel => exact ⟨3, by go_num, by omega, how2, hb9⟩
      case measure => simp [intOf]

    · go_wp2
      go_ret2
      exact ⟨_, by rw [HC.out]; rfl, by rw [HL.out, hlk.out]; exact how, hb5⟩


end Go.Proofs.YtdpeffaplkbkgaaGreatDoor

namespace Go.Proofs.YtdpeffaplkbkgaaGreatDoor
open Go.RowKit
set_option linter.unusedVariables false

def digB (c : UInt8) : Bool := decide (48 ≤ c.toNat) && decide (c.toNat ≤ 57)
def valL (a : Nat) (l : List UInt8) : Nat := l.foldl (fun n c => 10 * n + (c.toNat - 48)) a
theorem valL_nil (a : Nat) : valL a [] = a := rfl
theorem valL_cons (a : Nat) (c : UInt8) (l : List UInt8) : valL a (c :: l) = valL (10 * a + (c.toNat - 48)) l := by unfold valL; rw [List.foldl_cons]
theorem valL_snoc (a : Nat) (l : List UInt8) (c : UInt8) : valL a (l ++ [c]) = 10 * valL a l + (c.toNat - 48) := by
  unfold valL; rw [List.foldl_append]; rfl
theorem digB_of (k : Nat) : digB (UInt8.ofNat (48 + k % 10)) = true := by
  unfold digB; rw [UInt8.toNat_ofNat']
  simp only [Bool.and_eq_true, decide_eq_true_eq]; omega
theorem digB_val (k : Nat) : (UInt8.ofNat (48 + k % 10)).toNat - 48 = k % 10 := by
  rw [UInt8.toNat_ofNat']; omega
theorem dig_all : ∀ u, (dig u).all digB = true := by
  intro u
  induction u using Nat.strongRecOn with
  | _ u ih =>
    by_cases h : u = 0
    · subst h; rw [dig_zero]; rfl
    · rw [dig_step h, List.all_append, ih (u / 10) (by omega)]
      simp only [List.all_cons, List.all_nil, Bool.and_true, Bool.true_and]
      exact digB_of u
theorem dig_val : ∀ u, valL 0 (dig u) = u := by
  intro u
  induction u using Nat.strongRecOn with
  | _ u ih =>
    by_cases h : u = 0
    · subst h; rw [dig_zero]; rfl
    · rw [dig_step h, valL_snoc, ih (u / 10) (by omega), digB_val]; omega
theorem dig_ge : ∀ (k u : Nat), 10 ^ k ≤ u → k + 1 ≤ (dig u).length
  | 0, u, h => by
    rw [Nat.pow_zero] at h
    rw [dig_step (by omega)]; simp
  | k + 1, u, h => by
    have hp : 0 < 10 ^ k := Nat.pow_pos (by decide)
    rw [Nat.pow_succ] at h
    have := dig_ge k (u / 10) (by omega)
    rw [dig_step (by omega), List.length_append]; simp; omega
theorem dig_lt {k u : Nat} (h : (dig u).length ≤ k) : u < 10 ^ k := by
  rcases Nat.lt_or_ge u (10 ^ k) with h1 | h1
  · exact h1
  · have := dig_ge k u h1; omega
theorem dig_head : ∀ u, (dig u).head? ≠ some 48 := by
  intro u
  induction u using Nat.strongRecOn with
  | _ u ih =>
    by_cases h : u = 0
    · subst h; rw [dig_zero]; simp
    · rw [dig_step h]
      by_cases h1 : u / 10 = 0
      · rw [h1, dig_zero]
        simp only [List.nil_append, List.head?_cons, ne_eq, Option.some.injEq]
        intro e
        have e2 := congrArg UInt8.toNat e
        rw [UInt8.toNat_ofNat'] at e2
        have : (48 : UInt8).toNat = 48 := rfl
        omega
      · have ih1 := ih (u / 10) (by omega)
        rw [dig_step h1] at ih1 ⊢
        rw [List.head?_append] at ih1 ⊢
        simp only [List.head?_append] at ih1 ⊢
        revert ih1
        generalize (dig (u / 10 / 10)).head? = o
        cases o <;> simp
theorem dig_first (u : Nat) (h : u ≠ 0) : ∃ c r, dig u = c :: r := by
  rcases hd : dig u with _ | ⟨c, r⟩
  · rw [dig_step h] at hd; simp at hd
  · exact ⟨c, r, rfl⟩
/-- Digits that do not begin with 0 spell their number's digits. -/
theorem dig_back : ∀ (n : Nat) (l : List UInt8), l.length = n → l.all digB = true → l.head? ≠ some 48 → dig (valL 0 l) = l ∧ (l ≠ [] → valL 0 l ≠ 0) := by
  intro n
  induction n with
  | zero => intro l hl _ _; obtain rfl := List.eq_nil_of_length_eq_zero hl; exact ⟨by rw [valL_nil, dig_zero], fun h => absurd rfl h⟩
  | succ n ih =>
    intro l hl ha hh
    obtain ⟨p, c, rfl⟩ : ∃ p c, l = p ++ [c] := ⟨l.dropLast, l.getLast (by intro h; subst h; simp at hl), (List.dropLast_concat_getLast _).symm⟩
    rw [List.all_append] at ha
    simp only [List.all_cons, List.all_nil, Bool.and_true, Bool.and_eq_true] at ha
    obtain ⟨ha1, ha2⟩ := ha
    unfold digB at ha2
    simp only [Bool.and_eq_true, decide_eq_true_eq] at ha2
    have hpl : p.length = n := by simp at hl; exact hl
    rw [valL_snoc]
    rcases Nat.eq_zero_or_pos n with h0 | h0
    · obtain rfl : p = [] := List.eq_nil_of_length_eq_zero (by omega)
      have hc : c.toNat ≠ 48 := by
        intro e
        refine hh ?_
        simp only [List.nil_append, List.head?_cons, Option.some.injEq]
        exact UInt8.toNat_inj.1 e
      rw [valL_nil]
      refine ⟨?_, fun _ => by omega⟩
      rw [dig_step (by omega), show (10 * 0 + (c.toNat - 48)) / 10 = 0 by omega, dig_zero]
      rw [show 48 + (10 * 0 + (c.toNat - 48)) % 10 = c.toNat by omega, UInt8.ofNat_toNat]
    · have hpn : p ≠ [] := by intro h; subst h; simp at hpl; omega
      have hph : p.head? ≠ some 48 := by
        cases p with
        | nil => exact absurd rfl hpn
        | cons x p => simpa using hh
      obtain ⟨i1, i2⟩ := ih p hpl ha1 hph
      have i3 := i2 hpn
      refine ⟨?_, fun _ => by omega⟩
      rw [dig_step (by omega), show (10 * valL 0 p + (c.toNat - 48)) / 10 = valL 0 p by omega, i1]
      rw [show 48 + (10 * valL 0 p + (c.toNat - 48)) % 10 = c.toNat by omega, UInt8.ofNat_toNat]
theorem valL_lt : ∀ (l : List UInt8) (a k : Nat), l.all digB = true → a < 10 ^ k → valL a l < 10 ^ (k + l.length)
  | [], a, k, _, h => h
  | c :: l, a, k, ha, h => by
    simp only [List.all_cons, Bool.and_eq_true] at ha
    have h1 := ha.1
    unfold digB at h1
    simp only [Bool.and_eq_true, decide_eq_true_eq] at h1
    have := valL_lt l (10 * a + (c.toNat - 48)) (k + 1) ha.2 (by rw [Nat.pow_succ]; omega)
    rw [valL_cons, List.length_cons, show k + (l.length + 1) = k + 1 + l.length by omega]
    exact this

/-- The number behind a sign. -/
def bodyL (l : List UInt8) : List UInt8 := if l.head? = some 45 then l.drop 1 else l
def numL (l : List UInt8) : Option Int :=
  if (bodyL l).isEmpty || decide (18 < (bodyL l).length) || (decide ((bodyL l).head? = some 48) && decide (1 < l.length)) || !(bodyL l).all digB then none
  else some (if l.head? = some 45 then -(valL 0 (bodyL l) : Int) else (valL 0 (bodyL l) : Int))
theorem itoa_natL {u : Nat} (h : u ≠ 0) : Lib.itoa (u : Int) = dig u := by rw [itoa_ne (by omega), if_neg (by omega)]; rfl
theorem itoa_negL {u : Nat} (h : u ≠ 0) : Lib.itoa (-(u : Int)) = 45 :: dig u := by rw [itoa_ne (by omega), if_pos (by omega), Int.natAbs_neg]; rfl
theorem itoa_zeroL : Lib.itoa 0 = [48] := by
  have h := decS_zero
  unfold decS at h
  have := congrArg (fun s : ByteArray => s.data.toList) h
  simpa using this
theorem dig_head45 (u : Nat) : (dig u).head? ≠ some 45 := by
  intro h
  have ha := dig_all u
  cases hd : dig u with
  | nil => rw [hd] at h; cases h
  | cons c r =>
    rw [hd] at h ha
    injection h with h
    subst h
    simp [digB] at ha
theorem itoa_body {v : Int} : (bodyL (Lib.itoa v)).length = if v = 0 then 1 else (dig v.natAbs).length := by
  by_cases h0 : v = 0
  · subst h0; rw [itoa_zeroL, if_pos rfl]; rfl
  · rw [if_neg h0]
    by_cases hn : v < 0
    · obtain ⟨u, rfl⟩ : ∃ u : Nat, v = -(u : Int) := ⟨v.natAbs, by omega⟩
      rw [itoa_negL (by omega), Int.natAbs_neg]; rfl
    · obtain ⟨u, rfl⟩ : ∃ u : Nat, v = (u : Int) := ⟨v.natAbs, by omega⟩
      rw [itoa_natL (by omega)]
      unfold bodyL
      rw [if_neg (dig_head45 u)]; rfl
/-- The number whose decimal form the bytes are. -/
theorem numL_itoa (v : Int) (h : v.natAbs < 10 ^ 18) : numL (Lib.itoa v) = some v := by
  by_cases h0 : v = 0
  · subst h0; rw [itoa_zeroL]; decide
  · have hne : v.natAbs ≠ 0 := by omega
    obtain ⟨c, r, hcr⟩ := dig_first v.natAbs hne
    have hl := dig_len 18 v.natAbs h
    have hv := dig_val v.natAbs
    have hh := dig_head v.natAbs
    have h45 := dig_head45 v.natAbs
    have ha := dig_all v.natAbs
    by_cases hn : v < 0
    · obtain ⟨u, rfl⟩ : ∃ u : Nat, v = -(u : Int) := ⟨v.natAbs, by omega⟩
      rw [Int.natAbs_neg, Int.natAbs_natCast] at *
      rw [itoa_negL (by omega)]
      have hb : bodyL (45 :: dig u) = dig u := rfl
      unfold numL
      rw [hb, if_neg, List.head?_cons, if_pos rfl, hv]
      rw [ha, hcr]
      rw [hcr] at hh hl
      simp only [List.head?_cons, Option.some.injEq, ne_eq] at hh
      simp [hh]; simpa using hl
    · obtain ⟨u, rfl⟩ : ∃ u : Nat, v = (u : Int) := ⟨v.natAbs, by omega⟩
      rw [Int.natAbs_natCast] at *
      rw [itoa_natL (by omega)]
      have hb : bodyL (dig u) = dig u := by unfold bodyL; rw [if_neg h45]
      unfold numL
      rw [hb, if_neg, if_neg h45, hv]
      rw [ha, hcr]
      rw [hcr] at hh hl
      simp only [List.head?_cons, Option.some.injEq, ne_eq] at hh
      simp [hh]; simpa using hl
theorem numL_back {l : List UInt8} {v : Int} (h : numL l = some v) : Lib.itoa v = l ∧ v.natAbs < 10 ^ 18 ∧ (bodyL l).length ≤ 18 := by
  unfold numL at h
  split at h
  · cases h
  · rename_i hc
    simp only [Bool.or_eq_true, decide_eq_true_eq, Bool.and_eq_true, Bool.not_eq_true', not_or, List.isEmpty_iff] at hc
    obtain ⟨⟨⟨h1, h2⟩, h3⟩, h4⟩ := hc
    have ha : (bodyL l).all digB = true := by simpa using h4
    have h18 : (bodyL l).length ≤ 18 := by omega
    have hlt := valL_lt (bodyL l) 0 0 ha (by decide)
    have hlt2 : valL 0 (bodyL l) < 10 ^ 18 := Nat.lt_of_lt_of_le hlt (Nat.pow_le_pow_right (by decide) (by omega))
    injection h with h
    by_cases h45 : l.head? = some 45
    · rw [if_pos h45] at h
      have hb : bodyL l = l.drop 1 := by unfold bodyL; rw [if_pos h45]
      obtain ⟨r, rfl⟩ : ∃ r, l = 45 :: r := by
        cases l with
        | nil => cases h45
        | cons c r => injection h45 with h45; exact ⟨r, by rw [h45]⟩
      rw [show bodyL (45 :: r) = r from rfl] at *
      have h48 : r.head? ≠ some 48 := by
        intro e
        refine h3 ⟨e, ?_⟩
        cases r with
        | nil => exact absurd rfl h1
        | cons _ _ => simp
      obtain ⟨d1, d2⟩ := dig_back _ r rfl ha h48
      have d3 := d2 h1
      refine ⟨?_, by omega, h18⟩
      rw [← h, itoa_negL d3, d1]
    · rw [if_neg h45] at h
      have hb : bodyL l = l := by unfold bodyL; rw [if_neg h45]
      rw [hb] at h h1 h2 h3 ha h18 hlt hlt2
      by_cases h48 : l.head? = some 48
      · have hl1 : l.length = 1 := by
          have hp : l.length ≠ 0 := by intro e; exact h1 (List.eq_nil_of_length_eq_zero e)
          have : ¬ 1 < l.length := fun e => h3 ⟨h48, e⟩
          omega
        match l, hl1, h48 with
        | [c], _, h48 =>
          injection h48 with h48
          subst h48
          subst h
          exact ⟨itoa_zeroL, by decide, by decide⟩
      · obtain ⟨d1, d2⟩ := dig_back _ l rfl ha h48
        have d3 := d2 h1
        refine ⟨?_, by omega, by rw [hb]; exact h18⟩
        rw [← h, itoa_natL d3, d1]
theorem parseUintM_digits (M : Nat) : ∀ (l : List UInt8) (a k : Nat), l.all digB = true → a < 10 ^ k → k + l.length ≤ 18 → 10 ^ 18 ≤ M → Lib.parseUintM M a l = .ok (valL a l)
  | [], a, k, _, _, _, _ => rfl
  | c :: l, a, k, ha, h, hk, hM => by
    simp only [List.all_cons, Bool.and_eq_true] at ha
    have h1 := ha.1
    unfold digB at h1
    simp only [Bool.and_eq_true, decide_eq_true_eq] at h1
    rw [List.length_cons] at hk
    have h10 : a * 10 + (c.toNat - 48) < 10 ^ (k + 1) := by rw [Nat.pow_succ]; omega
    have h18 : 10 ^ (k + 1) ≤ 10 ^ 18 := Nat.pow_le_pow_right (by decide) (by omega)
    have h17 : (10 : Nat) ^ 18 = 1000000000000000000 := by decide
    unfold Lib.parseUintM
    rw [if_pos h1, if_neg (by omega), if_neg (by omega), parseUintM_digits M l _ (k + 1) ha.2 h10 (by omega) hM, valL_cons, Nat.mul_comm]
theorem parse_of_num {l : List UInt8} {v : Int} (h : numL l = some v) : Lib.parseIntB 64 l = .ok v := by
  obtain ⟨e, hv, _⟩ := numL_back h
  subst e
  have h17 : (10 : Nat) ^ 18 = 1000000000000000000 := by decide
  by_cases h0 : v = 0
  · subst h0; rw [itoa_zeroL]; rfl
  · have hne : v.natAbs ≠ 0 := by omega
    obtain ⟨c, r, hcr⟩ := dig_first v.natAbs hne
    have hl := dig_len 18 v.natAbs hv
    have hval := dig_val v.natAbs
    have ha := dig_all v.natAbs
    have h45 := dig_head45 v.natAbs
    have hp := parseUintM_digits (2 ^ 64 - 1) (dig v.natAbs) 0 0 ha (by decide) (by omega) (by decide)
    rw [hval] at hp
    have hpu : Lib.parseUintB 64 (dig v.natAbs) = .ok v.natAbs := by
      unfold Lib.parseUintB; rw [if_neg (by rw [hcr]; simp)]; exact hp
    by_cases hn : v < 0
    · obtain ⟨u, rfl⟩ : ∃ u : Nat, v = -(u : Int) := ⟨v.natAbs, by omega⟩
      rw [Int.natAbs_neg, Int.natAbs_natCast] at *
      rw [itoa_negL (by omega), Lib.parseIntB_minus, hpu]
      unfold Lib.signedC
      simp only
      rw [if_neg (by omega)]
    · obtain ⟨u, rfl⟩ : ∃ u : Nat, v = (u : Int) := ⟨v.natAbs, by omega⟩
      rw [Int.natAbs_natCast] at *
      rw [itoa_natL (by omega), hcr]
      rw [hcr] at ha h45 hpu
      simp only [List.all_cons, Bool.and_eq_true] at ha
      have h1 := ha.1
      unfold digB at h1
      simp only [Bool.and_eq_true, decide_eq_true_eq] at h1
      rw [Lib.parseIntB_plain 64 c r (by omega) (by omega), hpu]
      unfold Lib.signlessC
      simp only
      rw [if_neg (by omega)]
/-- What the program's reading asks: it parses, is short, and spells itself. -/
theorem num_of_parse {l : List UInt8} {v : Int} (h1 : (bodyL l).length ≤ 18) (h2 : Lib.itoa v = l) : numL l = some v := by
  subst h2
  refine numL_itoa v ?_
  have hb := itoa_body (v := v)
  by_cases h0 : v = 0
  · subst h0; decide
  · rw [if_neg h0] at hb
    rw [hb] at h1
    exact dig_lt h1
end Go.Proofs.YtdpeffaplkbkgaaGreatDoor

namespace Go.Proofs.YtdpeffaplkbkgaaGreatDoor
open Go.RowKit
set_option linter.unusedVariables false

def numOk (s : ByteArray) : Bool := (numL s.data.toList).isSome
def numV (s : ByteArray) : Int := (numL s.data.toList).getD 0
theorem num_none {s : ByteArray} (h : numL s.data.toList = none) : numOk s = false ∧ numV s = 0 := by unfold numOk numV; rw [h]; exact ⟨rfl, rfl⟩
theorem num_some {s : ByteArray} {v : Int} (h : numL s.data.toList = some v) : numOk s = true ∧ numV s = v := by unfold numOk numV; rw [h]; exact ⟨rfl, rfl⟩
structure RdTabs (w : World) : Prop where
  tab : Tab10 w
  syn : ∃ tp p, w.var? Tryz.prog "strconv.ErrSyntax" = some #[.iface tp p]
  ran : ∃ tp p, w.var? Tryz.prog "strconv.ErrRange" = some #[.iface tp p]
theorem RdTabs.below {w w' : World} (h : RdTabs w) (hb : Below w.heap.size w w') : RdTabs w' := by
  obtain ⟨h1, ⟨t1, p1, h2⟩, ⟨t2, p2, h3⟩⟩ := h
  exact ⟨h1.below hb, ⟨t1, p1, Go.Joins.var_stays (g := 1) (by kernel_rfl) h2 hb (Nat.le_refl _)⟩, ⟨t2, p2, Go.Joins.var_stays (g := 2) (by kernel_rfl) h3 hb (Nat.le_refl _)⟩⟩
theorem starErr : ("*" ++ "errors.errorString") = "*errors.errorString" := by decide
theorem errRow (u : TypeId) (h : Tryz.prog.typeName? 3 u = some "*errors.errorString") : u = 149 :=
  typeName_ptr_named (nm := "errors.errorString") (by rw [starErr]; kernel_rfl) (by kernel_rfl) (by decide) u (by rw [starErr]; exact h)
set_option maxRecDepth 100000 in
theorem rdTabs_of {laid : List (String × DataW Unit)} {W : World} (h : laidMetH Tryz.prog laid W) (h0 : laid.filter (fun x => x.1 == "internal/strconv.uint64pow10") = [("internal/strconv.uint64pow10", Lib.tabData .u64 Lib.pow10Tab)])
    (h1 : laid.filter (fun x => x.1 == "strconv.ErrSyntax") = [("strconv.ErrSyntax", .iface "*errors.errorString" (.ptr (.agg [.lit (.string [105, 110, 118, 97, 108, 105, 100, 32, 115, 121, 110, 116, 97, 120])])))])
    (h2 : laid.filter (fun x => x.1 == "strconv.ErrRange") = [("strconv.ErrRange", .iface "*errors.errorString" (.ptr (.agg [.lit (.string [118, 97, 108, 117, 101, 32, 111, 117, 116, 32, 111, 102, 32, 114, 97, 110, 103, 101])])))]) : RdTabs W := by
  have g1 := h.filter (fun x => x.1 == "strconv.ErrSyntax")
  rw [h1] at g1
  have g1 := Eq.mp (MakeChecks.laidMetH_plain _ _ _ rfl) g1
  have g2 := h.filter (fun x => x.1 == "strconv.ErrRange")
  rw [h2] at g2
  have g2 := Eq.mp (MakeChecks.laidMetH_plain _ _ _ rfl) g2
  obtain ⟨a1, s1, q1, _⟩ := laid_sentinel (ti := 96) g1 (g := 1) (by kernel_rfl) (by kernel_rfl) Tryz.underlying96 errRow Tryz.underlying149 Tryz.underlying151 rfl rfl Tryz.underlying9 (by kernel_rfl) (by kernel_rfl)
  obtain ⟨a2, s2, q2, _⟩ := laid_sentinel (ti := 96) g2 (g := 2) (by kernel_rfl) (by kernel_rfl) Tryz.underlying96 errRow Tryz.underlying149 Tryz.underlying151 rfl rfl Tryz.underlying9 (by kernel_rfl) (by kernel_rfl)
  exact ⟨tab10_of h h0, ⟨_, _, q1⟩, ⟨_, _, q2⟩⟩
theorem trim_minus (l : List UInt8) : Lib.trimPrefix l [45] = bodyL l := by
  unfold Lib.trimPrefix Lib.hasPrefix bodyL
  cases l with
  | nil => rfl
  | cons c r =>
    by_cases h : c = 45
    · subst h; simp
    · have h' : ¬ 45 = c := fun e => h e.symm
      simp [h, h']
--NUMBER
theorem num_len {l : List UInt8} (h : (bodyL l).length = 0 ∨ 18 < (bodyL l).length) : numL l = none := by
  unfold numL; rw [if_pos]
  rcases h with h | h
  · rw [List.eq_nil_of_length_eq_zero h]; rfl
  · simp [h]
theorem num_zero {l : List UInt8} (h : (bodyL l).head? = some 48) (h1 : 1 < l.length) : numL l = none := by
  unfold numL; rw [if_pos]; simp [h, h1]
theorem num_bad {l : List UInt8} {k : Nat} (hk : k < (bodyL l).length) (h : digB (bodyL l)[k] = false) : numL l = none := by
  unfold numL; rw [if_pos]
  have : (bodyL l).all digB = false := by
    rw [List.all_eq_false]; exact ⟨_, List.getElem_mem hk, by rw [h]; decide⟩
  simp [this]
theorem num_is {l : List UInt8} (h0 : 0 < (bodyL l).length) (h18 : (bodyL l).length ≤ 18) (hz : ¬ ((bodyL l).head? = some 48 ∧ 1 < l.length)) (ha : (bodyL l).all digB = true) : numL l = some (if l.head? = some 45 then -(valL 0 (bodyL l) : Int) else (valL 0 (bodyL l) : Int)) := by
  unfold numL; rw [if_neg]
  intro h
  simp only [Bool.or_eq_true, Bool.and_eq_true, decide_eq_true_eq, Bool.not_eq_true', List.isEmpty_iff] at h
  rcases h with ((h | h) | h) | h
  · rw [h] at h0; simp at h0
  · omega
  · exact hz h
  · rw [ha] at h; cases h
theorem digitB_dig (c : UInt8) : digitB (c.toNat : Int) = digB c := by
  unfold digitB digB inB
  rw [Bool.eq_iff_iff]
  simp
  omega
theorem byte_ne48 {a : UInt8} (h : a ≠ 48) : ¬ (a.toNat : Int) = 48 := by
  intro e; have h48 : (48 : UInt8).toNat = 48 := rfl
  exact h (UInt8.toNat_inj.1 (by omega))
theorem at_listN {s : ByteArray} {k : Nat} (h : k < s.size) : s.data.toList[k]? = some s[k] := by
  rw [List.getElem?_eq_getElem (by simpa using h)]; rfl
--NUMBEREND
set_option maxRecDepth 100000 in
set_option maxHeartbeats 4000000 in
theorem ReadDecimal_any (s : ByteArray) (w : World) (hs : s.size ≤ 1048576) (ht : RdTabs w) :
    Calls Tryz.prog 53 #[.string s] w fun e w' => e = .returned (.tuple #[.int .i64 (numV s), .bool (numOk s)]) ∧ Below w.heap.size w w' := by
  have hno : (∀ v, Lib.parseIntB 64 s.data.toList ≠ .ok v) → numOk s = false ∧ numV s = 0 := fun h => num_none (by
    cases hn : numL s.data.toList with
    | none => rfl
    | some v => exact absurd (parse_of_num hn) (h v))
  rcases hp : Lib.parseIntB 64 s.data.toList with v | _ | _
  · have hbd := Lib.parseIntB_bounds hp
    have hv0 : -9223372036854775808 ≤ v := by have := hbd.1; simpa using this
    have e63 : ((2 ^ (64 - 1) : Nat) : Int) = 9223372036854775808 := by decide
    have hv1 : v ≤ 9223372036854775807 := by have := hbd.2; omega
    clear e63
    clear hbd
    obtain ⟨b, hbl⟩ : ∃ b : ByteArray, b = ⟨(bodyL s.data.toList).toArray⟩ := ⟨_, rfl⟩
    have hbs : b.size = (bodyL s.data.toList).length := by rw [hbl, show (ByteArray.mk (bodyL s.data.toList).toArray).size = (bodyL s.data.toList).toArray.size from rfl]; simp
    have hble : b.size ≤ 1048576 := by
      rw [hbs]
      have : (bodyL s.data.toList).length ≤ s.data.toList.length := by unfold bodyL; split <;> simp
      have h2 : s.data.toList.length = s.size := by simp
      omega
    have htr : (⟨(Lib.trimPrefix s.data.toList (ByteArray.mk #[45]).data.toList).toArray⟩ : ByteArray) = b := by
      rw [hbl, show (ByteArray.mk #[45]).data.toList = [45] from rfl, trim_minus]
    have HP := Lib.hid hp
    clear hp
    by_cases h18 : (18 : Int) < (b.size : Int)
    · obtain ⟨hn1, hn2⟩ : numOk s = false ∧ numV s = 0 := num_none (by
        cases hn : numL s.data.toList with
        | none => rfl
        | some u => have := (numL_back hn).2.2; omega)
      rw [hn1, hn2]
      clear hn1 hn2 hbl hbs
      go_enter Tryz.func53, Tryz.ntmps53
      go_wp2_with fail
      refine (Tryz.strconv_ParseInt_10_at64_ok s (by omega) v HP.out _).mono ?_
      rintro e w1 ⟨rfl, hw1⟩
      have hb1 : Below w.heap.size w w1 := by
        rcases hw1 with rfl | ⟨t, rfl⟩
        · exact Below.refl _ _
        · exact Go.Joins.below_bytesWorld _ _ _ _ (Nat.le_refl _)
      clear hw1
      go_wp2_with fail
      refine (Tryz.strings_TrimPrefix s _ _).mono ?_
      rintro e w' ⟨rfl, rfl⟩
      rw [htr]
      go_wp2
      go_ret2
      exact ⟨rfl, hb1⟩
    · have hd21 := itoa_len20 hv0 hv1
      rw [← decS_size] at hd21
      by_cases hd : decS v = s
      · have hl : Lib.itoa v = s.data.toList := by
          have := congrArg (fun x : ByteArray => x.data.toList) hd
          simpa [decS] using this
        obtain ⟨hn1, hn2⟩ : numOk s = true ∧ numV s = v := num_some (num_of_parse (by omega) hl)
        have e1 : ((decS v).toList == s.toList) = true := by rw [beq_iff_eq, hd]
        rw [hn1, hn2]
        clear hn1 hn2 hbl hbs hl hd
        go_enter Tryz.func53, Tryz.ntmps53
        go_wp2_with fail
        refine (Tryz.strconv_ParseInt_10_at64_ok s (by omega) v HP.out _).mono ?_
        rintro e w1 ⟨rfl, hw1⟩
        have hb1 : Below w.heap.size w w1 := by
          rcases hw1 with rfl | ⟨t, rfl⟩
          · exact Below.refl _ _
          · exact Go.Joins.below_bytesWorld _ _ _ _ (Nat.le_refl _)
        clear hw1
        go_wp2_with fail
        refine (Tryz.strings_TrimPrefix s _ _).mono ?_
        rintro e w' ⟨rfl, rfl⟩
        rw [htr]
        go_wp2_with fail
        refine (Decimal_any v _ hv0 hv1 (ht.tab.below hb1)).mono ?_
        rintro e w2 ⟨rfl, hb2⟩
        go_wp2
        go_ret2
        exact ⟨rfl, hb1.trans (hb2.mono hb1.size)⟩
      · obtain ⟨hn1, hn2⟩ : numOk s = false ∧ numV s = 0 := num_none (by
          cases hn : numL s.data.toList with
          | none => rfl
          | some u =>
            have h1 := parse_of_num hn
            rw [HP.out] at h1
            injection h1 with h1
            subst h1
            exact absurd (show decS v = s from by unfold decS; rw [(numL_back hn).1]) hd)
        have e1 : ((decS v).toList == s.toList) = false := bytes_beq_false hd
        rw [hn1, hn2]
        clear hn1 hn2 hbl hbs hd
        go_enter Tryz.func53, Tryz.ntmps53
        go_wp2_with fail
        refine (Tryz.strconv_ParseInt_10_at64_ok s (by omega) v HP.out _).mono ?_
        rintro e w1 ⟨rfl, hw1⟩
        have hb1 : Below w.heap.size w w1 := by
          rcases hw1 with rfl | ⟨t, rfl⟩
          · exact Below.refl _ _
          · exact Go.Joins.below_bytesWorld _ _ _ _ (Nat.le_refl _)
        clear hw1
        go_wp2_with fail
        refine (Tryz.strings_TrimPrefix s _ _).mono ?_
        rintro e w' ⟨rfl, rfl⟩
        rw [htr]
        go_wp2_with fail
        refine (Decimal_any v _ hv0 hv1 (ht.tab.below hb1)).mono ?_
        rintro e w2 ⟨rfl, hb2⟩
        go_wp2
        go_ret2
        exact ⟨rfl, hb1.trans (hb2.mono hb1.size)⟩
  · obtain ⟨hn1, hn2⟩ := hno (fun v h => by rw [hp] at h; cases h)
    obtain ⟨tp, p, hv⟩ := ht.syn
    rw [hn1, hn2]
    go_enter Tryz.func53, Tryz.ntmps53
    go_wp2_with fail
    refine (Tryz.strconv_ParseInt_10_at64_syntax_var s (by omega) hp tp p _ hv).mono ?_
    rintro e w1 ⟨N, rfl, _, _, hb⟩
    go_wp2
    go_ret2
    exact ⟨rfl, hb⟩
  · obtain ⟨hn1, hn2⟩ := hno (fun v h => by rw [hp] at h; cases h)
    obtain ⟨tp, p, hv⟩ := ht.ran
    rw [hn1, hn2]
    go_enter Tryz.func53, Tryz.ntmps53
    go_wp2_with fail
    refine (Tryz.strconv_ParseInt_10_at64_range_var s (by omega) hp tp p _ hv).mono ?_
    rintro e w1 ⟨N, rfl, _, _, hb⟩
    go_wp2
    go_ret2
    exact ⟨rfl, hb⟩
end Go.Proofs.YtdpeffaplkbkgaaGreatDoor
