/- Contracts: a list with another block. Written by wip/gen/bq.py. -/
import Derived.Test.YtdlihohkamajbaaGreatDoorBd
namespace Go.Proofs.YtdlihohkamajbaaGreatDoor
open Go.RowKit
set_option linter.unusedVariables false

def skB (xs : List DBlock) (b : DBlock) : Nat := if hasKey xs b then atB xs b + 1 else atB xs b
def putF (xs : List DBlock) (b : DBlock) : List DBlock := xs.take (atB xs b) ++ b :: xs.drop (skB xs b)
def putK (xs : List DBlock) (b : DBlock) (k : Nat) : List DBlock := if k ≤ atB xs b then xs.take k else xs.take (atB xs b) ++ b :: (xs.take k).drop (skB xs b)
theorem putK_A {xs : List DBlock} {b : DBlock} {k : Nat} (hk : k < xs.length) (h : k < atB xs b) : putK xs b (k + 1) = putK xs b k ++ [xs[k]] := by
  unfold putK; rw [if_pos (by omega), if_pos (by omega), List.take_succ_eq_append_getElem hk]
theorem putK_B1 {xs : List DBlock} {b : DBlock} (h : hasKey xs b = true) : putK xs b (atB xs b + 1) = putK xs b (atB xs b) ++ [b] := by
  unfold putK; rw [if_neg (by omega), if_pos (Nat.le_refl _)]
  have : (xs.take (atB xs b + 1)).drop (skB xs b) = [] := by unfold skB; rw [if_pos h]; exact List.drop_of_length_le (by simp; omega)
  rw [this]
theorem putK_B2 {xs : List DBlock} {b : DBlock} (hk : atB xs b < xs.length) (h : hasKey xs b = false) : putK xs b (atB xs b + 1) = (putK xs b (atB xs b) ++ [b]) ++ [xs[atB xs b]] := by
  unfold putK; rw [if_neg (by omega), if_pos (Nat.le_refl _)]
  have : (xs.take (atB xs b + 1)).drop (skB xs b) = [xs[atB xs b]] := by
    have e : skB xs b = atB xs b := by unfold skB; rw [h]; rfl
    rw [e, List.take_succ_eq_append_getElem hk, List.drop_append_of_le_length (by simp; omega), List.drop_of_length_le (by simp; omega)]; rfl
  rw [this]; simp
theorem putK_C {xs : List DBlock} {b : DBlock} {k : Nat} (hk : k < xs.length) (h : atB xs b < k) : putK xs b (k + 1) = putK xs b k ++ [xs[k]] := by
  unfold putK; rw [if_neg (by omega), if_neg (by omega)]
  have hs : skB xs b ≤ k := by unfold skB; split <;> omega
  rw [List.take_succ_eq_append_getElem hk, List.drop_append_of_le_length (by simp; omega)]; simp
theorem putK_end1 {xs : List DBlock} {b : DBlock} (h : atB xs b < xs.length) : putK xs b xs.length = putF xs b := by
  unfold putK putF; rw [if_neg (by omega), List.take_length]
theorem putK_end2 {xs : List DBlock} {b : DBlock} (h : atB xs b = xs.length) : putK xs b xs.length ++ [b] = putF xs b := by
  unfold putK putF; rw [if_pos (by omega)]
  have : xs.drop (skB xs b) = [] := List.drop_of_length_le (by unfold skB; split <;> omega)
  rw [this, h]
theorem putK_len {xs : List DBlock} {b : DBlock} {k : Nat} : (putK xs b k).length ≤ k + 1 + xs.length := by
  unfold putK; split
  · simp; omega
  · simp; have := atB_le xs b; omega
theorem key_at {xs : List DBlock} (h : Ordered xs) {b : DBlock} {k : Nat} (hk : k < xs.length) : keyB xs[k] b.kind b.name = (decide (k = atB xs b) && hasKey xs b) := by
  cases hh : keyB xs[k] b.kind b.name with
  | true =>
    have e := atB_key h hk hh
    have : hasKey xs b = true := by unfold hasKey; rw [e, List.getElem?_eq_getElem hk]; exact hh
    rw [this, e]; simp
  | false =>
    cases h2 : hasKey xs b with
    | false => simp
    | true =>
      by_cases e : k = atB xs b
      · subst e
        obtain ⟨_, h3⟩ := hasKey_some h2
        rw [h3] at hh; cases hh
      · simp [e]
theorem before_at {xs : List DBlock} {b : DBlock} {k : Nat} (hk : k < xs.length) (h : k < atB xs b) : beforeB xs[k] b = true := (takeWhile_spec (fun x => beforeB x b) xs).2.1 k hk h
theorem before_not {xs : List DBlock} {b : DBlock} (hk : atB xs b < xs.length) : beforeB xs[atB xs b] b = false := (takeWhile_spec (fun x => beforeB x b) xs).2.2 hk
set_option maxRecDepth 100000 in
set_option maxHeartbeats 4000000 in
theorem l29Put_any (v : Value) (xs : List DBlock) (fp : List Nat) (t : DBlock) (w : World) (hx : Sl fBlock.cod w v xs fp) (hor : Ordered xs) (hl : xs.length ≤ 1000000) :
    Calls Tryz.prog 60 #[v, .agg #[.string t.kind, .string t.name, .string t.text]] w fun e w' => OwnR fBlock 52 w (putF xs t) e w' := by
  obtain ⟨A, cap, rfl, hlen, hcap⟩ := hx.form
  obtain ⟨i0, hi, hz0, hz1, hz2⟩ := info_parts infoBlock2
  have hatn := atB_le xs t
  have hpt := (PBlock.box w t 52).below' ((Below.refl _ _).alloc (Nat.le_refl _) (.cells #[] 52))
  have ho0 : Own fBlock ((w.alloc (.cells #[.string t.kind, .string t.name, .string t.text] 52)).alloc (.cells #[] 52)) (w.heap.size + 1) 52 (.slice (some ⟨(w.alloc (.cells #[.string t.kind, .string t.name, .string t.text] 52)).heap.size, 0, none⟩) 0 0) [] := Own.lit0m fBlock (by simp)
  rw [World.size_alloc] at ho0
  go_enter Tryz.func60, Tryz.ntmps60
  go_wp2
  refine at_world (fun W => Below w.heap.size w W ∧ PBlock W w.heap.size 0 t ∧ Own fBlock W (w.heap.size + 1) 52 (.slice (some ⟨w.heap.size + 1, 0, none⟩) 0 0) []) ⟨(by repeat (first | exact Below.refl _ _ | assumption | refine Below.alloc ?_ (by first | omega | (simp <;> omega)) _ | refine Below.setCell ?_ (by first | (show _ ≤ _; omega) | (simp <;> omega)) _ | refine Below.drew ?_ | refine below_drewN ?_ _)), hpt, ho0⟩ ?_
  clear hpt ho0
  rintro W0 ⟨hW0, hpt, ho0⟩
  have hz0' := hpt.lt
  go_loopw [5, 6, 7] (fun o d i wr => ∃ k : Nat, k ≤ xs.length ∧ i = .int .i64 k ∧ ∃ Dn : Bool, d = .bool Dn ∧ Hid (Dn = decide (atB xs t < k)) ∧ Own fBlock wr (w.heap.size + 1) 52 o (putK xs t k) ∧ Below (w.heap.size + 1) W0 wr) (fun _ _ i _ => xs.length - (intOf i).toNat)
  case atStart => exact ⟨0, Nat.zero_le _, rfl, false, rfl, by show _ = _; simp, by unfold putK; rw [if_pos (Nat.zero_le _)]; exact ho0, Below.refl _ _⟩
  case round =>
    clear ho0
    obtain ⟨k, hk, rfl, Dn, rfl, HD, ho, hB⟩ := hrel
    have hb : Below w.heap.size w wr := hW0.trans (hB.mono (Nat.le_succ _))
    have hp : PBlock wr w.heap.size 0 t := hpt.below hB (Nat.lt_succ_self _)
    have hBs := hB.size
    have hpl := putK_len (xs := xs) (b := t) (k := k)
    by_cases hlt : k < xs.length
    · obtain ⟨b, off, rfl, hbm, hok, hpk⟩ := PBlock.elem (hx.below' hb) hlt
      have hbl := hx.lt b hbm
      have hkey := key_at hor (b := t) hlt
      rcases Nat.lt_or_ge k (atB xs t) with hA | hge
      · have hbf := before_at hlt hA
        obtain rfl : Dn = false := by have := HD.out; rw [this]; simp; omega
        have hkf : keyB xs[k] t.kind t.name = false := by rw [hkey]; simp; omega
        have HK := Lib.hid (putK_A hlt hA)
        clear hkey
        go_wp2_with fail
        refine (l29Before_any _ _ _ _ _ _ _ hpk hp).mono ?_
        rintro e w2 ⟨rfl, hb2⟩
        have hBn : Below (w.heap.size + 1) W0 w2 := hB.trans (hb2.mono (by omega))
        have hoN := ho.below hb2
        obtain ⟨c0, c1, c2⟩ := hpk.below' hb2
        obtain ⟨d0, d1, d2⟩ := hp.below' hb2
        clear ho hpk hp
        rw [hbf]
        go_wp2
        have gc0 := cell_regrown c0
        have gc1 := cell_regrown c1
        have gc2 := cell_regrown c2
        have gd0 := cell_regrown d0
        have gd1 := cell_regrown d1
        have gd2 := cell_regrown d2
        refine wp_region_mix (C := fun w' => ∃ p : Regrown, w' = Go.Sort.grow (redrawn w2 p.d) p.os) [true, true, true, true, true, true, true, true, true, true, true, true, true, true, true, true, true, true] (by kernel_rfl) (by kernel_rfl) (by kernel_rfl) (fun _ _ d _ _ h => by cases d <;> exact h) (regrown_of_below (Below.drew (Below.refl _ _))) ?_
        have hS0 : Below w2.heap.size w2 w2.drew := Below.drew (Below.refl _ _)
        refine wpMix_pure (by kernel_rfl) (fun K hK => ?_)
        go_big_quiet_op
        refine hK _ ?_; clear hK K
        refine wpMix_pure (by kernel_rfl) (fun K hK => ?_)
        go_big_quiet_op
        refine hK _ ?_; clear hK K
        refine wpMix_pure (by kernel_rfl) (fun K hK => ?_)
        go_big_quiet_op
        refine hK _ ?_; clear hK K
        refine wpMix_pure (by kernel_rfl) (fun K hK => ?_)
        go_big_quiet_op
        refine hK _ ?_; clear hK K
        refine wpMix_pure (by kernel_rfl) (fun K hK => ?_)
        go_big_quiet_op
        refine hK _ ?_; clear hK K
        refine wpMix_pure (by kernel_rfl) (fun K hK => ?_)
        go_big_quiet_op
        refine hK _ ?_; clear hK K
        refine wpMix_pure (by kernel_rfl) (fun K hK => ?_)
        go_big_quiet_op
        refine hK _ ?_; clear hK K
        by_cases hq7 : xs[k].kind = t.kind
        · skip
          have e7 : (xs[k].kind.toList == t.kind.toList) = true := eqS_true.2 hq7
          refine wpMix_pure (by kernel_rfl) (fun K hK => ?_)
          go_big_quiet_op
          refine hK _ ?_; clear hK K
          refine wpMix_pure (by kernel_rfl) (fun K hK => ?_)
          go_big_quiet_op
          refine hK _ ?_; clear hK K
          refine wpMix_pure (by kernel_rfl) (fun K hK => ?_)
          go_big_quiet_op
          refine hK _ ?_; clear hK K
          refine wpMix_pure (by kernel_rfl) (fun K hK => ?_)
          go_big_quiet_op
          refine hK _ ?_; clear hK K
          refine wpMix_pure (by kernel_rfl) (fun K hK => ?_)
          go_big_quiet_op
          refine hK _ ?_; clear hK K
          refine wpMix_pure (by kernel_rfl) (fun K hK => ?_)
          go_big_quiet_op
          refine hK _ ?_; clear hK K
          refine wpMix_pure (by kernel_rfl) (fun K hK => ?_)
          go_big_quiet_op
          refine hK _ ?_; clear hK K
          refine wpMix_pure (by kernel_rfl) (fun K hK => ?_)
          go_big_quiet_op
          refine hK _ ?_; clear hK K
          refine wpMix_pure (by kernel_rfl) (fun K hK => ?_)
          go_big_quiet_op
          refine hK _ ?_; clear hK K
          by_cases hq16 : xs[k].name = t.name
          · skip
            have e8 : (xs[k].name.toList == t.name.toList) = true := eqS_true.2 hq16
            refine wpMix_pure (by kernel_rfl) (fun K hK => ?_)
            go_big_quiet_op
            refine hK _ ?_; clear hK K
            refine wpMix_pure (by kernel_rfl) (fun K hK => ?_)
            go_big_quiet_op
            refine hK _ ?_; clear hK K
            refine wpMix_nil ?_
            exact absurd hkf (by simp [keyB, *])
          · skip
            have e8 : (xs[k].name.toList == t.name.toList) = false := bytes_beq_false hq16
            refine wpMix_pure (by kernel_rfl) (fun K hK => ?_)
            go_big_quiet_op
            refine hK _ ?_; clear hK K
            refine wpMix_pure (by kernel_rfl) (fun K hK => ?_)
            go_big_quiet_op
            refine hK _ ?_; clear hK K
            refine wpMix_nil ?_
            have hBd : Below (w.heap.size + 1) W0 w2.drew := hBn.trans (Below.drew (Below.refl _ _))
            have hoD : Own fBlock w2.drew (w.heap.size + 1) 52 u5 (putK xs t k) := hoN
            have hs3 : w.heap.size + 1 ≤ w2.drew.heap.size := Nat.le_trans hz0' hBd.size
            have ho3 : w2.drew.ownsRow (w.heap.size + 1) 52 3 u5 ((putK xs t k)).length (((putK xs t k)).flatMap fBlock.enc) := hoD
            have hlL : ((putK xs t k)).length ≤ k + 2 + xs.length := by (try rw [List.length_append]); (try rw [List.length_singleton]); omega
            clear hoN hoD
            try clear hq7
            go_wp2_with (at_builtin; refine wpList_append_one rfl _ _ 24 rfl (w.heap.size + 1) 52 i0 (.agg #[.string ⟨#[]⟩, .string ⟨#[]⟩, .string ⟨#[]⟩]) 3 48 Tryz.underlying24 hi hz0 hz1 hz2 rfl (by decide) u5 ((putK xs t k)).length _ rfl ho3 [.string xs[k].kind, .string xs[k].name, .string xs[k].text] rfl (by intro u hu; simp at hu; rcases hu with rfl | rfl | rfl <;> rfl) rfl (by omega) (by decide) hs3 ?_)
            intro v2 u2 hown2 hbu2 _ _
            have ho2 : Own fBlock u2 (w.heap.size + 1) 52 v2 (putK xs t (k + 1)) := by rw [HK.out]; first | exact Own.push _ rfl hown2 | exact Own.push (n := (putK xs t k).length + 1 + 1) _ (by simp) (by rw [List.flatMap_append, List.append_assoc]; simp only [List.flatMap_singleton]; exact hown2)
            have hB2 := hBd.trans hbu2
            clear hown2 ho3
            go_wp2
            go_roundw
            case rel => exact ⟨k + 1, by omega, by go_num, false, rfl, by show _ = _; simp; omega, ho2, hB2⟩
            case measure => simp [intOf]; omega
        · skip
          have e7 : (xs[k].kind.toList == t.kind.toList) = false := bytes_beq_false hq7
          refine wpMix_pure (by kernel_rfl) (fun K hK => ?_)
          go_big_quiet_op
          refine hK _ ?_; clear hK K
          refine wpMix_pure (by kernel_rfl) (fun K hK => ?_)
          go_big_quiet_op
          refine hK _ ?_; clear hK K
          refine wpMix_skip (by kernel_rfl) (fun K hK => ?_)
          simp only [Act.put, List.setIfInBounds_toArray, List.set_cons_zero, List.set_cons_succ]
          refine hK _ ?_; clear hK K
          refine wpMix_skip (by kernel_rfl) (fun K hK => ?_)
          simp only [Act.put, List.setIfInBounds_toArray, List.set_cons_zero, List.set_cons_succ]
          refine hK _ ?_; clear hK K
          refine wpMix_skip (by kernel_rfl) (fun K hK => ?_)
          simp only [Act.put, List.setIfInBounds_toArray, List.set_cons_zero, List.set_cons_succ]
          refine hK _ ?_; clear hK K
          refine wpMix_skip (by kernel_rfl) (fun K hK => ?_)
          simp only [Act.put, List.setIfInBounds_toArray, List.set_cons_zero, List.set_cons_succ]
          refine hK _ ?_; clear hK K
          refine wpMix_skip (by kernel_rfl) (fun K hK => ?_)
          simp only [Act.put, List.setIfInBounds_toArray, List.set_cons_zero, List.set_cons_succ]
          refine hK _ ?_; clear hK K
          refine wpMix_skip (by kernel_rfl) (fun K hK => ?_)
          simp only [Act.put, List.setIfInBounds_toArray, List.set_cons_zero, List.set_cons_succ]
          refine hK _ ?_; clear hK K
          refine wpMix_skip (by kernel_rfl) (fun K hK => ?_)
          simp only [Act.put, List.setIfInBounds_toArray, List.set_cons_zero, List.set_cons_succ]
          refine hK _ ?_; clear hK K
          refine wpMix_skip (by kernel_rfl) (fun K hK => ?_)
          simp only [Act.put, List.setIfInBounds_toArray, List.set_cons_zero, List.set_cons_succ]
          refine hK _ ?_; clear hK K
          refine wpMix_pure (by kernel_rfl) (fun K hK => ?_)
          go_big_quiet_op
          refine hK _ ?_; clear hK K
          refine wpMix_nil ?_
          have hBd : Below (w.heap.size + 1) W0 w2.drew := hBn.trans (Below.drew (Below.refl _ _))
          have hoD : Own fBlock w2.drew (w.heap.size + 1) 52 u5 (putK xs t k) := hoN
          have hs3 : w.heap.size + 1 ≤ w2.drew.heap.size := Nat.le_trans hz0' hBd.size
          have ho3 : w2.drew.ownsRow (w.heap.size + 1) 52 3 u5 ((putK xs t k)).length (((putK xs t k)).flatMap fBlock.enc) := hoD
          have hlL : ((putK xs t k)).length ≤ k + 2 + xs.length := by (try rw [List.length_append]); (try rw [List.length_singleton]); omega
          clear hoN hoD
          try clear hq7
          go_wp2_with (at_builtin; refine wpList_append_one rfl _ _ 24 rfl (w.heap.size + 1) 52 i0 (.agg #[.string ⟨#[]⟩, .string ⟨#[]⟩, .string ⟨#[]⟩]) 3 48 Tryz.underlying24 hi hz0 hz1 hz2 rfl (by decide) u5 ((putK xs t k)).length _ rfl ho3 [.string xs[k].kind, .string xs[k].name, .string xs[k].text] rfl (by intro u hu; simp at hu; rcases hu with rfl | rfl | rfl <;> rfl) rfl (by omega) (by decide) hs3 ?_)
          intro v2 u2 hown2 hbu2 _ _
          have ho2 : Own fBlock u2 (w.heap.size + 1) 52 v2 (putK xs t (k + 1)) := by rw [HK.out]; first | exact Own.push _ rfl hown2 | exact Own.push (n := (putK xs t k).length + 1 + 1) _ (by simp) (by rw [List.flatMap_append, List.append_assoc]; simp only [List.flatMap_singleton]; exact hown2)
          have hB2 := hBd.trans hbu2
          clear hown2 ho3
          go_wp2
          go_roundw
          case rel => exact ⟨k + 1, by omega, by go_num, false, rfl, by show _ = _; simp; omega, ho2, hB2⟩
          case measure => simp [intOf]; omega
      · rcases Nat.eq_or_lt_of_le hge with hke | hC
        · have hbf : beforeB xs[k] t = false := by
            have h1 : atB xs t < xs.length := by omega
            have h2 := before_not h1
            have h3 : xs[k] = xs[atB xs t] := by congr 1; exact hke.symm
            rw [h3]; exact h2
          obtain rfl : Dn = false := by have := HD.out; rw [this]; simp; omega
          have hkt0 : keyB xs[k] t.kind t.name = hasKey xs t := by rw [hkey]; simp; omega
          clear hkey
          have HK1 : hasKey xs t = true → putK xs t (k + 1) = putK xs t k ++ [t] := by intro hh; have := putK_B1 hh; rw [hke] at this; exact this
          have HK2 : hasKey xs t = false → putK xs t (k + 1) = (putK xs t k ++ [t]) ++ [xs[k]] := by intro hh; subst hke; exact putK_B2 hlt hh
          clear hge
          go_wp2_with fail
          refine (l29Before_any _ _ _ _ _ _ _ hpk hp).mono ?_
          rintro e w2 ⟨rfl, hb2⟩
          have hBn : Below (w.heap.size + 1) W0 w2 := hB.trans (hb2.mono (by omega))
          have hoN := ho.below hb2
          obtain ⟨d0, d1, d2⟩ := hp.below' hb2
          have hpk2 := hpk.below' hb2
          have hp2 := hp.below hb2 (by omega)
          clear ho hpk hp
          rw [hbf]
          have hs4 : w.heap.size + 1 ≤ w2.heap.size := Nat.le_trans hz0' hBn.size
          have ho4 : w2.ownsRow (w.heap.size + 1) 52 3 u5 (putK xs t k).length ((putK xs t k).flatMap fBlock.enc) := hoN
          clear hoN
          go_wp2_with (at_builtin; refine wpList_append_one rfl _ _ 24 rfl (w.heap.size + 1) 52 i0 (.agg #[.string ⟨#[]⟩, .string ⟨#[]⟩, .string ⟨#[]⟩]) 3 48 Tryz.underlying24 hi hz0 hz1 hz2 rfl (by decide) u5 (putK xs t k).length _ rfl ho4 [.string t.kind, .string t.name, .string t.text] rfl (by intro u hu; simp at hu; rcases hu with rfl | rfl | rfl <;> rfl) rfl (by omega) (by decide) hs4 ?_)
          intro v2 u2 hown2 hbu2 _ _
          have hoN : Own fBlock u2 (w.heap.size + 1) 52 v2 (putK xs t k ++ [t]) := Own.push _ rfl hown2
          obtain ⟨c0, c1, c2⟩ := hpk2.below hbu2 (by omega)
          obtain ⟨d0, d1, d2⟩ := hp2.below hbu2 (Nat.lt_succ_self _)
          have hBn := hBn.trans hbu2
          clear hpk2 hp2 hown2 ho4
          go_wp2
          cases hh : hasKey xs t with
          | true =>
            have hkt : keyB xs[k] t.kind t.name = true := by rw [hkt0]; exact hh
            have HK := Lib.hid (HK1 hh)
            clear HK1 HK2 hkt0
            have gc0 := cell_regrown c0
            have gc1 := cell_regrown c1
            have gc2 := cell_regrown c2
            have gd0 := cell_regrown d0
            have gd1 := cell_regrown d1
            have gd2 := cell_regrown d2
            refine wp_region_mix (C := fun w' => ∃ p : Regrown, w' = Go.Sort.grow (redrawn u2 p.d) p.os) [true, true, true, true, true, true, true, true, true, true, true, true, true, true, true, true, true, true] (by kernel_rfl) (by kernel_rfl) (by kernel_rfl) (fun _ _ d _ _ h => by cases d <;> exact h) (regrown_of_below (Below.drew (Below.refl _ _))) ?_
            have hS0 : Below u2.heap.size u2 u2.drew := Below.drew (Below.refl _ _)
            refine wpMix_pure (by kernel_rfl) (fun K hK => ?_)
            go_big_quiet_op
            refine hK _ ?_; clear hK K
            refine wpMix_pure (by kernel_rfl) (fun K hK => ?_)
            go_big_quiet_op
            refine hK _ ?_; clear hK K
            refine wpMix_pure (by kernel_rfl) (fun K hK => ?_)
            go_big_quiet_op
            refine hK _ ?_; clear hK K
            refine wpMix_pure (by kernel_rfl) (fun K hK => ?_)
            go_big_quiet_op
            refine hK _ ?_; clear hK K
            refine wpMix_pure (by kernel_rfl) (fun K hK => ?_)
            go_big_quiet_op
            refine hK _ ?_; clear hK K
            refine wpMix_pure (by kernel_rfl) (fun K hK => ?_)
            go_big_quiet_op
            refine hK _ ?_; clear hK K
            refine wpMix_pure (by kernel_rfl) (fun K hK => ?_)
            go_big_quiet_op
            refine hK _ ?_; clear hK K
            by_cases hq7 : xs[k].kind = t.kind
            · skip
              have e7 : (xs[k].kind.toList == t.kind.toList) = true := eqS_true.2 hq7
              refine wpMix_pure (by kernel_rfl) (fun K hK => ?_)
              go_big_quiet_op
              refine hK _ ?_; clear hK K
              refine wpMix_pure (by kernel_rfl) (fun K hK => ?_)
              go_big_quiet_op
              refine hK _ ?_; clear hK K
              refine wpMix_pure (by kernel_rfl) (fun K hK => ?_)
              go_big_quiet_op
              refine hK _ ?_; clear hK K
              refine wpMix_pure (by kernel_rfl) (fun K hK => ?_)
              go_big_quiet_op
              refine hK _ ?_; clear hK K
              refine wpMix_pure (by kernel_rfl) (fun K hK => ?_)
              go_big_quiet_op
              refine hK _ ?_; clear hK K
              refine wpMix_pure (by kernel_rfl) (fun K hK => ?_)
              go_big_quiet_op
              refine hK _ ?_; clear hK K
              refine wpMix_pure (by kernel_rfl) (fun K hK => ?_)
              go_big_quiet_op
              refine hK _ ?_; clear hK K
              refine wpMix_pure (by kernel_rfl) (fun K hK => ?_)
              go_big_quiet_op
              refine hK _ ?_; clear hK K
              refine wpMix_pure (by kernel_rfl) (fun K hK => ?_)
              go_big_quiet_op
              refine hK _ ?_; clear hK K
              by_cases hq16 : xs[k].name = t.name
              · skip
                have e8 : (xs[k].name.toList == t.name.toList) = true := eqS_true.2 hq16
                refine wpMix_pure (by kernel_rfl) (fun K hK => ?_)
                go_big_quiet_op
                refine hK _ ?_; clear hK K
                refine wpMix_pure (by kernel_rfl) (fun K hK => ?_)
                go_big_quiet_op
                refine hK _ ?_; clear hK K
                refine wpMix_nil ?_
                have hBd : Below (w.heap.size + 1) W0 u2.drew := hBn.trans (Below.drew (Below.refl _ _))
                have hoD : Own fBlock u2.drew (w.heap.size + 1) 52 v2 (putK xs t k ++ [t]) := hoN
                have ho2 : Own fBlock u2.drew (w.heap.size + 1) 52 v2 (putK xs t (k + 1)) := by rw [HK.out]; exact hoD
                clear hoN hoD
                go_wp2
                go_roundw
                case rel => exact ⟨k + 1, by omega, by go_num, true, rfl, by show _ = _; simp; omega, ho2, hBd⟩
                case measure => simp [intOf]; omega
              · skip
                have e8 : (xs[k].name.toList == t.name.toList) = false := bytes_beq_false hq16
                refine wpMix_pure (by kernel_rfl) (fun K hK => ?_)
                go_big_quiet_op
                refine hK _ ?_; clear hK K
                refine wpMix_pure (by kernel_rfl) (fun K hK => ?_)
                go_big_quiet_op
                refine hK _ ?_; clear hK K
                refine wpMix_nil ?_
                exact absurd hkt (by simp [keyB, *])
            · skip
              have e7 : (xs[k].kind.toList == t.kind.toList) = false := bytes_beq_false hq7
              refine wpMix_pure (by kernel_rfl) (fun K hK => ?_)
              go_big_quiet_op
              refine hK _ ?_; clear hK K
              refine wpMix_pure (by kernel_rfl) (fun K hK => ?_)
              go_big_quiet_op
              refine hK _ ?_; clear hK K
              refine wpMix_skip (by kernel_rfl) (fun K hK => ?_)
              simp only [Act.put, List.setIfInBounds_toArray, List.set_cons_zero, List.set_cons_succ]
              refine hK _ ?_; clear hK K
              refine wpMix_skip (by kernel_rfl) (fun K hK => ?_)
              simp only [Act.put, List.setIfInBounds_toArray, List.set_cons_zero, List.set_cons_succ]
              refine hK _ ?_; clear hK K
              refine wpMix_skip (by kernel_rfl) (fun K hK => ?_)
              simp only [Act.put, List.setIfInBounds_toArray, List.set_cons_zero, List.set_cons_succ]
              refine hK _ ?_; clear hK K
              refine wpMix_skip (by kernel_rfl) (fun K hK => ?_)
              simp only [Act.put, List.setIfInBounds_toArray, List.set_cons_zero, List.set_cons_succ]
              refine hK _ ?_; clear hK K
              refine wpMix_skip (by kernel_rfl) (fun K hK => ?_)
              simp only [Act.put, List.setIfInBounds_toArray, List.set_cons_zero, List.set_cons_succ]
              refine hK _ ?_; clear hK K
              refine wpMix_skip (by kernel_rfl) (fun K hK => ?_)
              simp only [Act.put, List.setIfInBounds_toArray, List.set_cons_zero, List.set_cons_succ]
              refine hK _ ?_; clear hK K
              refine wpMix_skip (by kernel_rfl) (fun K hK => ?_)
              simp only [Act.put, List.setIfInBounds_toArray, List.set_cons_zero, List.set_cons_succ]
              refine hK _ ?_; clear hK K
              refine wpMix_skip (by kernel_rfl) (fun K hK => ?_)
              simp only [Act.put, List.setIfInBounds_toArray, List.set_cons_zero, List.set_cons_succ]
              refine hK _ ?_; clear hK K
              refine wpMix_pure (by kernel_rfl) (fun K hK => ?_)
              go_big_quiet_op
              refine hK _ ?_; clear hK K
              refine wpMix_nil ?_
              exact absurd hkt (by simp [keyB, *])
          | false =>
            have hkf : keyB xs[k] t.kind t.name = false := by rw [hkt0]; exact hh
            have HK := Lib.hid (HK2 hh)
            clear HK1 HK2 hkt0
            have gc0 := cell_regrown c0
            have gc1 := cell_regrown c1
            have gc2 := cell_regrown c2
            have gd0 := cell_regrown d0
            have gd1 := cell_regrown d1
            have gd2 := cell_regrown d2
            refine wp_region_mix (C := fun w' => ∃ p : Regrown, w' = Go.Sort.grow (redrawn u2 p.d) p.os) [true, true, true, true, true, true, true, true, true, true, true, true, true, true, true, true, true, true] (by kernel_rfl) (by kernel_rfl) (by kernel_rfl) (fun _ _ d _ _ h => by cases d <;> exact h) (regrown_of_below (Below.drew (Below.refl _ _))) ?_
            have hS0 : Below u2.heap.size u2 u2.drew := Below.drew (Below.refl _ _)
            refine wpMix_pure (by kernel_rfl) (fun K hK => ?_)
            go_big_quiet_op
            refine hK _ ?_; clear hK K
            refine wpMix_pure (by kernel_rfl) (fun K hK => ?_)
            go_big_quiet_op
            refine hK _ ?_; clear hK K
            refine wpMix_pure (by kernel_rfl) (fun K hK => ?_)
            go_big_quiet_op
            refine hK _ ?_; clear hK K
            refine wpMix_pure (by kernel_rfl) (fun K hK => ?_)
            go_big_quiet_op
            refine hK _ ?_; clear hK K
            refine wpMix_pure (by kernel_rfl) (fun K hK => ?_)
            go_big_quiet_op
            refine hK _ ?_; clear hK K
            refine wpMix_pure (by kernel_rfl) (fun K hK => ?_)
            go_big_quiet_op
            refine hK _ ?_; clear hK K
            refine wpMix_pure (by kernel_rfl) (fun K hK => ?_)
            go_big_quiet_op
            refine hK _ ?_; clear hK K
            by_cases hq7 : xs[k].kind = t.kind
            · skip
              have e7 : (xs[k].kind.toList == t.kind.toList) = true := eqS_true.2 hq7
              refine wpMix_pure (by kernel_rfl) (fun K hK => ?_)
              go_big_quiet_op
              refine hK _ ?_; clear hK K
              refine wpMix_pure (by kernel_rfl) (fun K hK => ?_)
              go_big_quiet_op
              refine hK _ ?_; clear hK K
              refine wpMix_pure (by kernel_rfl) (fun K hK => ?_)
              go_big_quiet_op
              refine hK _ ?_; clear hK K
              refine wpMix_pure (by kernel_rfl) (fun K hK => ?_)
              go_big_quiet_op
              refine hK _ ?_; clear hK K
              refine wpMix_pure (by kernel_rfl) (fun K hK => ?_)
              go_big_quiet_op
              refine hK _ ?_; clear hK K
              refine wpMix_pure (by kernel_rfl) (fun K hK => ?_)
              go_big_quiet_op
              refine hK _ ?_; clear hK K
              refine wpMix_pure (by kernel_rfl) (fun K hK => ?_)
              go_big_quiet_op
              refine hK _ ?_; clear hK K
              refine wpMix_pure (by kernel_rfl) (fun K hK => ?_)
              go_big_quiet_op
              refine hK _ ?_; clear hK K
              refine wpMix_pure (by kernel_rfl) (fun K hK => ?_)
              go_big_quiet_op
              refine hK _ ?_; clear hK K
              by_cases hq16 : xs[k].name = t.name
              · skip
                have e8 : (xs[k].name.toList == t.name.toList) = true := eqS_true.2 hq16
                refine wpMix_pure (by kernel_rfl) (fun K hK => ?_)
                go_big_quiet_op
                refine hK _ ?_; clear hK K
                refine wpMix_pure (by kernel_rfl) (fun K hK => ?_)
                go_big_quiet_op
                refine hK _ ?_; clear hK K
                refine wpMix_nil ?_
                exact absurd hkf (by simp [keyB, *])
              · skip
                have e8 : (xs[k].name.toList == t.name.toList) = false := bytes_beq_false hq16
                refine wpMix_pure (by kernel_rfl) (fun K hK => ?_)
                go_big_quiet_op
                refine hK _ ?_; clear hK K
                refine wpMix_pure (by kernel_rfl) (fun K hK => ?_)
                go_big_quiet_op
                refine hK _ ?_; clear hK K
                refine wpMix_nil ?_
                have hBd : Below (w.heap.size + 1) W0 u2.drew := hBn.trans (Below.drew (Below.refl _ _))
                have hoD : Own fBlock u2.drew (w.heap.size + 1) 52 v2 (putK xs t k ++ [t]) := hoN
                have hs3 : w.heap.size + 1 ≤ u2.drew.heap.size := Nat.le_trans hz0' hBd.size
                have ho3 : u2.drew.ownsRow (w.heap.size + 1) 52 3 v2 ((putK xs t k ++ [t])).length (((putK xs t k ++ [t])).flatMap fBlock.enc) := hoD
                have hlL : ((putK xs t k ++ [t])).length ≤ k + 2 + xs.length := by (try rw [List.length_append]); (try rw [List.length_singleton]); omega
                clear hoN hoD
                try clear hq7
                go_wp2_with (at_builtin; refine wpList_append_one rfl _ _ 24 rfl (w.heap.size + 1) 52 i0 (.agg #[.string ⟨#[]⟩, .string ⟨#[]⟩, .string ⟨#[]⟩]) 3 48 Tryz.underlying24 hi hz0 hz1 hz2 rfl (by decide) v2 ((putK xs t k ++ [t])).length _ rfl ho3 [.string xs[k].kind, .string xs[k].name, .string xs[k].text] rfl (by intro u hu; simp at hu; rcases hu with rfl | rfl | rfl <;> rfl) rfl (by omega) (by decide) hs3 ?_)
                intro v2 u2 hown2 hbu2 _ _
                have ho2 : Own fBlock u2 (w.heap.size + 1) 52 v2 (putK xs t (k + 1)) := by rw [HK.out]; first | exact Own.push _ rfl hown2 | exact Own.push (n := (putK xs t k).length + 1 + 1) _ (by simp) (by rw [List.flatMap_append, List.append_assoc]; simp only [List.flatMap_singleton]; exact hown2)
                have hB2 := hBd.trans hbu2
                clear hown2 ho3
                go_wp2
                go_roundw
                case rel => exact ⟨k + 1, by omega, by go_num, true, rfl, by show _ = _; simp; omega, ho2, hB2⟩
                case measure => simp [intOf]; omega
            · skip
              have e7 : (xs[k].kind.toList == t.kind.toList) = false := bytes_beq_false hq7
              refine wpMix_pure (by kernel_rfl) (fun K hK => ?_)
              go_big_quiet_op
              refine hK _ ?_; clear hK K
              refine wpMix_pure (by kernel_rfl) (fun K hK => ?_)
              go_big_quiet_op
              refine hK _ ?_; clear hK K
              refine wpMix_skip (by kernel_rfl) (fun K hK => ?_)
              simp only [Act.put, List.setIfInBounds_toArray, List.set_cons_zero, List.set_cons_succ]
              refine hK _ ?_; clear hK K
              refine wpMix_skip (by kernel_rfl) (fun K hK => ?_)
              simp only [Act.put, List.setIfInBounds_toArray, List.set_cons_zero, List.set_cons_succ]
              refine hK _ ?_; clear hK K
              refine wpMix_skip (by kernel_rfl) (fun K hK => ?_)
              simp only [Act.put, List.setIfInBounds_toArray, List.set_cons_zero, List.set_cons_succ]
              refine hK _ ?_; clear hK K
              refine wpMix_skip (by kernel_rfl) (fun K hK => ?_)
              simp only [Act.put, List.setIfInBounds_toArray, List.set_cons_zero, List.set_cons_succ]
              refine hK _ ?_; clear hK K
              refine wpMix_skip (by kernel_rfl) (fun K hK => ?_)
              simp only [Act.put, List.setIfInBounds_toArray, List.set_cons_zero, List.set_cons_succ]
              refine hK _ ?_; clear hK K
              refine wpMix_skip (by kernel_rfl) (fun K hK => ?_)
              simp only [Act.put, List.setIfInBounds_toArray, List.set_cons_zero, List.set_cons_succ]
              refine hK _ ?_; clear hK K
              refine wpMix_skip (by kernel_rfl) (fun K hK => ?_)
              simp only [Act.put, List.setIfInBounds_toArray, List.set_cons_zero, List.set_cons_succ]
              refine hK _ ?_; clear hK K
              refine wpMix_skip (by kernel_rfl) (fun K hK => ?_)
              simp only [Act.put, List.setIfInBounds_toArray, List.set_cons_zero, List.set_cons_succ]
              refine hK _ ?_; clear hK K
              refine wpMix_pure (by kernel_rfl) (fun K hK => ?_)
              go_big_quiet_op
              refine hK _ ?_; clear hK K
              refine wpMix_nil ?_
              have hBd : Below (w.heap.size + 1) W0 u2.drew := hBn.trans (Below.drew (Below.refl _ _))
              have hoD : Own fBlock u2.drew (w.heap.size + 1) 52 v2 (putK xs t k ++ [t]) := hoN
              have hs3 : w.heap.size + 1 ≤ u2.drew.heap.size := Nat.le_trans hz0' hBd.size
              have ho3 : u2.drew.ownsRow (w.heap.size + 1) 52 3 v2 ((putK xs t k ++ [t])).length (((putK xs t k ++ [t])).flatMap fBlock.enc) := hoD
              have hlL : ((putK xs t k ++ [t])).length ≤ k + 2 + xs.length := by (try rw [List.length_append]); (try rw [List.length_singleton]); omega
              clear hoN hoD
              try clear hq7
              go_wp2_with (at_builtin; refine wpList_append_one rfl _ _ 24 rfl (w.heap.size + 1) 52 i0 (.agg #[.string ⟨#[]⟩, .string ⟨#[]⟩, .string ⟨#[]⟩]) 3 48 Tryz.underlying24 hi hz0 hz1 hz2 rfl (by decide) v2 ((putK xs t k ++ [t])).length _ rfl ho3 [.string xs[k].kind, .string xs[k].name, .string xs[k].text] rfl (by intro u hu; simp at hu; rcases hu with rfl | rfl | rfl <;> rfl) rfl (by omega) (by decide) hs3 ?_)
              intro v2 u2 hown2 hbu2 _ _
              have ho2 : Own fBlock u2 (w.heap.size + 1) 52 v2 (putK xs t (k + 1)) := by rw [HK.out]; first | exact Own.push _ rfl hown2 | exact Own.push (n := (putK xs t k).length + 1 + 1) _ (by simp) (by rw [List.flatMap_append, List.append_assoc]; simp only [List.flatMap_singleton]; exact hown2)
              have hB2 := hBd.trans hbu2
              clear hown2 ho3
              go_wp2
              go_roundw
              case rel => exact ⟨k + 1, by omega, by go_num, true, rfl, by show _ = _; simp; omega, ho2, hB2⟩
              case measure => simp [intOf]; omega
        · obtain rfl : Dn = true := by have := HD.out; rw [this]; simp; omega
          have hkf : keyB xs[k] t.kind t.name = false := by rw [hkey]; simp; omega
          have HK := Lib.hid (putK_C hlt hC)
          clear hkey hge
          obtain ⟨c0, c1, c2⟩ := hpk
          obtain ⟨d0, d1, d2⟩ := hp
          have hBn := hB
          have hoN := ho
          clear ho
          go_wp2
          have gc0 := cell_regrown c0
          have gc1 := cell_regrown c1
          have gc2 := cell_regrown c2
          have gd0 := cell_regrown d0
          have gd1 := cell_regrown d1
          have gd2 := cell_regrown d2
          refine wp_region_mix (C := fun w' => ∃ p : Regrown, w' = Go.Sort.grow (redrawn wr p.d) p.os) [true, true, true, true, true, true, true, true, true, true, true, true, true, true, true, true, true, true] (by kernel_rfl) (by kernel_rfl) (by kernel_rfl) (fun _ _ d _ _ h => by cases d <;> exact h) (regrown_of_below (Below.drew (Below.refl _ _))) ?_
          have hS0 : Below wr.heap.size wr wr.drew := Below.drew (Below.refl _ _)
          refine wpMix_pure (by kernel_rfl) (fun K hK => ?_)
          go_big_quiet_op
          refine hK _ ?_; clear hK K
          refine wpMix_pure (by kernel_rfl) (fun K hK => ?_)
          go_big_quiet_op
          refine hK _ ?_; clear hK K
          refine wpMix_pure (by kernel_rfl) (fun K hK => ?_)
          go_big_quiet_op
          refine hK _ ?_; clear hK K
          refine wpMix_pure (by kernel_rfl) (fun K hK => ?_)
          go_big_quiet_op
          refine hK _ ?_; clear hK K
          refine wpMix_pure (by kernel_rfl) (fun K hK => ?_)
          go_big_quiet_op
          refine hK _ ?_; clear hK K
          refine wpMix_pure (by kernel_rfl) (fun K hK => ?_)
          go_big_quiet_op
          refine hK _ ?_; clear hK K
          refine wpMix_pure (by kernel_rfl) (fun K hK => ?_)
          go_big_quiet_op
          refine hK _ ?_; clear hK K
          by_cases hq7 : xs[k].kind = t.kind
          · skip
            have e7 : (xs[k].kind.toList == t.kind.toList) = true := eqS_true.2 hq7
            refine wpMix_pure (by kernel_rfl) (fun K hK => ?_)
            go_big_quiet_op
            refine hK _ ?_; clear hK K
            refine wpMix_pure (by kernel_rfl) (fun K hK => ?_)
            go_big_quiet_op
            refine hK _ ?_; clear hK K
            refine wpMix_pure (by kernel_rfl) (fun K hK => ?_)
            go_big_quiet_op
            refine hK _ ?_; clear hK K
            refine wpMix_pure (by kernel_rfl) (fun K hK => ?_)
            go_big_quiet_op
            refine hK _ ?_; clear hK K
            refine wpMix_pure (by kernel_rfl) (fun K hK => ?_)
            go_big_quiet_op
            refine hK _ ?_; clear hK K
            refine wpMix_pure (by kernel_rfl) (fun K hK => ?_)
            go_big_quiet_op
            refine hK _ ?_; clear hK K
            refine wpMix_pure (by kernel_rfl) (fun K hK => ?_)
            go_big_quiet_op
            refine hK _ ?_; clear hK K
            refine wpMix_pure (by kernel_rfl) (fun K hK => ?_)
            go_big_quiet_op
            refine hK _ ?_; clear hK K
            refine wpMix_pure (by kernel_rfl) (fun K hK => ?_)
            go_big_quiet_op
            refine hK _ ?_; clear hK K
            by_cases hq16 : xs[k].name = t.name
            · skip
              have e8 : (xs[k].name.toList == t.name.toList) = true := eqS_true.2 hq16
              refine wpMix_pure (by kernel_rfl) (fun K hK => ?_)
              go_big_quiet_op
              refine hK _ ?_; clear hK K
              refine wpMix_pure (by kernel_rfl) (fun K hK => ?_)
              go_big_quiet_op
              refine hK _ ?_; clear hK K
              refine wpMix_nil ?_
              exact absurd hkf (by simp [keyB, *])
            · skip
              have e8 : (xs[k].name.toList == t.name.toList) = false := bytes_beq_false hq16
              refine wpMix_pure (by kernel_rfl) (fun K hK => ?_)
              go_big_quiet_op
              refine hK _ ?_; clear hK K
              refine wpMix_pure (by kernel_rfl) (fun K hK => ?_)
              go_big_quiet_op
              refine hK _ ?_; clear hK K
              refine wpMix_nil ?_
              have hBd : Below (w.heap.size + 1) W0 wr.drew := hBn.trans (Below.drew (Below.refl _ _))
              have hoD : Own fBlock wr.drew (w.heap.size + 1) 52 u5 (putK xs t k) := hoN
              have hs3 : w.heap.size + 1 ≤ wr.drew.heap.size := Nat.le_trans hz0' hBd.size
              have ho3 : wr.drew.ownsRow (w.heap.size + 1) 52 3 u5 ((putK xs t k)).length (((putK xs t k)).flatMap fBlock.enc) := hoD
              have hlL : ((putK xs t k)).length ≤ k + 2 + xs.length := by (try rw [List.length_append]); (try rw [List.length_singleton]); omega
              clear hoN hoD
              try clear hq7
              go_wp2_with (at_builtin; refine wpList_append_one rfl _ _ 24 rfl (w.heap.size + 1) 52 i0 (.agg #[.string ⟨#[]⟩, .string ⟨#[]⟩, .string ⟨#[]⟩]) 3 48 Tryz.underlying24 hi hz0 hz1 hz2 rfl (by decide) u5 ((putK xs t k)).length _ rfl ho3 [.string xs[k].kind, .string xs[k].name, .string xs[k].text] rfl (by intro u hu; simp at hu; rcases hu with rfl | rfl | rfl <;> rfl) rfl (by omega) (by decide) hs3 ?_)
              intro v2 u2 hown2 hbu2 _ _
              have ho2 : Own fBlock u2 (w.heap.size + 1) 52 v2 (putK xs t (k + 1)) := by rw [HK.out]; first | exact Own.push _ rfl hown2 | exact Own.push (n := (putK xs t k).length + 1 + 1) _ (by simp) (by rw [List.flatMap_append, List.append_assoc]; simp only [List.flatMap_singleton]; exact hown2)
              have hB2 := hBd.trans hbu2
              clear hown2 ho3
              go_wp2
              go_roundw
              case rel => exact ⟨k + 1, by omega, by go_num, true, rfl, by show _ = _; simp; omega, ho2, hB2⟩
              case measure => simp [intOf]; omega
          · skip
            have e7 : (xs[k].kind.toList == t.kind.toList) = false := bytes_beq_false hq7
            refine wpMix_pure (by kernel_rfl) (fun K hK => ?_)
            go_big_quiet_op
            refine hK _ ?_; clear hK K
            refine wpMix_pure (by kernel_rfl) (fun K hK => ?_)
            go_big_quiet_op
            refine hK _ ?_; clear hK K
            refine wpMix_skip (by kernel_rfl) (fun K hK => ?_)
            simp only [Act.put, List.setIfInBounds_toArray, List.set_cons_zero, List.set_cons_succ]
            refine hK _ ?_; clear hK K
            refine wpMix_skip (by kernel_rfl) (fun K hK => ?_)
            simp only [Act.put, List.setIfInBounds_toArray, List.set_cons_zero, List.set_cons_succ]
            refine hK _ ?_; clear hK K
            refine wpMix_skip (by kernel_rfl) (fun K hK => ?_)
            simp only [Act.put, List.setIfInBounds_toArray, List.set_cons_zero, List.set_cons_succ]
            refine hK _ ?_; clear hK K
            refine wpMix_skip (by kernel_rfl) (fun K hK => ?_)
            simp only [Act.put, List.setIfInBounds_toArray, List.set_cons_zero, List.set_cons_succ]
            refine hK _ ?_; clear hK K
            refine wpMix_skip (by kernel_rfl) (fun K hK => ?_)
            simp only [Act.put, List.setIfInBounds_toArray, List.set_cons_zero, List.set_cons_succ]
            refine hK _ ?_; clear hK K
            refine wpMix_skip (by kernel_rfl) (fun K hK => ?_)
            simp only [Act.put, List.setIfInBounds_toArray, List.set_cons_zero, List.set_cons_succ]
            refine hK _ ?_; clear hK K
            refine wpMix_skip (by kernel_rfl) (fun K hK => ?_)
            simp only [Act.put, List.setIfInBounds_toArray, List.set_cons_zero, List.set_cons_succ]
            refine hK _ ?_; clear hK K
            refine wpMix_skip (by kernel_rfl) (fun K hK => ?_)
            simp only [Act.put, List.setIfInBounds_toArray, List.set_cons_zero, List.set_cons_succ]
            refine hK _ ?_; clear hK K
            refine wpMix_pure (by kernel_rfl) (fun K hK => ?_)
            go_big_quiet_op
            refine hK _ ?_; clear hK K
            refine wpMix_nil ?_
            have hBd : Below (w.heap.size + 1) W0 wr.drew := hBn.trans (Below.drew (Below.refl _ _))
            have hoD : Own fBlock wr.drew (w.heap.size + 1) 52 u5 (putK xs t k) := hoN
            have hs3 : w.heap.size + 1 ≤ wr.drew.heap.size := Nat.le_trans hz0' hBd.size
            have ho3 : wr.drew.ownsRow (w.heap.size + 1) 52 3 u5 ((putK xs t k)).length (((putK xs t k)).flatMap fBlock.enc) := hoD
            have hlL : ((putK xs t k)).length ≤ k + 2 + xs.length := by (try rw [List.length_append]); (try rw [List.length_singleton]); omega
            clear hoN hoD
            try clear hq7
            go_wp2_with (at_builtin; refine wpList_append_one rfl _ _ 24 rfl (w.heap.size + 1) 52 i0 (.agg #[.string ⟨#[]⟩, .string ⟨#[]⟩, .string ⟨#[]⟩]) 3 48 Tryz.underlying24 hi hz0 hz1 hz2 rfl (by decide) u5 ((putK xs t k)).length _ rfl ho3 [.string xs[k].kind, .string xs[k].name, .string xs[k].text] rfl (by intro u hu; simp at hu; rcases hu with rfl | rfl | rfl <;> rfl) rfl (by omega) (by decide) hs3 ?_)
            intro v2 u2 hown2 hbu2 _ _
            have ho2 : Own fBlock u2 (w.heap.size + 1) 52 v2 (putK xs t (k + 1)) := by rw [HK.out]; first | exact Own.push _ rfl hown2 | exact Own.push (n := (putK xs t k).length + 1 + 1) _ (by simp) (by rw [List.flatMap_append, List.append_assoc]; simp only [List.flatMap_singleton]; exact hown2)
            have hB2 := hBd.trans hbu2
            clear hown2 ho3
            go_wp2
            go_roundw
            case rel => exact ⟨k + 1, by omega, by go_num, true, rfl, by show _ = _; simp; omega, ho2, hB2⟩
            case measure => simp [intOf]; omega
    · have hkn : k = xs.length := by omega
      subst hkn
      rcases Nat.lt_or_ge (atB xs t) xs.length with hA | hA
      · obtain rfl : Dn = true := by have := HD.out; rw [this]; simp; omega
        have ho5 := ho
        rw [putK_end1 hA] at ho5
        go_wp2
        go_ret
        exact ⟨_, rfl, own_mono ho5 (by omega), hb⟩
      · have hAe : atB xs t = xs.length := by omega
        obtain rfl : Dn = false := by have := HD.out; rw [this]; simp; omega
        obtain ⟨d0, d1, d2⟩ := hp
        have hBn := hB
        have hoN := ho
        have HE := Lib.hid (putK_end2 hAe)
        clear ho
        have hs4 : w.heap.size + 1 ≤ wr.heap.size := Nat.le_trans hz0' hBn.size
        have ho4 : wr.ownsRow (w.heap.size + 1) 52 3 u5 (putK xs t xs.length).length ((putK xs t xs.length).flatMap fBlock.enc) := hoN
        clear hoN
        go_wp2_with (at_builtin; refine wpList_append_one rfl _ _ 24 rfl (w.heap.size + 1) 52 i0 (.agg #[.string ⟨#[]⟩, .string ⟨#[]⟩, .string ⟨#[]⟩]) 3 48 Tryz.underlying24 hi hz0 hz1 hz2 rfl (by decide) u5 (putK xs t xs.length).length _ rfl ho4 [.string t.kind, .string t.name, .string t.text] rfl (by intro u hu; simp at hu; rcases hu with rfl | rfl | rfl <;> rfl) rfl (by omega) (by decide) hs4 ?_)
        intro v2 u2 hown2 hbu2 _ _
        have hoN : Own fBlock u2 (w.heap.size + 1) 52 v2 (putK xs t xs.length ++ [t]) := Own.push _ rfl hown2
        rw [HE.out] at hoN
        go_wp2
        go_ret
        exact ⟨_, rfl, own_mono hoN (by omega), hW0.trans ((hBn.trans hbu2).mono (by omega))⟩

end Go.Proofs.YtdlihohkamajbaaGreatDoor
