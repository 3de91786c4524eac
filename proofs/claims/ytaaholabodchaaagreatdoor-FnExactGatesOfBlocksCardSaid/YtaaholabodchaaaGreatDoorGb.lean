/- GatesOfBlocks. Written by wip/gen/gb.py. -/
import Derived.Test.YtaaholabodchaaaGreatDoorRg
import Derived.Test.YtaaholabodchaaaGreatDoorBv
import Derived.Test.YtaaholabodchaaaGreatDoorTBlock
namespace Go.Proofs.YtaaholabodchaaaGreatDoor
open Go.RowKit
set_option linter.unusedVariables false

theorem infoGateG : (Tryz.prog.info? 61).map (fun i => (i.zero, i.size, i.bytes)) = some (some (.agg #[.string ⟨#[]⟩, .int .i64 0, .int .i64 0, .int .i64 0, .bool false, .int .i64 0]), 6, 56) := by kernel_rfl
def gateK : ByteArray := ⟨#[103, 97, 116, 101]⟩
def gbE (b : DBlock) : Int := if b.kind = gateK then (match rgF b.text with | none => 9 | some x => if x.id = b.name then 0 else 6) else 0
def gbX (b : DBlock) : Option DGate := if b.kind = gateK then rgF b.text else none
def gbBad (xs : List DBlock) : Option DBlock := xs.find? (fun b => decide (gbE b ≠ 0))
def gbC (xs : List DBlock) : Int := if blocksB xs then (match gbBad xs with | some b => gbE b | none => if 8 < (xs.filterMap gbX).length then 5 else 0) else 1
def gbF (xs : List DBlock) : List DGate := if gbC xs = 0 then xs.filterMap gbX else []
def gbFine (xs : List DBlock) (k : Nat) : Prop := ∀ x ∈ xs.take k, gbE x = 0
theorem gbFine_step {xs : List DBlock} {k : Nat} (h : gbFine xs k) (hk : k < xs.length) (h1 : gbE xs[k] = 0) : gbFine xs (k + 1) := by
  intro x hx
  rw [List.take_succ_eq_append_getElem hk, List.mem_append, List.mem_singleton] at hx
  rcases hx with hx | rfl
  · exact h x hx
  · exact h1
theorem gbBad_some {xs : List DBlock} {k : Nat} (h : gbFine xs k) (hk : k < xs.length) (h1 : gbE xs[k] ≠ 0) : gbBad xs = some xs[k] := by
  unfold gbBad
  have e : xs = xs.take k ++ (xs[k] :: xs.drop (k + 1)) := by rw [← List.drop_eq_getElem_cons hk, List.take_append_drop]
  have h2 : (xs.take k).find? (fun b => decide (gbE b ≠ 0)) = none := by
    rw [List.find?_eq_none]; intro x hx; simp [h x hx]
  have h3 : xs.find? (fun b => decide (gbE b ≠ 0)) = (xs.take k ++ (xs[k] :: xs.drop (k + 1))).find? (fun b => decide (gbE b ≠ 0)) := by rw [← e]
  rw [h3, List.find?_append, h2, List.find?_cons_of_pos (by simp [h1])]; rfl
theorem gbBad_none {xs : List DBlock} (h : gbFine xs xs.length) : gbBad xs = none := by
  unfold gbBad; rw [List.find?_eq_none]; intro x hx; simp [h x (by rw [List.take_length]; exact hx)]
theorem gbC_bad {xs : List DBlock} {k : Nat} {c : Int} (hv : blocksB xs = true) (h : gbFine xs k) (hk : k < xs.length) (h1 : gbE xs[k] = c) (hc : c ≠ 0) : gbC xs = c ∧ gbF xs = [] := by
  have h2 : gbC xs = c := by unfold gbC; rw [if_pos hv, gbBad_some h hk (by rw [h1]; exact hc)]; exact h1
  exact ⟨h2, by unfold gbF; rw [if_neg (by rw [h2]; exact hc)]⟩
theorem gbC_inv {xs : List DBlock} (hv : blocksB xs = false) : gbC xs = 1 ∧ gbF xs = [] := by
  have h2 : gbC xs = 1 := by unfold gbC; rw [hv]; rfl
  exact ⟨h2, by unfold gbF; rw [if_neg (by rw [h2]; decide)]⟩
theorem gbC_full {xs : List DBlock} (hv : blocksB xs = true) (h : gbFine xs xs.length) (hl : 8 < (xs.filterMap gbX).length) : gbC xs = 5 ∧ gbF xs = [] := by
  have h2 : gbC xs = 5 := by unfold gbC; rw [if_pos hv, gbBad_none h]; exact if_pos hl
  exact ⟨h2, by unfold gbF; rw [if_neg (by rw [h2]; decide)]⟩
theorem gbC_ok {xs : List DBlock} (hv : blocksB xs = true) (h : gbFine xs xs.length) (hl : ¬ 8 < (xs.filterMap gbX).length) : gbC xs = 0 ∧ gbF xs = xs.filterMap gbX := by
  have h2 : gbC xs = 0 := by unfold gbC; rw [if_pos hv, gbBad_none h]; exact if_neg hl
  exact ⟨h2, by unfold gbF; rw [if_pos h2]⟩
theorem gbRows_step {xs : List DBlock} {k : Nat} (hk : k < xs.length) : (xs.take (k + 1)).filterMap gbX = (xs.take k).filterMap gbX ++ (gbX xs[k]).toList := by
  rw [List.take_succ_eq_append_getElem hk, List.filterMap_append]
  have h : List.filterMap gbX [xs[k]] = (gbX xs[k]).toList := by
    rw [List.filterMap_cons]; cases gbX xs[k] <;> rfl
  rw [h]
theorem gbRows_len (xs : List DBlock) (k : Nat) : ((xs.take k).filterMap gbX).length ≤ xs.length :=
  Nat.le_trans (List.length_filterMap_le ..) (by rw [List.length_take]; omega)
theorem gbF_len {xs : List DBlock} (h : xs.length ≤ 1048576) : (gbF xs).length ≤ 100000000000 := by
  unfold gbF; split
  · have := List.length_filterMap_le gbX xs; omega
  · simp
theorem rgF_gate {s : ByteArray} {x : DGate} (h : rgF s = some x) : gateB x = true := by
  rw [rg_spec] at h
  split at h
  · rename_i hs
    injection h with h; subst h
    unfold specB at hs
    simp only [Bool.and_eq_true] at hs
    exact hs.2
  · cases h
theorem gateB_ok {x : DGate} (h : gateB x = true) : fGate.ok x := by
  obtain ⟨h1, h2, h3, h4, h5⟩ := gateB_parts h
  exact ⟨by show x.id.size ≤ 9223372036854775807; omega, by show _ ∧ _; omega, by show _ ∧ _; omega, by show _ ∧ _; omega, trivial, by show _ ∧ _; omega⟩
theorem gbRows_ok (xs : List DBlock) (k : Nat) : ∀ x ∈ (xs.take k).filterMap gbX, fGate.ok x := by
  intro x hx
  obtain ⟨y, _, hy⟩ := List.mem_filterMap.1 hx
  unfold gbX at hy
  split at hy
  · exact gateB_ok (rgF_gate hy)
  · cases hy
theorem gb_text {b : DBlock} (h : blockB b = true) : b.text.size ≤ 400 := by
  unfold blockB at h
  simp only [Bool.and_eq_true, decide_eq_true_eq] at h
  first | exact h.2 | exact h.1.2 | exact h.1.1.2 | exact h.1.1.1
theorem gbE_other {b : DBlock} (h : ¬ b.kind = gateK) : gbE b = 0 ∧ gbX b = none := by unfold gbE gbX; rw [if_neg h, if_neg h]; exact ⟨rfl, rfl⟩
theorem gbE_none {b : DBlock} (h : b.kind = gateK) (hr : rgF b.text = none) : gbE b = 9 := by unfold gbE; rw [if_pos h, hr]
theorem gbE_other_id {b : DBlock} {x : DGate} (h : b.kind = gateK) (hr : rgF b.text = some x) (hi : ¬ x.id = b.name) : gbE b = 6 := by unfold gbE; rw [if_pos h, hr]; exact if_neg hi
theorem gbE_good {b : DBlock} {x : DGate} (h : b.kind = gateK) (hr : rgF b.text = some x) (hi : x.id = b.name) : gbE b = 0 ∧ gbX b = some x := by unfold gbE gbX; rw [if_pos h, if_pos h, hr]; exact ⟨if_pos hi, rfl⟩
set_option maxRecDepth 100000 in
set_option maxHeartbeats 8000000 in
theorem specGatesOfBlocks_any (v : Value) (xs : List DBlock) (fp : List Nat) (w : World) (hx : Sl fBlock.cod w v xs fp) :
    Calls Tryz.prog 11 #[v] w fun e w' => NewR2 fGate.cod w (gbF xs) (gbC xs) e w' := by
  obtain ⟨A, cap, rfl, hlen, hcap⟩ := hx.form
  obtain ⟨i0, hi, hz0, hz1, hz2⟩ := info_parts infoGateG
  have hlt0 := hx.lt
  go_enter Tryz.func11, Tryz.ntmps11
  go_wp2_with fail
  refine (l29Ok_any _ xs fp _ hx).mono ?_
  rintro e w1 ⟨rfl, hb1⟩
  cases h0 : blocksB xs
  · obtain ⟨hc, hf⟩ := gbC_inv h0
    go_wp2
    go_ret2
    exact ⟨_, by rw [hc]; rfl, by rw [hf]; exact New.nil hb1⟩
  · have HV := Lib.hid h0
    have hlen8 := blocksB_len h0
    clear h0
    go_wp2
    go_loopw [4, 5] (fun v i wr => ∃ k : Nat, k ≤ xs.length ∧ i = .int .i64 k ∧ Hid (gbFine xs k) ∧ Own fGate wr w.heap.size 61 v ((xs.take k).filterMap gbX) ∧ Below w.heap.size w wr) (fun _ i _ => xs.length - (intOf i).toNat)
    case atStart => exact ⟨0, Nat.zero_le _, rfl, (fun x hx => by simp at hx), Own.lit0m fGate hb1.size, hb1.trans (((Below.refl _ _).alloc (Nat.le_refl _) _).mono hb1.size)⟩
    case round =>
      obtain ⟨k, hk, rfl, HF, ho, hb⟩ := hrel
      have hrl := gbRows_len xs k
      by_cases hlt : k < xs.length
      · obtain ⟨b, off, rfl, hbm0, hok, hp⟩ := PBlock.elem (hx.below' hb) hlt
        have hbm := hlt0 b hbm0
        have htx := gb_text (blocksB_one HV.out hlt)
        have hst := gbRows_step hlt
        obtain ⟨c0, c1, c2⟩ := id hp
        have hB1 : Below w.heap.size w wr := hb
        by_cases hg : xs[k].kind = gateK
        · have e1 : (xs[k].kind.toList == [103, 97, 116, 101]) = true := by rw [hg, beq_iff_eq]; unfold gateK; simp [ByteArray.toList_eq]
          have e2 : (xs[k].kind.toList != [103, 97, 116, 101]) = false := by unfold bne; rw [e1]; rfl
          have hg1 : xs[k].kind = gateK := hg
          have HG := Lib.hid hg1
          clear hg1 hg
          go_wp2_with fail
          refine (specReadGate_any xs[k].text _ (by omega)).mono ?_
          rintro e w3 ⟨he, hb3⟩
          unfold GRet gAgg at he
          subst he
          have hB3 := hB1.trans (hb3.mono hB1.size)
          have ho3 := Own.below (E := fGate) (ho) hb3
          cases hr : rgF xs[k].text with
          | none =>
            obtain ⟨hc, hf⟩ := gbC_bad HV.out HF.out hlt (gbE_none HG.out hr) (by decide)
            rw [show ((none : Option DGate).getD gt00) = gt00 from rfl, show (none : Option DGate).isSome = false from rfl]
            have hBn : Below w.heap.size w (w3.alloc (.cells #[.string gt00.id, .int .i64 gt00.shut, .int .i64 gt00.open_, .int .i64 gt00.hold, .bool gt00.shuts, .int .i64 gt00.calm] 61)) := hB3.alloc hB3.size _
            clear ho ho3 hr
            go_wp2
            go_ret2
            exact ⟨_, by rw [hc]; rfl, by rw [hf]; exact New.nil hBn⟩
          | some x =>
            rw [show ((some x : Option DGate).getD gt00) = x from rfl, show (some x : Option DGate).isSome = true from rfl]
            have hbx := PGate.box w3 x 61
            have hBa : Below w.heap.size w (w3.alloc (.cells #[.string x.id, .int .i64 x.shut, .int .i64 x.open_, .int .i64 x.hold, .bool x.shuts, .int .i64 x.calm] 61)) := hB3.alloc hB3.size _
            have hoA : Own fGate (w3.alloc (.cells #[.string x.id, .int .i64 x.shut, .int .i64 x.open_, .int .i64 x.hold, .bool x.shuts, .int .i64 x.calm] 61)) w.heap.size 61 u4 ((xs.take k).filterMap gbX) := World.ownsRow.alloc ho3 _
            have c1a : (w3.alloc (.cells #[.string x.id, .int .i64 x.shut, .int .i64 x.open_, .int .i64 x.hold, .bool x.shuts, .int .i64 x.calm] 61)).cell? ⟨b, off + k * 3 + 1, none⟩ = some (.string xs[k].name) := by
              have h1 := (hb.cell (p := ⟨b, off + k * 3 + 1, none⟩) hbm).symm.trans c1
              exact (hBa.cell (p := ⟨b, off + k * 3 + 1, none⟩) hbm).trans h1
            go_wp2
            refine at_world (fun W => Below w.heap.size w W ∧ PGate W w3.heap.size 0 x ∧ Own fGate W w.heap.size 61 u4 ((xs.take k).filterMap gbX) ∧ W.cell? ⟨b, off + k * 3 + 1, none⟩ = some (.string xs[k].name)) ⟨hBa, hbx, hoA, c1a⟩ ?_
            clear hbx hBa hoA c1a ho3 ho
            rintro W ⟨hBa, hbx, hoA, c1a⟩
            obtain ⟨x0, x1, x2, x3, x4, x5⟩ := id hbx
            by_cases hid : x.id = xs[k].name
            · have e3 : (x.id.toList == xs[k].name.toList) = true := by rw [hid, beq_iff_eq]
              have e4 : (x.id.toList != xs[k].name.toList) = false := by unfold bne; rw [e3]; rfl
              obtain ⟨hE, hX⟩ := gbE_good HG.out hr hid
              rw [hX] at hst
              have HST : Hid ((xs.take (k + 1)).filterMap gbX = ((xs.take k).filterMap gbX) ++ [x]) := hst
              have HF2 : Hid (gbFine xs (k + 1)) := gbFine_step HF.out hlt hE
              clear hE hX hr hst hid
              have gx0 := cell_regrown x0
              have gc1a := cell_regrown c1a
              refine wp_region_mix (C := fun w' => ∃ p : Regrown, w' = Go.Sort.grow (redrawn W p.d) p.os) [true, true, true, true, true, true, true, true] (by kernel_rfl) (by kernel_rfl) (by kernel_rfl) (fun _ _ d _ _ h => by cases d <;> exact h) (regrown_of_below (Below.drew (Below.refl _ _))) ?_
              have hS0 : Below (W.heap.size) W W.drew := Below.drew (Below.refl _ _)
              refine wpMix_pure (by kernel_rfl) (fun K hK => ?_)
              go_big_quiet_op
              refine hK _ ?_; clear hK K
              refine wpMix_pure (by kernel_rfl) (fun K hK => ?_)
              go_big_quiet_op
              refine hK _ ?_; clear hK K
              refine wpMix_pure (by kernel_rfl) (fun K hK => ?_)
              go_big_quiet_op
              refine hK _ ?_; clear hK K
              refine wpMix_pure (by kernel_rfl) (fun K hK => ?_)
              go_big_quiet_op
              refine hK _ ?_; clear hK K
              refine wpMix_pure (by kernel_rfl) (fun K hK => ?_)
              go_big_quiet_op
              refine hK _ ?_; clear hK K
              refine wpMix_pure (by kernel_rfl) (fun K hK => ?_)
              go_big_quiet_op
              refine hK _ ?_; clear hK K
              refine wpMix_pure (by kernel_rfl) (fun K hK => ?_)
              go_big_quiet_op
              refine hK _ ?_; clear hK K
              refine wpMix_pure (by kernel_rfl) (fun K hK => ?_)
              go_big_quiet_op
              refine hK _ ?_; clear hK K
              refine wpMix_nil ?_
              have hBc := hBa.trans ((hS0).mono hBa.size)
              obtain ⟨x0, x1, x2, x3, x4, x5⟩ := hbx.below' (hS0)
              clear gx0 gc1a
              have hs2 := hBc.size
              have ho3 : (W.drew).ownsRow w.heap.size 61 6 u4 ((xs.take k).filterMap gbX).length (((xs.take k).filterMap gbX).flatMap fGate.enc) := Own.below (E := fGate) hoA (hS0)
              go_wp2_with (at_builtin; refine wpList_append_one rfl _ _ 30 rfl w.heap.size 61 i0 (.agg #[.string ⟨#[]⟩, .int .i64 0, .int .i64 0, .int .i64 0, .bool false, .int .i64 0]) 6 56 Tryz.underlying30 hi hz0 hz1 hz2 rfl (by decide) u4 ((xs.take k).filterMap gbX).length _ rfl ho3 [.string x.id, .int .i64 x.shut, .int .i64 x.open_, .int .i64 x.hold, .bool x.shuts, .int .i64 x.calm] rfl (by intro u hu; simp at hu; rcases hu with rfl | rfl | rfl | rfl | rfl | rfl <;> rfl) rfl (by omega) (by decide) hs2 ?_)
              intro v' u hown hbu _ _
              have hbu' := hBc.trans hbu
              have ho5 : Own fGate u w.heap.size 61 v' ((xs.take (k + 1)).filterMap gbX) := by rw [HST.out]; exact Own.push x (by omega) hown
              clear hown
              go_wp2
              go_roundw
              case rel => exact ⟨k + 1, by omega, by go_num, HF2, ho5, hbu'⟩
              case measure => simp [intOf]; omega
            · have e3 : (x.id.toList == xs[k].name.toList) = false := by rw [beq_eq_false_iff_ne]; exact fun e => hid (bytes_toList_inj e)
              have e4 : (x.id.toList != xs[k].name.toList) = true := by unfold bne; rw [e3]; rfl
              obtain ⟨hc, hf⟩ := gbC_bad HV.out HF.out hlt (gbE_other_id HG.out hr hid) (by decide)
              clear hr hst hid
              have gx0 := cell_regrown x0
              have gc1a := cell_regrown c1a
              refine wp_region_mix (C := fun w' => ∃ p : Regrown, w' = Go.Sort.grow (redrawn W p.d) p.os) [true, true, true, true, true, true, true, true] (by kernel_rfl) (by kernel_rfl) (by kernel_rfl) (fun _ _ d _ _ h => by cases d <;> exact h) (regrown_of_below (Below.drew (Below.refl _ _))) ?_
              have hS0 : Below (W.heap.size) W W.drew := Below.drew (Below.refl _ _)
              refine wpMix_pure (by kernel_rfl) (fun K hK => ?_)
              go_big_quiet_op
              refine hK _ ?_; clear hK K
              refine wpMix_pure (by kernel_rfl) (fun K hK => ?_)
              go_big_quiet_op
              refine hK _ ?_; clear hK K
              refine wpMix_pure (by kernel_rfl) (fun K hK => ?_)
              go_big_quiet_op
              refine hK _ ?_; clear hK K
              refine wpMix_pure (by kernel_rfl) (fun K hK => ?_)
              go_big_quiet_op
              refine hK _ ?_; clear hK K
              refine wpMix_pure (by kernel_rfl) (fun K hK => ?_)
              go_big_quiet_op
              refine hK _ ?_; clear hK K
              refine wpMix_pure (by kernel_rfl) (fun K hK => ?_)
              go_big_quiet_op
              refine hK _ ?_; clear hK K
              refine wpMix_pure (by kernel_rfl) (fun K hK => ?_)
              go_big_quiet_op
              refine hK _ ?_; clear hK K
              refine wpMix_pure (by kernel_rfl) (fun K hK => ?_)
              go_big_quiet_op
              refine hK _ ?_; clear hK K
              refine wpMix_nil ?_
              have hBc := hBa.trans ((hS0).mono hBa.size)
              go_wp2
              go_ret2
              exact ⟨_, by rw [hc]; rfl, by rw [hf]; exact New.nil hBc⟩
        · have e1 : (xs[k].kind.toList == [103, 97, 116, 101]) = false := by
            rw [beq_eq_false_iff_ne]; intro e
            exact hg (bytes_toList_inj (e.trans (by unfold gateK; simp [ByteArray.toList_eq])))
          have e2 : (xs[k].kind.toList != [103, 97, 116, 101]) = true := by unfold bne; rw [e1]; rfl
          obtain ⟨hE, hX⟩ := gbE_other hg
          rw [hX] at hst
          have HF2 : Hid (gbFine xs (k + 1)) := gbFine_step HF.out hlt hE
          have ho2 : Own fGate wr w.heap.size 61 u4 ((xs.take (k + 1)).filterMap gbX) := by rw [hst]; rw [show (none : Option DGate).toList = [] from rfl, List.append_nil]; exact ho
          clear hE hX hst hg ho
          go_wp2
          go_roundw
          case rel => exact ⟨k + 1, by omega, by go_num, HF2, ho2, hB1⟩
          case measure => simp [intOf]; omega
      · obtain rfl : k = xs.length := by omega
        have hoks := gbRows_ok xs xs.length
        obtain ⟨A9, cap9, rfl⟩ := ho.form
        rw [List.take_length] at ho hoks hrl ⊢
        by_cases hq : 8 < (xs.filterMap gbX).length
        · obtain ⟨hc, hf⟩ := gbC_full HV.out HF.out hq
          clear ho
          go_wp2
          go_ret2
          exact ⟨_, by rw [hc]; rfl, by rw [hf]; exact New.nil hb⟩
        · obtain ⟨hc, hf⟩ := gbC_ok HV.out HF.out hq
          have hnew := ho.new hb hoks
          clear ho
          go_wp2
          go_ret2
          exact ⟨_, by rw [hc]; rfl, by rw [hf]; exact hnew⟩
set_option maxRecDepth 100000 in
set_option maxHeartbeats 8000000 in
theorem implGatesOfBlocks_any (v : Value) (xs : List DBlock) (fp : List Nat) (m : Int) (w : World) (hx : Sl fBlock.cod w v xs fp) (hm : w.cell? ⟨0, 0, none⟩ = some (.int .i64 m)) (ht : RdTabs w) :
    Calls Tryz.prog 13 #[v] w fun e w' => NewR2 fGate.cod w (gbF xs) (gbC xs) e w' := by
  obtain ⟨A, cap, rfl, hlen, hcap⟩ := hx.form
  obtain ⟨i0, hi, hz0, hz1, hz2⟩ := info_parts infoGateG
  have hlt0 := hx.lt
  go_enter Tryz.func13, Tryz.ntmps13
  go_wp2_with fail
  refine (validBlocks_any _ xs fp _ hx).mono ?_
  rintro e w1 ⟨rfl, hb1⟩
  cases h0 : blocksB xs
  · obtain ⟨hc, hf⟩ := gbC_inv h0
    go_wp2
    go_ret2
    exact ⟨_, by rw [hc]; rfl, by rw [hf]; exact New.nil hb1⟩
  · have HV := Lib.hid h0
    have hlen8 := blocksB_len h0
    clear h0
    go_wp2
    go_loopw [4, 14] (fun v i wr => ∃ k : Nat, k ≤ xs.length ∧ i = .int .i64 k ∧ Hid (gbFine xs k) ∧ Own fGate wr w.heap.size 61 v ((xs.take k).filterMap gbX) ∧ Below w.heap.size w wr) (fun _ i _ => xs.length - (intOf i).toNat)
    case atStart => exact ⟨0, Nat.zero_le _, rfl, (fun x hx => by simp at hx), Own.nil fGate _ _ _, hb1⟩
    case round =>
      obtain ⟨k, hk, rfl, HF, ho, hb⟩ := hrel
      have hrl := gbRows_len xs k
      by_cases hlt : k < xs.length
      · obtain ⟨b, off, rfl, hbm0, hok, hp⟩ := PBlock.elem (hx.below' hb) hlt
        have hbm := hlt0 b hbm0
        have htx := gb_text (blocksB_one HV.out hlt)
        have hst := gbRows_step hlt
        obtain ⟨c0, c1, c2⟩ := id hp
        have hB1 : Below w.heap.size w (wr.alloc (.cells #[.string xs[k].kind, .string xs[k].name, .string xs[k].text] 43)) := hb.alloc hb.size _
        by_cases hg : xs[k].kind = gateK
        · have e1 : (xs[k].kind.toList == [103, 97, 116, 101]) = true := by rw [hg, beq_iff_eq]; unfold gateK; simp [ByteArray.toList_eq]
          have e2 : (xs[k].kind.toList != [103, 97, 116, 101]) = false := by unfold bne; rw [e1]; rfl
          have hg1 : xs[k].kind = gateK := hg
          have HG := Lib.hid hg1
          clear hg1 hg
          go_wp2_with fail
          refine (implReadGate_any xs[k].text m _ (by omega) (cell_below hB1 hm) (ht.below hB1)).mono ?_
          rintro e w3 ⟨he, hb3⟩
          unfold GRet gAgg at he
          subst he
          have hB3 := hB1.trans (hb3.mono hB1.size)
          have ho3 := Own.below (E := fGate) (World.ownsRow.alloc ho _) hb3
          cases hr : rgF xs[k].text with
          | none =>
            obtain ⟨hc, hf⟩ := gbC_bad HV.out HF.out hlt (gbE_none HG.out hr) (by decide)
            rw [show ((none : Option DGate).getD gt00) = gt00 from rfl, show (none : Option DGate).isSome = false from rfl]
            have hBn : Below w.heap.size w (w3.alloc (.cells #[.string gt00.id, .int .i64 gt00.shut, .int .i64 gt00.open_, .int .i64 gt00.hold, .bool gt00.shuts, .int .i64 gt00.calm] 61)) := hB3.alloc hB3.size _
            clear ho ho3 hr
            go_wp2
            go_ret2
            exact ⟨_, by rw [hc]; rfl, by rw [hf]; exact New.nil hBn⟩
          | some x =>
            rw [show ((some x : Option DGate).getD gt00) = x from rfl, show (some x : Option DGate).isSome = true from rfl]
            have hbx := PGate.box w3 x 61
            have hBa : Below w.heap.size w (w3.alloc (.cells #[.string x.id, .int .i64 x.shut, .int .i64 x.open_, .int .i64 x.hold, .bool x.shuts, .int .i64 x.calm] 61)) := hB3.alloc hB3.size _
            have hoA : Own fGate (w3.alloc (.cells #[.string x.id, .int .i64 x.shut, .int .i64 x.open_, .int .i64 x.hold, .bool x.shuts, .int .i64 x.calm] 61)) w.heap.size 61 u4 ((xs.take k).filterMap gbX) := World.ownsRow.alloc ho3 _
            have hpbK : PBlock (w3.alloc (.cells #[.string x.id, .int .i64 x.shut, .int .i64 x.open_, .int .i64 x.hold, .bool x.shuts, .int .i64 x.calm] 61)) wr.heap.size 0 xs[k] := ((PBlock.box wr xs[k] 43).below' hb3).below' ((Below.refl _ _).alloc (Nat.le_refl _) _)
            obtain ⟨k0, k1, k2⟩ := hpbK
            by_cases hid : x.id = xs[k].name
            · have e3 : (x.id.toList == xs[k].name.toList) = true := by rw [hid, beq_iff_eq]
              have e4 : (x.id.toList != xs[k].name.toList) = false := by unfold bne; rw [e3]; rfl
              obtain ⟨hE, hX⟩ := gbE_good HG.out hr hid
              rw [hX] at hst
              have HST : Hid ((xs.take (k + 1)).filterMap gbX = ((xs.take k).filterMap gbX) ++ [x]) := hst
              have HF2 : Hid (gbFine xs (k + 1)) := gbFine_step HF.out hlt hE
              clear hE hX hr hst hid
              have hs2 := hBa.size
              have ho3 : (w3.alloc (.cells #[.string x.id, .int .i64 x.shut, .int .i64 x.open_, .int .i64 x.hold, .bool x.shuts, .int .i64 x.calm] 61)).ownsRow w.heap.size 61 6 u4 ((xs.take k).filterMap gbX).length (((xs.take k).filterMap gbX).flatMap fGate.enc) := hoA
              go_wp2_with (at_builtin; refine wpList_append_oneA (w3.heap.size + 1) (by simp) rfl _ _ 30 rfl w.heap.size 61 i0 (.agg #[.string ⟨#[]⟩, .int .i64 0, .int .i64 0, .int .i64 0, .bool false, .int .i64 0]) 6 56 Tryz.underlying30 hi hz0 hz1 hz2 rfl (by decide) u4 ((xs.take k).filterMap gbX).length _ rfl ho3 [.string x.id, .int .i64 x.shut, .int .i64 x.open_, .int .i64 x.hold, .bool x.shuts, .int .i64 x.calm] rfl (by intro u hu; simp at hu; rcases hu with rfl | rfl | rfl | rfl | rfl | rfl <;> rfl) rfl (by omega) (by decide) hs2 ?_)
              intro v' u hown hbu _ _
              have hbu' := hBa.trans hbu
              have ho5 : Own fGate u w.heap.size 61 v' ((xs.take (k + 1)).filterMap gbX) := by rw [HST.out]; exact Own.push x (by omega) hown
              clear hown
              go_wp2
              go_roundw
              case rel => exact ⟨k + 1, by omega, by go_num, HF2, ho5, hbu'⟩
              case measure => simp [intOf]; omega
            · have e3 : (x.id.toList == xs[k].name.toList) = false := by rw [beq_eq_false_iff_ne]; exact fun e => hid (bytes_toList_inj e)
              have e4 : (x.id.toList != xs[k].name.toList) = true := by unfold bne; rw [e3]; rfl
              obtain ⟨hc, hf⟩ := gbC_bad HV.out HF.out hlt (gbE_other_id HG.out hr hid) (by decide)
              clear hr hst hid
              clear ho ho3 hoA
              go_wp2
              go_ret2
              exact ⟨_, by rw [hc]; rfl, by rw [hf]; exact New.nil hBa⟩
        · have e1 : (xs[k].kind.toList == [103, 97, 116, 101]) = false := by
            rw [beq_eq_false_iff_ne]; intro e
            exact hg (bytes_toList_inj (e.trans (by unfold gateK; simp [ByteArray.toList_eq])))
          have e2 : (xs[k].kind.toList != [103, 97, 116, 101]) = true := by unfold bne; rw [e1]; rfl
          obtain ⟨hE, hX⟩ := gbE_other hg
          rw [hX] at hst
          have HF2 : Hid (gbFine xs (k + 1)) := gbFine_step HF.out hlt hE
          have ho2 : Own fGate (wr.alloc (.cells #[.string xs[k].kind, .string xs[k].name, .string xs[k].text] 43)) w.heap.size 61 u4 ((xs.take (k + 1)).filterMap gbX) := by rw [hst]; rw [show (none : Option DGate).toList = [] from rfl, List.append_nil]; exact World.ownsRow.alloc ho _
          clear hE hX hst hg ho
          go_wp2
          go_roundw
          case rel => exact ⟨k + 1, by omega, by go_num, HF2, ho2, hB1⟩
          case measure => simp [intOf]; omega
      · obtain rfl : k = xs.length := by omega
        have hoks := gbRows_ok xs xs.length
        obtain ⟨A9, cap9, rfl⟩ := ho.form
        rw [List.take_length] at ho hoks hrl ⊢
        by_cases hq : 8 < (xs.filterMap gbX).length
        · obtain ⟨hc, hf⟩ := gbC_full HV.out HF.out hq
          clear ho
          go_wp2
          go_ret2
          exact ⟨_, by rw [hc]; rfl, by rw [hf]; exact New.nil hb⟩
        · obtain ⟨hc, hf⟩ := gbC_ok HV.out HF.out hq
          have hnew := ho.new hb hoks
          clear ho
          go_wp2
          go_ret2
          exact ⟨_, by rw [hc]; rfl, by rw [hf]; exact hnew⟩

end Go.Proofs.YtaaholabodchaaaGreatDoor
