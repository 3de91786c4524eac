/- The walk of FnBlocks. Written by wip/gen/fb.py. -/
import Derived.Test.YtdlihohkamajbaaFq
import Derived.Test.YtdlihohkamajbaaSb
namespace Go.Proofs.Ytdlihohkamajbaa
open Go.RowKit
set_option linter.unusedVariables false

set_option maxRecDepth 100000 in
set_option maxHeartbeats 400000 in
theorem r8Long_any (v0 v1 : Value) (xs0 xs1 : List UInt8) (fp0 fp1 : List Nat) (w : World) (hx0 : Sl fByte.cod w v0 xs0 fp0) (hx1 : Sl fByte.cod w v1 xs1 fp1) :
    Calls Try.prog 4 #[v0, v1] w fun e w' => e = .returned (.bool (decide (1048576 < xs0.length) || decide (1048576 < xs1.length))) ∧ w = w' := by
  obtain ⟨A, cap, rfl, hlen, hcap⟩ := hx0.form
  obtain ⟨A1, cap1, rfl, hlen1, hcap1⟩ := hx1.form
  by_cases h0 : 1048576 < xs0.length
  · have e : (decide (1048576 < xs0.length) || decide (1048576 < xs1.length)) = true := by simp [h0]
    rw [e]
    go_enter Try.func4, Try.ntmps4
    go_wp2
    go_ret
    exact ⟨rfl, rfl⟩
  · go_enter Try.func4, Try.ntmps4
    go_wp2
    go_ret
    refine ⟨?_, rfl⟩
    show Ending.returned (.bool _) = _
    congr 2
    rw [Bool.eq_iff_iff]
    simp
    omega
set_option maxRecDepth 100000 in
set_option maxHeartbeats 8000000 in
theorem walkBlocks (v0 : Value) (xs0 : List UInt8) (fp0 : List Nat) (v1 : Value) (xs1 : List UInt8) (fp1 : List Nat) (w : World) (hx0 : Sl fByte.cod w v0 xs0 fp0) (hx1 : Sl fByte.cod w v1 xs1 fp1) :
    Calls Try.prog 3 #[v0, v1] w fun e w' => YesR w e w' := by
  go_enter Try.func3, Try.ntmps3
  go_wp2_with fail
  refine (r8Long_any _ _ _ _ _ _ _ hx0 hx1).mono ?_
  rintro e w' ⟨rfl, rfl⟩
  cases hlong : (decide (1048576 < xs0.length) || decide (1048576 < xs1.length))
  case true =>
    go_wp2
    go_ret
    exact ⟨rfl, Below.refl _ _⟩
  case false =>
    clear hlong
    go_wp2_with fail
    refine (R8Blocks_any _ _ _ _ hx0).mono ?_
    rintro e w1 ⟨y1, L, rfl, hdL, hlL, ⟨⟨f1, hs1, _, _⟩, hb1⟩⟩
    have hx11 := hx1.below' hb1
    go_wp2_with fail
    refine (R8Blocks_any _ _ _ _ hx11).mono ?_
    rintro e w2 ⟨y2, M, rfl, hdM, hlM, ⟨⟨f2, hs2, _, _⟩, hb2⟩⟩
    have hB2 := hb1.trans (hb2.mono hb1.size)
    have hs12 := hs1.below' hb2
    obtain ⟨A1, c1, rfl, _, _⟩ := hs12.form
    obtain ⟨A2, c2, rfl, _, _⟩ := hs2.form
    have hB3 : Below w2.heap.size w2 (w2.alloc (.cells #[.string newK, .string x0N, .string ⟨#[116]⟩] 27)) := (Below.refl _ _).alloc (Nat.le_refl _) _
    obtain ⟨hp0, hp1, hpv, hpk⟩ := fb_put hdL hlL
    obtain ⟨hn0, hn1⟩ := fb_named hdL hlL
    obtain ⟨hd0, hd1⟩ := fb_drop hdL hlL
    obtain ⟨hm0, hm1, hmv, hml⟩ := fb_merge hdL hlL hdM hlM
    obtain ⟨hk0, hk1⟩ := fb_kind hdL hlL
    have hEach : ∀ i (hi : i < M.length), bnC (mgF L M) M[i].kind M[i].name = 0 ∧ bnF (mgF L M) M[i].kind M[i].name = M[i].text := fun i hi => fb_each hdL hlL hdM hlM (List.getElem_mem hi)
    have P1 := implPutBlock_any (.slice A1 L.length c1) L f1 x0D (w2.alloc (.cells #[.string newK, .string x0N, .string ⟨#[116]⟩] 27)) (hs12.below' hB3) ⟨by show _ ≤ _; decide, by show _ ≤ _; decide, by show _ ≤ _; decide⟩
    rw [hp0, hp1] at P1
    clear hp0 hp1 hpk hdL hdM
    have HPV := Lib.hid hpv
    have HMV := Lib.hid hmv
    have HML := Lib.hid hml
    have HD := Lib.hid hd1
    have HN := Lib.hid hn0; have HN1 := Lib.hid hn1; have HD0 := Lib.hid hd0; have HM0 := Lib.hid hm0; have HM1 := Lib.hid hm1; have HK0 := Lib.hid hk0; have HK1 := Lib.hid hk1
    clear hpv hmv hml hd1 hn0 hn1 hd0 hm0 hm1 hk0 hk1
    go_wp2_with fail
    refine P1.mono ?_
    rintro e w3 ⟨y3, rfl, ⟨⟨f3, hs3, _, _⟩, hb3⟩⟩
    clear P1
    have hb23 := hB3.trans (hb3.mono hB3.size)
    have hB := hB2.trans (hb23.mono hB2.size)
    have hL := hs12.below' hb23
    have hM := hs2.below' hb23
    clear hs12 hs2 hs1 hx0 hx1 hx11 hb23 hb3 hB3 hB2
    have P2 := implBlockNamed_any y3 (putF L x0D) f3 newK x0N w3 hs3
    rw [HN.out, HN1.out] at P2
    unfold newK x0N at P2
    go_wp2_with fail
    refine P2.mono ?_
    rintro e w4 ⟨rfl, hb4⟩
    clear P2
    have hB' := hB.trans (hb4.mono hB.size)
    replace hL := hL.below' hb4
    replace hM := hM.below' hb4
    replace hs3 := hs3.below' hb4
    clear hB hb4
    have P3 := implDropBlock_any y3 (putF L x0D) f3 newK x0N w4 hs3
    rw [HD.out, HD0.out] at P3
    unfold newK x0N at P3
    go_wp2_with fail
    refine P3.mono ?_
    rintro e w5 ⟨y5, rfl, ⟨⟨f5, hs5, _, _⟩, hb5⟩⟩
    clear P3
    have hB := hB'.trans (hb5.mono hB'.size)
    replace hL := hL.below' hb5
    replace hM := hM.below' hb5
    replace hs3 := hs3.below' hb5
    clear hB' hb5
    have P4 := implMergeBlocks_any (.slice A1 L.length c1) (.slice A2 M.length c2) L M f1 f2 w5 hL hM
    rw [HM0.out, HM1.out] at P4
    go_wp2_with fail
    refine P4.mono ?_
    rintro e w6 ⟨y6, rfl, ⟨⟨f6, hs6, _, _⟩, hb6⟩⟩
    clear P4
    have hB' := hB.trans (hb6.mono hB.size)
    replace hL := hL.below' hb6
    replace hM := hM.below' hb6
    replace hs3 := hs3.below' hb6
    replace hs5 := hs5.below' hb6
    clear hB hb6
    have P5 := implBlocksOfKind_any y3 (putF L x0D) f3 newK w6 hs3
    rw [HK0.out] at P5
    unfold newK at P5
    go_wp2_with fail
    refine P5.mono ?_
    rintro e w7 ⟨y7, rfl, ⟨⟨f7, hs7, _, _⟩, hb7⟩⟩
    clear P5
    have hB := hB'.trans (hb7.mono hB'.size)
    replace hL := hL.below' hb7
    replace hM := hM.below' hb7
    replace hs5 := hs5.below' hb7
    replace hs6 := hs6.below' hb7
    clear hB' hb7 hs3
    have hl7 : ((bkF (putF L x0D) ⟨#[110, 101, 119]⟩).length : Int) = 1 := by have h := HK1.out; unfold newK at h; rw [h]; rfl
    obtain ⟨A7, c7, rfl, _, _⟩ := hs7.form
    have hln : (bkF (putF L x0D) ⟨#[110, 101, 119]⟩).length = 1 := by omega
    rw [hln]
    clear hs7 hl7 hln
    go_wp2_with fail
    refine (specSameBlocks_any _ _ _ _ _ _ _ hs5 hL).mono ?_
    rintro e w8 ⟨rfl, hb8⟩
    have hB' := hB.trans (hb8.mono hB.size)
    replace hL := hL.below' hb8
    replace hM := hM.below' hb8
    replace hs6 := hs6.below' hb8
    clear hB hb8 hs5
    rw [decide_eq_true (rfl : L = L)]
    go_wp2_with fail
    refine (specValidBlocks_any _ _ _ _ hs6).mono ?_
    rintro e w9 ⟨rfl, hb9⟩
    have hB := hB'.trans (hb9.mono hB'.size)
    replace hM := hM.below' hb9
    replace hs6 := hs6.below' hb9
    clear hB' hb9 hL
    rw [HMV.out]
    obtain ⟨A6, c6, rfl, _, _⟩ := hs6.form
    have hlt2 := hM.lt
    have hlt6 := hs6.lt
    go_wp2
    go_loopw [18] (fun i wr => ∃ k : Nat, k ≤ M.length ∧ i = .int .i64 k ∧ Below w9.heap.size w9 wr) (fun i _ => M.length - (intOf i).toNat)
    case atStart => exact ⟨0, Nat.zero_le _, rfl, Below.refl _ _⟩
    case round =>
      obtain ⟨k, hk, rfl, hb⟩ := hrel
      by_cases hlt : k < M.length
      · have hMk := hM.below' hb
        have h6k := hs6.below' hb
        obtain ⟨b, off, rfl, hbm0, hok, hp⟩ := PBlock.elem hMk hlt
        have hplt := hp.lt
        obtain ⟨q0, q1⟩ := hEach k hlt
        obtain ⟨c0, c1_, c2_⟩ := id hp
        have Q0 := Lib.hid q0
        have Q1 := Lib.hid q1
        clear q0 q1
        go_wp2
        have gc0 := cell_regrown c0
        have gc1_ := cell_regrown c1_
        have gc2_ := cell_regrown c2_
        refine wp_region_mix (C := fun w' => ∃ p : Regrown, w' = Go.Sort.grow (redrawn wr p.d) p.os) [true, true, true, true, true, true, true, true, true, true, true, false, true, true, true, true, true] (by kernel_rfl) (by kernel_rfl) (by kernel_rfl) (fun _ _ d _ _ h => by cases d <;> exact h) (regrown_of_below (Below.drew (Below.refl _ _))) ?_
        have hS0 : Below (wr.heap.size) wr wr.drew := Below.drew (Below.refl _ _)
        refine wpMix_pure (by kernel_rfl) (fun K hK => ?_)
        go_big_quiet_op
        refine hK _ ?_; clear hK K
        refine wpMix_pure (by kernel_rfl) (fun K hK => ?_)
        go_big_quiet_op
        refine hK _ ?_; clear hK K
        refine wpMix_pure (by kernel_rfl) (fun K hK => ?_)
        go_big_quiet_op
        refine hK _ ?_; clear hK K
        refine wpMix_pure (by kernel_rfl) (fun K hK => ?_)
        go_big_quiet_op
        refine hK _ ?_; clear hK K
        refine wpMix_pure (by kernel_rfl) (fun K hK => ?_)
        go_big_quiet_op
        refine hK _ ?_; clear hK K
        refine wpMix_pure (by kernel_rfl) (fun K hK => ?_)
        go_big_quiet_op
        refine hK _ ?_; clear hK K
        refine wpMix_pure (by kernel_rfl) (fun K hK => ?_)
        go_big_quiet_op
        refine hK _ ?_; clear hK K
        refine wpMix_pure (by kernel_rfl) (fun K hK => ?_)
        go_big_quiet_op
        refine hK _ ?_; clear hK K
        refine wpMix_pure (by kernel_rfl) (fun K hK => ?_)
        go_big_quiet_op
        refine hK _ ?_; clear hK K
        refine wpMix_pure (by kernel_rfl) (fun K hK => ?_)
        go_big_quiet_op
        refine hK _ ?_; clear hK K
        refine wpMix_pure (by kernel_rfl) (fun K hK => ?_)
        go_big_quiet_op
        refine hK _ ?_; clear hK K
        refine wpMix_act (by kernel_rfl) (fun K hK => ?_)
        go_big_op
        refine ((by have P := implBlockNamed_any (.slice A6 (mgF L M).length c6) (mgF L M) f6 M[k].kind M[k].name _ (h6k.below' hS0); rw [Q0.out, Q1.out] at P; exact P : Calls Try.prog 7 #[.slice A6 (mgF L M).length c6, .string M[k].kind, .string M[k].name] wr.drew fun e w' => SC M[k].text 0 wr.drew e w')).mono ?_
        rintro e wr1 ⟨rfl, hbr1⟩
        have hbr1S : Below (wr.heap.size) wr wr1 := hS0.trans (hbr1.mono hS0.size)
        refine hK _ _ (regrown_of_below hbr1S) ?_
        clear hK K
        refine wpMix_pure (by kernel_rfl) (fun K hK => ?_)
        go_big_quiet_op
        refine hK _ ?_; clear hK K
        refine wpMix_pure (by kernel_rfl) (fun K hK => ?_)
        go_big_quiet_op
        refine hK _ ?_; clear hK K
        refine wpMix_pure (by kernel_rfl) (fun K hK => ?_)
        go_big_quiet_op
        refine hK _ ?_; clear hK K
        refine wpMix_pure (by kernel_rfl) (fun K hK => ?_)
        go_big_quiet_op
        refine hK _ ?_; clear hK K
        refine wpMix_pure (by kernel_rfl) (fun K hK => ?_)
        go_big_quiet_op
        refine hK _ ?_; clear hK K
        refine wpMix_nil ?_
        obtain ⟨c0', c1', c2'⟩ := hp.below' (hbr1S)
        clear gc0 gc1_ gc2_ c0 c1_ c2_
        go_wp2
        go_roundw
        case rel => exact ⟨k + 1, by omega, by go_num, hb.trans ((hbr1S).mono hb.size)⟩
        case measure => simp [intOf]; omega
      · have hke : k = M.length := by omega
        subst hke
        have hle : decide (((mgF L M).length : Int) ≤ (L.length : Int) + (M.length : Int)) = true := by rw [decide_eq_true_eq]; have := HML.out; omega
        have hle2 := HML.out
        go_wp2
        go_ret
        refine ⟨?_, hB.trans (hb.mono hB.size)⟩
        first | rfl | (rw [hle]) | (congr 2; first | exact hle | (simp; omega))

end Go.Proofs.Ytdlihohkamajbaa
