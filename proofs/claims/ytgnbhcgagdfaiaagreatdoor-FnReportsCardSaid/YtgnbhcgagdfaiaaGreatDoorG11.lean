/- Parts of the proof: WReports, LawL, Dr, Open, Ob. -/
import Derived.Test.YtgnbhcgagdfaiaaGreatDoorG08
import Derived.Test.YtgnbhcgagdfaiaaGreatDoorG09
import Derived.Test.YtgnbhcgagdfaiaaGreatDoorG10
import Derived.Deep.CutRange
import Derived.LaidMore
import Derived.Stop.Joined
import Derived.Laws.Tables
import GoSem.PinnedTables
import Derived.Deep.Slices
import Derived.Deep.Fields
import Derived.OpenShut
namespace Go.Proofs.YtgnbhcgagdfaiaaGreatDoor
open Go.RowKit
set_option linter.unusedVariables false

set_option maxRecDepth 100000 in
set_option maxHeartbeats 4000000 in
theorem b10SumK_any (v : Value) (xs : List Int) (fp : List Nat) (w : World) (hx : Sl fInt.cod w v xs fp) (hok : ∀ x ∈ xs, 0 ≤ x ∧ x ≤ 1000000) (hl : xs.length ≤ 1000000) :
    Calls Tryz.prog 23 #[v] w fun e w' => e = .returned (.int .i64 (sumK xs)) ∧ w = w' := by
  obtain ⟨A, cap, rfl, hlen, hcap⟩ := hx.form
  go_enter Tryz.func23, Tryz.ntmps23
  go_wp2
  go_loop [3, 4] (fun s i => ∃ (k : Nat) (c : Int), k ≤ xs.length ∧ Hid (sumK (xs.take k) = c) ∧ 0 ≤ c ∧ c ≤ 1000000 * k ∧ s = .int .i64 c ∧ i = .int .i64 k) (fun _ i => xs.length - (intOf i).toNat)
  case atStart => exact ⟨0, 0, Nat.zero_le _, rfl, by decide, by decide, rfl, rfl⟩
  case round =>
    obtain ⟨k, c, hk, HS, g0, g1, rfl, rfl⟩ := hrel
    by_cases hlt : k < xs.length
    · obtain ⟨b, off, rfl, _, _, n1, _⟩ := hx.cell1 rfl (k := k) hlt rfl
      have hxk := hok _ (List.getElem_mem hlt)
      have HN : Hid (sumK (xs.take (k + 1)) = c + xs[k]) := by show _ = _; rw [sumK_step hlt, HS.out]
      go_wp2
      go_round
      case rel => exact ⟨k + 1, _, by omega, HN, by omega, by omega, by go_num, by go_num⟩
      case measure => simp [intOf]; omega
    · have HF : Hid (sumK xs = c) := by show _ = _; rw [← HS.out, List.take_of_length_le (by omega)]
      go_wp2
      go_ret
      exact ⟨ret_int HF.out.symm, rfl⟩
theorem eqS_beqR {a b : ByteArray} (h : a = b) : (a.toList == b.toList) = true := by rw [h]; simp
theorem neS_beqR {a b : ByteArray} (h : a = b) : (a.toList != b.toList) = false := by rw [h]; simp
theorem eqS_noR {a b : ByteArray} (h : ¬ a = b) : (a.toList == b.toList) = false := by rw [eqS_eq]; exact decide_eq_false h
theorem tot_leR {xs : List ByteArray} (h : ∀ x ∈ xs, x.size ≤ 101) : totStringS xs ≤ 102 * xs.length := by
  rw [← rT_len]
  unfold rT
  induction xs with
  | nil => simp
  | cons x xs ih =>
    have h1 := ih (fun y hy => h y (by simp [hy]))
    have h2 := h x (by simp)
    have h3 : x.data.toList.length = x.size := by simp
    rw [List.flatMap_cons, List.length_append, List.length_append, List.length_cons, List.length_nil, List.length_cons]
    omega
/-- What sorting and counting give. -/
structure SrtQ (ys D S : List ByteArray) (M : List Int) (c a : Nat → Nat) : Prop where
  sl : S.length = ys.length
  ml : M.length = D.length
  dl : D.length ≤ ys.length
  a0 : a 0 = 0
  step : ∀ i, i < D.length → a (i + 1) = a i + c i
  le : ∀ i, i ≤ D.length → a i ≤ ys.length
  mg : ∀ (i : Nat) (h : i < M.length), M[i] = ((c i : Nat) : Int)
  pos : ∀ i, i < D.length → 1 ≤ c i
  get : ∀ (i k : Nat) (h : i < D.length) (hk : k < c i) (hs : a i + k < S.length), S[a i + k] = D[i]
  cnt : ∀ (i : Nat) (h : i < D.length), cntS ys D[i] = c i
  lt : ∀ (i : Nat) (h : i + 1 < D.length), ltS D[i] D[i + 1] = true
  sum : sumK M = (ys.length : Int)
  bd : ∀ x ∈ M, 0 ≤ x ∧ x ≤ (ys.length : Int)
theorem srtQ_of (ys : List ByteArray) : ∃ c a, SrtQ ys (cdF ys) (srtF ys) (cmF ys) c a := by
  have hml : (cmF ys).length = (cdF ys).length := by unfold cmF; rw [List.length_map]
  refine ⟨fun i => cntS ys ((cdF ys)[i]?.getD ⟨#[]⟩), atN ys, srtF_len ys, hml, cdF_len ys, atN_zero ys, fun i h => ?_, fun i h => atN_le h, fun i h => ?_, fun i h => ?_, fun i k h hk hs => ?_, fun i h => ?_, fun i h => cd_lt h, sum_cm ys, fun x hx => ?_⟩
  · rw [atN_step h, List.getElem?_eq_getElem h]; rfl
  · have h' : i < (cdF ys).length := by rw [← hml]; exact h
    have := cm_get h'
    rw [List.getElem?_eq_getElem h] at this
    rw [List.getElem?_eq_getElem h']
    exact Option.some.inj this
  · show 1 ≤ cntS ys _
    rw [List.getElem?_eq_getElem h]
    exact cnt_mem ((cdF_mem ys _).1 (List.getElem_mem h))
  · have hk' : k < cntS ys (cdF ys)[i] := by
      have : k < cntS ys ((cdF ys)[i]?.getD ⟨#[]⟩) := hk
      rw [List.getElem?_eq_getElem h] at this; exact this
    have := atN_get h hk'
    rw [List.getElem?_eq_getElem hs] at this
    exact Option.some.inj this
  · show _ = cntS ys _
    rw [List.getElem?_eq_getElem h]; rfl
  · unfold cmF at hx
    obtain ⟨s, _, rfl⟩ := List.mem_map.1 hx
    have := cnt_le ys s
    omega
set_option maxRecDepth 100000 in
set_option maxHeartbeats 16000000 in
theorem walkReports (v0 : Value) (xs0 : List UInt8) (fp0 : List Nat) (v1 : Value) (xs1 : List UInt8) (fp1 : List Nat) (w : World) (hx0 : Sl fByte.cod w v0 xs0 fp0) (hx1 : Sl fByte.cod w v1 xs1 fp1) (hsh : w.ShapedOpen Tryz.prog) (htab : Tab10 w) :
    Calls Tryz.prog 4 #[v0, v1] w fun e w' => YesR w e w' := by
  obtain ⟨mx, hm⟩ := maxLen_cell hsh
  have hmb := block_lt_of_cell hm
  clear hsh
  go_enter Tryz.func4, Tryz.ntmps4
  go_wp2_with fail
  refine (b10Long_any _ _ _ _ hx0).mono ?_
  rintro e w' ⟨rfl, rfl⟩
  cases hl0 : decide (1048576 < xs0.length)
  case true =>
    go_wp2
    go_ret
    exact ⟨rfl, Below.refl _ _⟩
  clear hl0
  go_wp2_with fail
  refine (b10Long_any _ _ _ _ hx1).mono ?_
  rintro e w' ⟨rfl, rfl⟩
  cases hl1 : decide (1048576 < xs1.length)
  case true =>
    go_wp2
    go_ret
    exact ⟨rfl, Below.refl _ _⟩
  clear hl1
  go_wp2_with fail
  refine (DrawIncidentReport_any _ _ _ _ hx0).mono ?_
  rintro e w1 ⟨y1, is, fq1, rfl, hsI, hlI, hb1⟩
  have ht1 := htab.below hb1
  go_wp2_with fail
  refine (implIncidentReport_any _ _ _ _ hsI ht1).mono ?_
  rintro e w2 ⟨y2, rfl, ⟨f2, hsR, _, _⟩, hb2⟩
  have hB2 := hb1.trans (hb2.mono hb1.size)
  have hsI2 := hsI.below' hb2
  obtain ⟨AI, cI, rfl, hIl, hIc⟩ := hsI2.form
  obtain ⟨AR, cR, rfl, hRl, hRc⟩ := hsR.form
  clear hsI hb1 hb2 ht1
  go_upto_if 41 with fail
  go_cut [6, 7, 8, 9] from 27 (fun _ _ _ _ wx => Below w2.heap.size w2 wx)
  case first => as_aux_lemma =>
    by_cases hc : irC is = 0
    rotate_left
    · go_wp2
      go_meet
      case rel => exact Below.refl _ _
    have hP := irP_of hc
    rw [hc]
    clear hc
    have hIL := hP.len
    have hIok := hP.ok
    have hIday := hP.day
    have hIline := hP.line
    clear hP
    generalize irF is = Q at *
    rw [hIL]
    rw [hIL] at hsR hRl
    go_wp2_with fail
    refine (specValidReport_any _ _ _ _ hsR).mono ?_
    rintro e w' ⟨rfl, rfl⟩
    rw [hIok]
    have HL := Lib.hid hIL
    clear hIL hIok
    go_wp2
    go_loopw [8, 9] (fun iv _ wr => ∃ k : Nat, k ≤ is.length ∧ iv = .int .i64 k ∧ Below w2.heap.size w2 wr) (fun iv _ _ => is.length - (intOf iv).toNat)
    case atStart => exact ⟨0, Nat.zero_le _, rfl, Below.refl _ _⟩
    case round =>
      obtain ⟨k, hk, rfl, hb⟩ := hrel
      by_cases hlt : k < is.length
      rotate_left
      · go_wp2
        go_meet
        case rel => exact hb
      have hki : (k : Int) < (is.length : Int) := by omega
      have hki1 : (k : Int) + 1 < ((is.length + 1 : Nat) : Int) := by omega
      obtain ⟨s, hs1, hs2, hs3⟩ := hIline k hlt
      have hdk := hIday k hlt
      have hlt2 : k + 1 < Q.length := by rw [HL.out]; omega
      obtain ⟨bI, oI, rfl, _, _, hp⟩ := PIncident.elem (hsI2.below' hb) hlt
      have hc0 := hp.c0
      clear hp
      generalize is[k]'hlt = x at *
      have hsz10 := dayT_size hdk.1 hdk.2
      go_wp2_with fail
      refine (sDateText_any x.day _ hdk.1 hdk.2).mono ?_
      rintro e w3 ⟨rfl, hb3⟩
      have hbb := hb.trans (hb3.mono hb.size)
      obtain ⟨bR, oR, rfl, _, _, n0, _⟩ := (hsR.below' hbb).cell1 rfl (k := k + 1) hlt2 rfl
      have hQ : Q[k + 1] = s := by rw [List.getElem?_eq_getElem hlt2] at hs1; exact Option.some.inj hs1
      rw [hQ] at n0
      generalize dayT x.day = dt at *
      have f8 : ¬ (s.size ≤ dt.size) := by omega
      have f17 : (dt.size : Int) ≤ (s.size : Int) := by omega
      rw [← hsz10] at hs3
      have e19 := eqS_beqR hs3
      clear hs1 hQ hdk hs3 hIline hIday hsz10 hs2
      go_wp2
      go_roundw
      case rel =>
        exact ⟨k + 1, by omega, by go_num, hbb⟩
      case measure => simp [intOf]; omega
  case rest =>
    have hB3 := hB2.trans (hcut.mono hB2.size)
    replace hx1 := hx1.below' hB3
    have ht3 := htab.below hB3
    have hm3 := (hB3.cell (p := ⟨1, 0, none⟩) hmb).trans hm
    have hmb3 := Nat.lt_of_lt_of_le hmb hB3.size
    clear hsR hsI2 hcut hB2 hRl hRc htab hm hmb
    go_wp2_with fail
    refine (DrawRegionReport_any _ _ _ _ hx1).mono ?_
    rintro e w4 ⟨y4, rs, fq4, rfl, hsG, hb4⟩
    have ht4 := ht3.below hb4
    go_wp2_with fail
    refine (implRegionReport_any _ _ _ _ hsG ht4).mono ?_
    rintro e w5 ⟨y5, rfl, ⟨f5, hsT, _, _⟩, hb5⟩
    have hb45 := hb4.trans (hb5.mono hb4.size)
    have hB5 := hB3.trans (hb45.mono hB3.size)
    have hsG5 := hsG.below' hb5
    obtain ⟨AG, cG, rfl, hGl, hGc⟩ := hsG5.form
    obtain ⟨AT, cT, rfl, hTl, hTc⟩ := hsT.form
    replace hx1 := hx1.below' hb45
    have hm5 := (hb45.cell (p := ⟨1, 0, none⟩) hmb3).trans hm3
    have hmb5 := Nat.lt_of_lt_of_le hmb3 hb45.size
    clear hsG hb4 hb5 hb45 ht3 ht4 hm3 hmb3 hB3
    go_upto_region 16 with fail
    go_cut [11, 12, 107] from 27 (fun _ _ t wx => t = .bool false ∧ Below w5.heap.size w5 wx)
    case first => as_aux_lemma =>
      by_cases hc : rgnC rs = 0
      rotate_left
      · have hcf : (rgnC rs == 0) = false := by rw [beq_eq_false_iff_ne]; exact hc
        go_wp2
        go_meet
        case rel => exact ⟨rfl, Below.refl _ _⟩
      have hP := rgP_of hc
      rw [hc]
      clear hc
      have hIL := hP.len
      have hIok := hP.ok
      clear hP
      generalize rgnF rs = Q at *
      rw [hIL]
      rw [hIL] at hsT hTl
      go_wp2_with fail
      refine (specValidReport_any _ _ _ _ hsT).mono ?_
      rintro e w' ⟨rfl, rfl⟩
      rw [hIok]
      clear hIL hIok
      go_wp2
      go_meet
      case rel => exact ⟨rfl, Below.refl _ _⟩
    case rest =>
      obtain ⟨rfl, hcut⟩ := hcut
      have hB6 := hB5.trans (hcut.mono hB5.size)
      replace hx1 := hx1.below' hcut
      have hm6 := (hcut.cell (p := ⟨1, 0, none⟩) hmb5).trans hm5
      have hmb6 := Nat.lt_of_lt_of_le hmb5 hcut.size
      clear hsG5 hsT hcut hB5 hTl hTc hm5 hmb5
      go_wp2_with fail
      refine (DrawSortLines_any _ _ _ _ hx1).mono ?_
      rintro e w7 ⟨y7, ys, rfl, fl7, hsY, _, _, hln, hsz, hb7⟩
      have hmb7 := Nat.lt_of_lt_of_le hmb6 hb7.size
      have hm7 := (hb7.cell (p := ⟨1, 0, none⟩) hmb6).trans hm6
      go_wp2_with fail
      refine (implSortLines_any _ _ _ _ hsY).mono ?_
      rintro e w8 ⟨y8, rfl, ⟨f8, hsS, _, _⟩, hb8⟩
      have hsY8 := hsY.below' hb8
      go_wp2_with fail
      refine (implCountLines_any _ _ _ _ hsY8).mono ?_
      rintro e w9 ⟨yd, ym, rfl, f9, f10, hsD, hsM, _, _, _, _, _, hb9⟩
      have hsY9 := hsY8.below' hb9
      have hsS9 := hsS.below' hb9
      have hB9 := hB6.trans (((hb7.trans (hb8.mono hb7.size)).trans (hb9.mono (Nat.le_trans hb7.size hb8.size))).mono hB6.size)
      have hm9 := (hb9.cell (p := ⟨1, 0, none⟩) (Nat.lt_of_lt_of_le hmb7 hb8.size)).trans ((hb8.cell (p := ⟨1, 0, none⟩) hmb7).trans hm7)
      have hmb9 := Nat.lt_of_lt_of_le (Nat.lt_of_lt_of_le hmb7 hb8.size) hb9.size
      clear hsY hsY8 hsS hb7 hb8 hb9 hB6 hm6 hmb6 hm7 hmb7 hx1 hx0
      obtain ⟨AY, cY, rfl, hYl, hYc⟩ := hsY9.form
      obtain ⟨AS, cS, rfl, hSl, hSc⟩ := hsS9.form
      obtain ⟨AD, cD, rfl, hDl, hDc⟩ := hsD.form
      obtain ⟨AM, cM, rfl, hMl, hMc⟩ := hsM.form
      by_cases hl : linesB ys = true
      rotate_left
      · have h1 : slF ys = [] := by unfold slF; rw [if_neg hl]
        have h2 : slC ys = 1 := by unfold slC; rw [if_neg hl]
        have h3 : clC ys = 1 := by unfold clC; rw [if_neg hl]
        rw [h1, h2, h3]
        clear h1 h2 h3 hsS9 hsD hsM hSl hDl hMl
        go_wp2
        go_ret
        exact ⟨rfl, hB9⟩
      have HRB := Lib.hid (read_back hl)
      obtain ⟨c, a, hQ⟩ := srtQ_of ys
      have e1 : slF ys = srtF ys := by unfold slF; rw [if_pos hl]
      have e2 : slC ys = 0 := by unfold slC; rw [if_pos hl]
      have e3 : clC ys = 0 := by unfold clC; rw [if_pos hl]
      have e4 : clD ys = cdF ys := by unfold clD; rw [if_pos hl]
      have e5 : clM ys = cmF ys := by unfold clM; rw [if_pos hl]
      have hrs : (reportF ys).size ≤ 1048576 := by
        have h1 := rT_len ys
        have h2 := tot_leR hsz
        unfold reportF
        rw [if_pos hl]
        show (List.toArray _).size ≤ _
        rw [List.size_toArray]; omega
      have hty : totStringS ys ≤ 1048576 := by have h2 := tot_leR hsz; omega
      rw [e1] at hsS9 hSl ⊢
      rw [e4] at hsD hDl ⊢
      rw [e5] at hsM hMl ⊢
      rw [e2, e3]
      clear e1 e2 e3 e4 e5
      generalize srtF ys = S at *
      generalize cdF ys = D at *
      generalize cmF ys = M at *
      have hq1 := hQ.sl
      have hq2 := hQ.ml
      have hq3 := hQ.dl
      rw [hq1] at hSl ⊢
      rw [hq2] at hMl ⊢
      rw [hq1] at hsS9
      rw [hq2] at hsM
      have HQ1 := Lib.hid hq1
      have HQ2 := Lib.hid hq2
      have HSZ := Lib.hid hsz
      have HL := Lib.hid hl
      clear hq1 hq2 hsz hl
      go_wp2_with fail
      refine (b10SumK_any _ _ _ _ hsM (fun x hx => by have := hQ.bd x hx; omega) (by rw [HQ2.out]; omega)).mono ?_
      rintro e w' ⟨rfl, rfl⟩
      rw [hQ.sum]
      have ha0 := hQ.a0
      go_wp2
      go_loopw [19, 20, 21, 22, 23] (fun at_ iv _ _ _ wr => ∃ i : Nat, i ≤ D.length ∧ iv = .int .i64 i ∧ at_ = .int .i64 ((a i : Nat) : Int) ∧ Below w9.heap.size w9 wr) (fun _ iv _ _ _ _ => D.length - (intOf iv).toNat)
      case atStart => exact ⟨0, Nat.zero_le _, rfl, by rw [ha0]; rfl, Below.refl _ _⟩
      case round => as_aux_lemma =>
        obtain ⟨i, hi, rfl, rfl, hb⟩ := hrel
        by_cases hlt : i < D.length
        · skip
          have hii : (i : Int) < (D.length : Int) := by omega
          have hst := hQ.step i hlt
          have hle := hQ.le (i + 1) hlt
          have hpo := hQ.pos i hlt
          have hltM : i < M.length := by rw [HQ2.out]; exact hlt
          have hmg := hQ.mg i hltM
          have HC := Lib.hid (hQ.cnt i hlt)
          have HG := Lib.hid (fun k hk hs => hQ.get i k hlt hk hs)
          have HLT := Lib.hid (fun (j : Nat) (h : j + 1 = i) => show ltS (D[j]'(by omega)) (D[i]'hlt) = true by subst h; exact hQ.lt j hlt)
          clear hQ
          obtain ⟨bD, oD, rfl, _, _, cD9, _⟩ := hsD.cell1 rfl (k := i) hlt rfl
          obtain ⟨bM, oM, rfl, _, _, cM9, _⟩ := hsM.cell1 rfl (k := i) hltM rfl
          rw [hmg] at cM9
          replace cM9 : w9.cell? ⟨bM, oM + i, none⟩ = some (.int .i64 ((c i : Nat) : Int)) := cM9
          have cD0 := (hb.cell (p := ⟨bD, oD + i, none⟩) (block_lt_of_cell cD9)).trans cD9
          have cM0 := (hb.cell (p := ⟨bM, oM + i, none⟩) (block_lt_of_cell cM9)).trans cM9
          have HDP : Hid (∀ j (h : j + 1 = i), wr.cell? ⟨bD, oD + j, none⟩ = some (.string (D[j]'(by omega)))) := fun j h => by
            obtain ⟨b2, o2, e2, _, _, q2, _⟩ := (hsD.below' hb).cell1 rfl (k := j) (by omega) rfl
            injection e2 with e2
            injection e2 with e3 e4
            subst e3 e4
            exact q2
          clear hmg
          generalize hdi : (D[i]'hlt) = di at *
          generalize c i = ci at *
          generalize hai : a i = ai at *
          have hci : ci ≤ ys.length := by omega
          have f4 : ¬ ((ci : Nat) : Int) < 1 := by omega
          have f14 : ¬ ((ys.length : Nat) : Int) < ((ai : Nat) : Int) + ((ci : Nat) : Int) := by omega
          have hbD9 := hb
          by_cases hz : 0 < i
          rotate_left
          · have f18 : ¬ (0 : Int) < (i : Int) := by omega
            clear HDP HLT
            go_wp2
            have gcM0 := cell_regrown cM0
            have gcD0 := cell_regrown cD0
            refine wp_region_mix (C := fun w' => ∃ p : Regrown, w' = Go.Sort.grow (redrawn wr p.d) p.os) [true, true, true, true, true, true, true, true, true, true, true, true, true, true, true, true, true, true, true, true, true, true, true, true, true, true, true, true, true, true, true, true] (by kernel_rfl) (by kernel_rfl) (by kernel_rfl) (fun _ _ d _ _ h => by cases d <;> exact h) (regrown_of_below (Below.drew (Below.refl _ _))) ?_
            have hS0 : Below (wr.heap.size) wr wr.drew := Below.drew (Below.refl _ _)
            refine wpMix_pure (by kernel_rfl) (fun K hK => ?_); go_big_quiet_op; refine hK _ ?_; clear hK K
            refine wpMix_pure (by kernel_rfl) (fun K hK => ?_); go_big_quiet_op; refine hK _ ?_; clear hK K
            refine wpMix_pure (by kernel_rfl) (fun K hK => ?_); go_big_quiet_op; refine hK _ ?_; clear hK K
            refine wpMix_pure (by kernel_rfl) (fun K hK => ?_); go_big_quiet_op; refine hK _ ?_; clear hK K
            have f4x : ¬ ((ci : Nat) : Int) < 1 := by omega
            refine wpMix_pure (by kernel_rfl) (fun K hK => ?_); go_big_quiet_op; refine hK _ ?_; clear hK K
            refine wpMix_pure (by kernel_rfl) (fun K hK => ?_); go_big_quiet_op; refine hK _ ?_; clear hK K
            refine wpMix_pure (by kernel_rfl) (fun K hK => ?_); go_big_quiet_op; refine hK _ ?_; clear hK K
            refine wpMix_pure (by kernel_rfl) (fun K hK => ?_); go_big_quiet_op; refine hK _ ?_; clear hK K
            refine wpMix_pure (by kernel_rfl) (fun K hK => ?_); go_big_quiet_op; refine hK _ ?_; clear hK K
            refine wpMix_pure (by kernel_rfl) (fun K hK => ?_); go_big_quiet_op; refine hK _ ?_; clear hK K
            refine wpMix_pure (by kernel_rfl) (fun K hK => ?_); go_big_quiet_op; refine hK _ ?_; clear hK K
            refine wpMix_pure (by kernel_rfl) (fun K hK => ?_); go_big_quiet_op; refine hK _ ?_; clear hK K
            refine wpMix_pure (by kernel_rfl) (fun K hK => ?_); go_big_quiet_op; refine hK _ ?_; clear hK K
            refine wpMix_pure (by kernel_rfl) (fun K hK => ?_); go_big_quiet_op; refine hK _ ?_; clear hK K
            have f14x : ¬ ((ys.length : Nat) : Int) < ((ai : Nat) : Int) + ((ci : Nat) : Int) := by omega
            clear f4x
            refine wpMix_pure (by kernel_rfl) (fun K hK => ?_); go_big_quiet_op; refine hK _ ?_; clear hK K
            refine wpMix_pure (by kernel_rfl) (fun K hK => ?_); go_big_quiet_op; refine hK _ ?_; clear hK K
            refine wpMix_pure (by kernel_rfl) (fun K hK => ?_); go_big_quiet_op; refine hK _ ?_; clear hK K
            refine wpMix_pure (by kernel_rfl) (fun K hK => ?_); go_big_quiet_op; refine hK _ ?_; clear hK K
            have f18x : ¬ (0 : Int) < (i : Int) := by omega
            clear f14x
            refine wpMix_pure (by kernel_rfl) (fun K hK => ?_); go_big_quiet_op; refine hK _ ?_; clear hK K
            refine wpMix_pure (by kernel_rfl) (fun K hK => ?_); go_big_quiet_op; refine hK _ ?_; clear hK K
            refine wpMix_skip (by kernel_rfl) (fun K hK => ?_)
            simp only [Act.put, List.setIfInBounds_toArray, List.set_cons_zero, List.set_cons_succ]
            refine hK _ ?_; clear hK K
            refine wpMix_skip (by kernel_rfl) (fun K hK => ?_)
            simp only [Act.put, List.setIfInBounds_toArray, List.set_cons_zero, List.set_cons_succ]
            refine hK _ ?_; clear hK K
            refine wpMix_skip (by kernel_rfl) (fun K hK => ?_)
            simp only [Act.put, List.setIfInBounds_toArray, List.set_cons_zero, List.set_cons_succ]
            refine hK _ ?_; clear hK K
            refine wpMix_skip (by kernel_rfl) (fun K hK => ?_)
            simp only [Act.put, List.setIfInBounds_toArray, List.set_cons_zero, List.set_cons_succ]
            refine hK _ ?_; clear hK K
            refine wpMix_skip (by kernel_rfl) (fun K hK => ?_)
            simp only [Act.put, List.setIfInBounds_toArray, List.set_cons_zero, List.set_cons_succ]
            refine hK _ ?_; clear hK K
            refine wpMix_skip (by kernel_rfl) (fun K hK => ?_)
            simp only [Act.put, List.setIfInBounds_toArray, List.set_cons_zero, List.set_cons_succ]
            refine hK _ ?_; clear hK K
            refine wpMix_skip (by kernel_rfl) (fun K hK => ?_)
            simp only [Act.put, List.setIfInBounds_toArray, List.set_cons_zero, List.set_cons_succ]
            refine hK _ ?_; clear hK K
            refine wpMix_skip (by kernel_rfl) (fun K hK => ?_)
            simp only [Act.put, List.setIfInBounds_toArray, List.set_cons_zero, List.set_cons_succ]
            refine hK _ ?_; clear hK K
            refine wpMix_skip (by kernel_rfl) (fun K hK => ?_)
            simp only [Act.put, List.setIfInBounds_toArray, List.set_cons_zero, List.set_cons_succ]
            refine hK _ ?_; clear hK K
            refine wpMix_skip (by kernel_rfl) (fun K hK => ?_)
            simp only [Act.put, List.setIfInBounds_toArray, List.set_cons_zero, List.set_cons_succ]
            refine hK _ ?_; clear hK K
            refine wpMix_pure (by kernel_rfl) (fun K hK => ?_); go_big_quiet_op; refine hK _ ?_; clear hK K
            refine wpMix_pure (by kernel_rfl) (fun K hK => ?_); go_big_quiet_op; refine hK _ ?_; clear hK K
            refine wpMix_nil ?_
            go_wp2
            have hb9 := hb.trans (hS0.mono hb.size)
            generalize wr.drew = wz at *
            clear hS0 cD0 cM0
            rename World => wo
            go_loopw [21, 22] (fun own kv wx => ∃ k cc : Nat, k ≤ ys.length ∧ kv = .int .i64 k ∧ own = .int .i64 ((cc : Nat) : Int) ∧ Hid (cntS (ys.take k) di = cc) ∧ cc ≤ k ∧ Below w9.heap.size w9 wx) (fun _ kv _ => ys.length - (intOf kv).toNat)
            case atStart => exact ⟨0, 0, Nat.zero_le _, rfl, rfl, rfl, Nat.le_refl _, hb9⟩
            case round =>
              obtain ⟨k, cc, hk, rfl, rfl, HN, hck, hbk⟩ := hrel
              by_cases hlk : k < ys.length
              · obtain ⟨bY, oY, rfl, _, _, cY, _⟩ := (hsY9.below' hbk).cell1 rfl (k := k) hlk rfl
                have cDk := (hbk.cell (p := ⟨bD, oD + i, none⟩) (block_lt_of_cell cD9)).trans cD9
                by_cases he : ys[k] = di
                · have e8 := eqS_beqR he
                  have HN2 : Hid (cntS (ys.take (k + 1)) di = cc + 1) := by show _ = _; rw [cnt_step hlk, HN.out, if_pos he]
                  clear he
                  go_wp2
                  have gcY := cell_regrown cY
                  have gcDk := cell_regrown cDk
                  refine wp_region_mix (C := fun w' => ∃ p : Regrown, w' = Go.Sort.grow (redrawn wr p.d) p.os) [true, true, true, true, true, true, true, true, true] (by kernel_rfl) (by kernel_rfl) (by kernel_rfl) (fun _ _ d _ _ h => by cases d <;> exact h) (regrown_of_below (Below.drew (Below.refl _ _))) ?_
                  have hS0 : Below (wr.heap.size) wr wr.drew := Below.drew (Below.refl _ _)
                  refine wpMix_pure (by kernel_rfl) (fun K hK => ?_); go_big_quiet_op; refine hK _ ?_; clear hK K
                  refine wpMix_pure (by kernel_rfl) (fun K hK => ?_); go_big_quiet_op; refine hK _ ?_; clear hK K
                  refine wpMix_pure (by kernel_rfl) (fun K hK => ?_); go_big_quiet_op; refine hK _ ?_; clear hK K
                  refine wpMix_pure (by kernel_rfl) (fun K hK => ?_); go_big_quiet_op; refine hK _ ?_; clear hK K
                  refine wpMix_pure (by kernel_rfl) (fun K hK => ?_); go_big_quiet_op; refine hK _ ?_; clear hK K
                  refine wpMix_pure (by kernel_rfl) (fun K hK => ?_); go_big_quiet_op; refine hK _ ?_; clear hK K
                  refine wpMix_pure (by kernel_rfl) (fun K hK => ?_); go_big_quiet_op; refine hK _ ?_; clear hK K
                  refine wpMix_pure (by kernel_rfl) (fun K hK => ?_); go_big_quiet_op; refine hK _ ?_; clear hK K
                  refine wpMix_pure (by kernel_rfl) (fun K hK => ?_); go_big_quiet_op; refine hK _ ?_; clear hK K
                  refine wpMix_nil ?_
                  go_wp2
                  go_roundw
                  case rel =>
                    exact ⟨k + 1, cc + 1, by omega, by go_num, by go_num, HN2, by omega, hbk.trans (hS0.mono hbk.size)⟩
                  case measure => simp [intOf]; omega
                · have e8 := eqS_noR he
                  have HN2 : Hid (cntS (ys.take (k + 1)) di = cc) := by show _ = _; rw [cnt_step hlk, HN.out, if_neg he]; rfl
                  clear he
                  go_wp2
                  have gcY := cell_regrown cY
                  have gcDk := cell_regrown cDk
                  refine wp_region_mix (C := fun w' => ∃ p : Regrown, w' = Go.Sort.grow (redrawn wr p.d) p.os) [true, true, true, true, true, true, true, true, true] (by kernel_rfl) (by kernel_rfl) (by kernel_rfl) (fun _ _ d _ _ h => by cases d <;> exact h) (regrown_of_below (Below.drew (Below.refl _ _))) ?_
                  have hS0 : Below (wr.heap.size) wr wr.drew := Below.drew (Below.refl _ _)
                  refine wpMix_pure (by kernel_rfl) (fun K hK => ?_); go_big_quiet_op; refine hK _ ?_; clear hK K
                  refine wpMix_pure (by kernel_rfl) (fun K hK => ?_); go_big_quiet_op; refine hK _ ?_; clear hK K
                  refine wpMix_pure (by kernel_rfl) (fun K hK => ?_); go_big_quiet_op; refine hK _ ?_; clear hK K
                  refine wpMix_pure (by kernel_rfl) (fun K hK => ?_); go_big_quiet_op; refine hK _ ?_; clear hK K
                  refine wpMix_pure (by kernel_rfl) (fun K hK => ?_); go_big_quiet_op; refine hK _ ?_; clear hK K
                  refine wpMix_pure (by kernel_rfl) (fun K hK => ?_); go_big_quiet_op; refine hK _ ?_; clear hK K
                  refine wpMix_pure (by kernel_rfl) (fun K hK => ?_); go_big_quiet_op; refine hK _ ?_; clear hK K
                  refine wpMix_pure (by kernel_rfl) (fun K hK => ?_); go_big_quiet_op; refine hK _ ?_; clear hK K
                  refine wpMix_pure (by kernel_rfl) (fun K hK => ?_); go_big_quiet_op; refine hK _ ?_; clear hK K
                  refine wpMix_nil ?_
                  go_wp2
                  go_roundw
                  case rel =>
                    exact ⟨k + 1, cc, by omega, by go_num, by go_num, HN2, by omega, hbk.trans (hS0.mono hbk.size)⟩
                  case measure => simp [intOf]; omega
              · have hkl : k = ys.length := by omega
                have hcc : cc = ci := by have h1 := HN.out; rw [List.take_of_length_le (by omega)] at h1; rw [← h1]; exact HC.out
                subst hcc
                clear HN hkl
                have cMk := (hbk.cell (p := ⟨bM, oM + i, none⟩) (block_lt_of_cell cM9)).trans cM9
                go_wp2
                go_loopw [23] (fun kv wx => ∃ k : Nat, k ≤ cc ∧ kv = .int .i64 k ∧ Below w9.heap.size w9 wx) (fun kv _ => cc - (intOf kv).toNat)
                case atStart => exact ⟨0, Nat.zero_le _, rfl, hbk⟩
                case round =>
                  obtain ⟨j3, hj3, rfl, hb3⟩ := hrel
                  have cM3 := (hb3.cell (p := ⟨bM, oM + i, none⟩) (block_lt_of_cell cM9)).trans cM9
                  by_cases hl3 : j3 < cc
                  · have hsl : ai + j3 < S.length := by rw [HQ1.out]; omega
                    obtain ⟨bS, oS, rfl, _, _, cS3, _⟩ := (hsS9.below' hb3).cell1 rfl (k := ai + j3) hsl rfl
                    rw [HG.out j3 hl3 hsl] at cS3
                    have cD3 := (hb3.cell (p := ⟨bD, oD + i, none⟩) (block_lt_of_cell cD9)).trans cD9
                    have e10 := neS_beqR (rfl : di = di)
                    go_wp2
                    have gcS3 := cell_regrown cS3
                    have gcD3 := cell_regrown cD3
                    refine wp_region_mix (C := fun w' => ∃ p : Regrown, w' = Go.Sort.grow (redrawn wr p.d) p.os) [true, true, true, true, true, true, true, true, true, true, true] (by kernel_rfl) (by kernel_rfl) (by kernel_rfl) (fun _ _ d _ _ h => by cases d <;> exact h) (regrown_of_below (Below.drew (Below.refl _ _))) ?_
                    have hS0 : Below (wr.heap.size) wr wr.drew := Below.drew (Below.refl _ _)
                    refine wpMix_pure (by kernel_rfl) (fun K hK => ?_); go_big_quiet_op; refine hK _ ?_; clear hK K
                    refine wpMix_pure (by kernel_rfl) (fun K hK => ?_); go_big_quiet_op; refine hK _ ?_; clear hK K
                    refine wpMix_pure (by kernel_rfl) (fun K hK => ?_); go_big_quiet_op; refine hK _ ?_; clear hK K
                    refine wpMix_pure (by kernel_rfl) (fun K hK => ?_); go_big_quiet_op; refine hK _ ?_; clear hK K
                    refine wpMix_pure (by kernel_rfl) (fun K hK => ?_); go_big_quiet_op; refine hK _ ?_; clear hK K
                    refine wpMix_pure (by kernel_rfl) (fun K hK => ?_); go_big_quiet_op; refine hK _ ?_; clear hK K
                    refine wpMix_pure (by kernel_rfl) (fun K hK => ?_); go_big_quiet_op; refine hK _ ?_; clear hK K
                    refine wpMix_pure (by kernel_rfl) (fun K hK => ?_); go_big_quiet_op; refine hK _ ?_; clear hK K
                    refine wpMix_pure (by kernel_rfl) (fun K hK => ?_); go_big_quiet_op; refine hK _ ?_; clear hK K
                    refine wpMix_pure (by kernel_rfl) (fun K hK => ?_); go_big_quiet_op; refine hK _ ?_; clear hK K
                    refine wpMix_pure (by kernel_rfl) (fun K hK => ?_); go_big_quiet_op; refine hK _ ?_; clear hK K
                    refine wpMix_nil ?_
                    go_wp2
                    go_roundw
                    case rel =>
                      exact ⟨j3 + 1, by omega, by go_num, hb3.trans (hS0.mono hb3.size)⟩
                    case measure => simp [intOf]; omega
                  · clear HG HC
                    go_wp2
                    go_roundw
                    case rel =>
                      exact ⟨i + 1, by omega, by go_num, by rw [hst]; go_num, hb3⟩
                    case measure => simp [intOf]; omega
          · obtain ⟨j, rfl⟩ : ∃ j, i = j + 1 := ⟨i - 1, by omega⟩
            have cDk := HDP.out j rfl
            have hlj := HLT.out j rfl
            generalize (D[j]'(by omega)) = dj at *
            have f18 : (0 : Int) < ((j + 1 : Nat) : Int) := by omega
            have f22 : ((j + 1 : Nat) : Int) - 1 = (j : Int) := by omega
            have f29 : Op.bytesLess dj.toList di.toList = true := hlj
            clear HDP HLT
            go_wp2
            have gcM0 := cell_regrown cM0
            have gcD0 := cell_regrown cD0
            have gcDk := cell_regrown cDk
            refine wp_region_mix (C := fun w' => ∃ p : Regrown, w' = Go.Sort.grow (redrawn wr p.d) p.os) [true, true, true, true, true, true, true, true, true, true, true, true, true, true, true, true, true, true, true, true, true, true, true, true, true, true, true, true, true, true, true, true] (by kernel_rfl) (by kernel_rfl) (by kernel_rfl) (fun _ _ d _ _ h => by cases d <;> exact h) (regrown_of_below (Below.drew (Below.refl _ _))) ?_
            have hS0 : Below (wr.heap.size) wr wr.drew := Below.drew (Below.refl _ _)
            refine wpMix_pure (by kernel_rfl) (fun K hK => ?_); go_big_quiet_op; refine hK _ ?_; clear hK K
            refine wpMix_pure (by kernel_rfl) (fun K hK => ?_); go_big_quiet_op; refine hK _ ?_; clear hK K
            refine wpMix_pure (by kernel_rfl) (fun K hK => ?_); go_big_quiet_op; refine hK _ ?_; clear hK K
            refine wpMix_pure (by kernel_rfl) (fun K hK => ?_); go_big_quiet_op; refine hK _ ?_; clear hK K
            have f4x : ¬ ((ci : Nat) : Int) < 1 := by omega
            refine wpMix_pure (by kernel_rfl) (fun K hK => ?_); go_big_quiet_op; refine hK _ ?_; clear hK K
            refine wpMix_pure (by kernel_rfl) (fun K hK => ?_); go_big_quiet_op; refine hK _ ?_; clear hK K
            refine wpMix_pure (by kernel_rfl) (fun K hK => ?_); go_big_quiet_op; refine hK _ ?_; clear hK K
            refine wpMix_pure (by kernel_rfl) (fun K hK => ?_); go_big_quiet_op; refine hK _ ?_; clear hK K
            refine wpMix_pure (by kernel_rfl) (fun K hK => ?_); go_big_quiet_op; refine hK _ ?_; clear hK K
            refine wpMix_pure (by kernel_rfl) (fun K hK => ?_); go_big_quiet_op; refine hK _ ?_; clear hK K
            refine wpMix_pure (by kernel_rfl) (fun K hK => ?_); go_big_quiet_op; refine hK _ ?_; clear hK K
            refine wpMix_pure (by kernel_rfl) (fun K hK => ?_); go_big_quiet_op; refine hK _ ?_; clear hK K
            refine wpMix_pure (by kernel_rfl) (fun K hK => ?_); go_big_quiet_op; refine hK _ ?_; clear hK K
            refine wpMix_pure (by kernel_rfl) (fun K hK => ?_); go_big_quiet_op; refine hK _ ?_; clear hK K
            have f14x : ¬ ((ys.length : Nat) : Int) < ((ai : Nat) : Int) + ((ci : Nat) : Int) := by omega
            clear f4x
            refine wpMix_pure (by kernel_rfl) (fun K hK => ?_); go_big_quiet_op; refine hK _ ?_; clear hK K
            refine wpMix_pure (by kernel_rfl) (fun K hK => ?_); go_big_quiet_op; refine hK _ ?_; clear hK K
            refine wpMix_pure (by kernel_rfl) (fun K hK => ?_); go_big_quiet_op; refine hK _ ?_; clear hK K
            refine wpMix_pure (by kernel_rfl) (fun K hK => ?_); go_big_quiet_op; refine hK _ ?_; clear hK K
            have f18x : (0 : Int) < ((j + 1 : Nat) : Int) := by omega
            clear f14x
            refine wpMix_pure (by kernel_rfl) (fun K hK => ?_); go_big_quiet_op; refine hK _ ?_; clear hK K
            refine wpMix_pure (by kernel_rfl) (fun K hK => ?_); go_big_quiet_op; refine hK _ ?_; clear hK K
            refine wpMix_pure (by kernel_rfl) (fun K hK => ?_); go_big_quiet_op; refine hK _ ?_; clear hK K
            refine wpMix_pure (by kernel_rfl) (fun K hK => ?_); go_big_quiet_op; refine hK _ ?_; clear hK K
            refine wpMix_pure (by kernel_rfl) (fun K hK => ?_); go_big_quiet_op; refine hK _ ?_; clear hK K
            refine wpMix_pure (by kernel_rfl) (fun K hK => ?_); go_big_quiet_op; refine hK _ ?_; clear hK K
            refine wpMix_pure (by kernel_rfl) (fun K hK => ?_); go_big_quiet_op; refine hK _ ?_; clear hK K
            refine wpMix_pure (by kernel_rfl) (fun K hK => ?_); go_big_quiet_op; refine hK _ ?_; clear hK K
            refine wpMix_pure (by kernel_rfl) (fun K hK => ?_); go_big_quiet_op; refine hK _ ?_; clear hK K
            refine wpMix_pure (by kernel_rfl) (fun K hK => ?_); go_big_quiet_op; refine hK _ ?_; clear hK K
            refine wpMix_pure (by kernel_rfl) (fun K hK => ?_); go_big_quiet_op; refine hK _ ?_; clear hK K
            refine wpMix_pure (by kernel_rfl) (fun K hK => ?_); go_big_quiet_op; refine hK _ ?_; clear hK K
            refine wpMix_pure (by kernel_rfl) (fun K hK => ?_); go_big_quiet_op; refine hK _ ?_; clear hK K
            refine wpMix_pure (by kernel_rfl) (fun K hK => ?_); go_big_quiet_op; refine hK _ ?_; clear hK K
            refine wpMix_nil ?_
            go_wp2
            have hb9 := hb.trans (hS0.mono hb.size)
            generalize wr.drew = wz at *
            clear hS0 cD0 cM0
            rename World => wo
            go_loopw [21, 22] (fun own kv wx => ∃ k cc : Nat, k ≤ ys.length ∧ kv = .int .i64 k ∧ own = .int .i64 ((cc : Nat) : Int) ∧ Hid (cntS (ys.take k) di = cc) ∧ cc ≤ k ∧ Below w9.heap.size w9 wx) (fun _ kv _ => ys.length - (intOf kv).toNat)
            case atStart => exact ⟨0, 0, Nat.zero_le _, rfl, rfl, rfl, Nat.le_refl _, hb9⟩
            case round =>
              obtain ⟨k, cc, hk, rfl, rfl, HN, hck, hbk⟩ := hrel
              by_cases hlk : k < ys.length
              · obtain ⟨bY, oY, rfl, _, _, cY, _⟩ := (hsY9.below' hbk).cell1 rfl (k := k) hlk rfl
                have cDk := (hbk.cell (p := ⟨bD, oD + (j + 1), none⟩) (block_lt_of_cell cD9)).trans cD9
                by_cases he : ys[k] = di
                · have e8 := eqS_beqR he
                  have HN2 : Hid (cntS (ys.take (k + 1)) di = cc + 1) := by show _ = _; rw [cnt_step hlk, HN.out, if_pos he]
                  clear he
                  go_wp2
                  have gcY := cell_regrown cY
                  have gcDk := cell_regrown cDk
                  refine wp_region_mix (C := fun w' => ∃ p : Regrown, w' = Go.Sort.grow (redrawn wr p.d) p.os) [true, true, true, true, true, true, true, true, true] (by kernel_rfl) (by kernel_rfl) (by kernel_rfl) (fun _ _ d _ _ h => by cases d <;> exact h) (regrown_of_below (Below.drew (Below.refl _ _))) ?_
                  have hS0 : Below (wr.heap.size) wr wr.drew := Below.drew (Below.refl _ _)
                  refine wpMix_pure (by kernel_rfl) (fun K hK => ?_); go_big_quiet_op; refine hK _ ?_; clear hK K
                  refine wpMix_pure (by kernel_rfl) (fun K hK => ?_); go_big_quiet_op; refine hK _ ?_; clear hK K
                  refine wpMix_pure (by kernel_rfl) (fun K hK => ?_); go_big_quiet_op; refine hK _ ?_; clear hK K
                  refine wpMix_pure (by kernel_rfl) (fun K hK => ?_); go_big_quiet_op; refine hK _ ?_; clear hK K
                  refine wpMix_pure (by kernel_rfl) (fun K hK => ?_); go_big_quiet_op; refine hK _ ?_; clear hK K
                  refine wpMix_pure (by kernel_rfl) (fun K hK => ?_); go_big_quiet_op; refine hK _ ?_; clear hK K
                  refine wpMix_pure (by kernel_rfl) (fun K hK => ?_); go_big_quiet_op; refine hK _ ?_; clear hK K
                  refine wpMix_pure (by kernel_rfl) (fun K hK => ?_); go_big_quiet_op; refine hK _ ?_; clear hK K
                  refine wpMix_pure (by kernel_rfl) (fun K hK => ?_); go_big_quiet_op; refine hK _ ?_; clear hK K
                  refine wpMix_nil ?_
                  go_wp2
                  go_roundw
                  case rel =>
                    exact ⟨k + 1, cc + 1, by omega, by go_num, by go_num, HN2, by omega, hbk.trans (hS0.mono hbk.size)⟩
                  case measure => simp [intOf]; omega
                · have e8 := eqS_noR he
                  have HN2 : Hid (cntS (ys.take (k + 1)) di = cc) := by show _ = _; rw [cnt_step hlk, HN.out, if_neg he]; rfl
                  clear he
                  go_wp2
                  have gcY := cell_regrown cY
                  have gcDk := cell_regrown cDk
                  refine wp_region_mix (C := fun w' => ∃ p : Regrown, w' = Go.Sort.grow (redrawn wr p.d) p.os) [true, true, true, true, true, true, true, true, true] (by kernel_rfl) (by kernel_rfl) (by kernel_rfl) (fun _ _ d _ _ h => by cases d <;> exact h) (regrown_of_below (Below.drew (Below.refl _ _))) ?_
                  have hS0 : Below (wr.heap.size) wr wr.drew := Below.drew (Below.refl _ _)
                  refine wpMix_pure (by kernel_rfl) (fun K hK => ?_); go_big_quiet_op; refine hK _ ?_; clear hK K
                  refine wpMix_pure (by kernel_rfl) (fun K hK => ?_); go_big_quiet_op; refine hK _ ?_; clear hK K
                  refine wpMix_pure (by kernel_rfl) (fun K hK => ?_); go_big_quiet_op; refine hK _ ?_; clear hK K
                  refine wpMix_pure (by kernel_rfl) (fun K hK => ?_); go_big_quiet_op; refine hK _ ?_; clear hK K
                  refine wpMix_pure (by kernel_rfl) (fun K hK => ?_); go_big_quiet_op; refine hK _ ?_; clear hK K
                  refine wpMix_pure (by kernel_rfl) (fun K hK => ?_); go_big_quiet_op; refine hK _ ?_; clear hK K
                  refine wpMix_pure (by kernel_rfl) (fun K hK => ?_); go_big_quiet_op; refine hK _ ?_; clear hK K
                  refine wpMix_pure (by kernel_rfl) (fun K hK => ?_); go_big_quiet_op; refine hK _ ?_; clear hK K
                  refine wpMix_pure (by kernel_rfl) (fun K hK => ?_); go_big_quiet_op; refine hK _ ?_; clear hK K
                  refine wpMix_nil ?_
                  go_wp2
                  go_roundw
                  case rel =>
                    exact ⟨k + 1, cc, by omega, by go_num, by go_num, HN2, by omega, hbk.trans (hS0.mono hbk.size)⟩
                  case measure => simp [intOf]; omega
              · have hkl : k = ys.length := by omega
                have hcc : cc = ci := by have h1 := HN.out; rw [List.take_of_length_le (by omega)] at h1; rw [← h1]; exact HC.out
                subst hcc
                clear HN hkl
                have cMk := (hbk.cell (p := ⟨bM, oM + (j + 1), none⟩) (block_lt_of_cell cM9)).trans cM9
                go_wp2
                go_loopw [23] (fun kv wx => ∃ k : Nat, k ≤ cc ∧ kv = .int .i64 k ∧ Below w9.heap.size w9 wx) (fun kv _ => cc - (intOf kv).toNat)
                case atStart => exact ⟨0, Nat.zero_le _, rfl, hbk⟩
                case round =>
                  obtain ⟨j3, hj3, rfl, hb3⟩ := hrel
                  have cM3 := (hb3.cell (p := ⟨bM, oM + (j + 1), none⟩) (block_lt_of_cell cM9)).trans cM9
                  by_cases hl3 : j3 < cc
                  · have hsl : ai + j3 < S.length := by rw [HQ1.out]; omega
                    obtain ⟨bS, oS, rfl, _, _, cS3, _⟩ := (hsS9.below' hb3).cell1 rfl (k := ai + j3) hsl rfl
                    rw [HG.out j3 hl3 hsl] at cS3
                    have cD3 := (hb3.cell (p := ⟨bD, oD + (j + 1), none⟩) (block_lt_of_cell cD9)).trans cD9
                    have e10 := neS_beqR (rfl : di = di)
                    go_wp2
                    have gcS3 := cell_regrown cS3
                    have gcD3 := cell_regrown cD3
                    refine wp_region_mix (C := fun w' => ∃ p : Regrown, w' = Go.Sort.grow (redrawn wr p.d) p.os) [true, true, true, true, true, true, true, true, true, true, true] (by kernel_rfl) (by kernel_rfl) (by kernel_rfl) (fun _ _ d _ _ h => by cases d <;> exact h) (regrown_of_below (Below.drew (Below.refl _ _))) ?_
                    have hS0 : Below (wr.heap.size) wr wr.drew := Below.drew (Below.refl _ _)
                    refine wpMix_pure (by kernel_rfl) (fun K hK => ?_); go_big_quiet_op; refine hK _ ?_; clear hK K
                    refine wpMix_pure (by kernel_rfl) (fun K hK => ?_); go_big_quiet_op; refine hK _ ?_; clear hK K
                    refine wpMix_pure (by kernel_rfl) (fun K hK => ?_); go_big_quiet_op; refine hK _ ?_; clear hK K
                    refine wpMix_pure (by kernel_rfl) (fun K hK => ?_); go_big_quiet_op; refine hK _ ?_; clear hK K
                    refine wpMix_pure (by kernel_rfl) (fun K hK => ?_); go_big_quiet_op; refine hK _ ?_; clear hK K
                    refine wpMix_pure (by kernel_rfl) (fun K hK => ?_); go_big_quiet_op; refine hK _ ?_; clear hK K
                    refine wpMix_pure (by kernel_rfl) (fun K hK => ?_); go_big_quiet_op; refine hK _ ?_; clear hK K
                    refine wpMix_pure (by kernel_rfl) (fun K hK => ?_); go_big_quiet_op; refine hK _ ?_; clear hK K
                    refine wpMix_pure (by kernel_rfl) (fun K hK => ?_); go_big_quiet_op; refine hK _ ?_; clear hK K
                    refine wpMix_pure (by kernel_rfl) (fun K hK => ?_); go_big_quiet_op; refine hK _ ?_; clear hK K
                    refine wpMix_pure (by kernel_rfl) (fun K hK => ?_); go_big_quiet_op; refine hK _ ?_; clear hK K
                    refine wpMix_nil ?_
                    go_wp2
                    go_roundw
                    case rel =>
                      exact ⟨j3 + 1, by omega, by go_num, hb3.trans (hS0.mono hb3.size)⟩
                    case measure => simp [intOf]; omega
                  · clear HG HC
                    go_wp2
                    go_roundw
                    case rel =>
                      exact ⟨(j + 1) + 1, by omega, by go_num, by rw [hst]; go_num, hb3⟩
                    case measure => simp [intOf]; omega
        · skip
          clear hQ hsD hsM hsS9
          have hm10 := (hb.cell (p := ⟨1, 0, none⟩) hmb9).trans hm9
          have hmb10 := Nat.lt_of_lt_of_le hmb9 hb.size
          go_wp2_with fail
          refine (implReportText_any _ _ _ _ (hsY9.below' hb) hty).mono ?_
          rintro e w10 ⟨rfl, hb10⟩
          have hm11 := (hb10.cell (p := ⟨1, 0, none⟩) hmb10).trans hm10
          go_wp2_with fail
          refine (implReadReport_any _ _ _ hrs hm11).mono ?_
          rintro e w11 ⟨y11, rfl, ⟨f11, hsR, _, _⟩, hb11⟩
          rw [HRB.out.1]
          rw [HRB.out.2] at hsR
          clear HRB hm11 hm10
          have hb1011 := hb.trans ((hb10.trans (hb11.mono hb10.size)).mono hb.size)
          have hsY11 := hsY9.below' hb1011
          have hB11 := hB9.trans (hb1011.mono hB9.size)
          clear hsY9 hb hb10 hb11 hb1011 hm9
          obtain ⟨AR, cR, rfl, hRl, hRc⟩ := hsR.form
          go_wp2
          go_loopw [26] (fun kv wx => ∃ k : Nat, k ≤ ys.length ∧ kv = .int .i64 k ∧ Below w11.heap.size w11 wx) (fun kv _ => ys.length - (intOf kv).toNat)
          case atStart => exact ⟨0, Nat.zero_le _, rfl, Below.refl _ _⟩
          case round =>
            obtain ⟨k, hk, rfl, hbk⟩ := hrel
            by_cases hlk : k < ys.length
            · obtain ⟨bY, oY, rfl, _, _, cY, _⟩ := (hsY11.below' hbk).cell1 rfl (k := k) hlk rfl
              obtain ⟨bR, oR, rfl, _, _, cR0, _⟩ := (hsR.below' hbk).cell1 rfl (k := k) hlk rfl
              have e8 := neS_beqR (rfl : (ys[k]'hlk) = ys[k]'hlk)
              go_wp2
              have gcR0 := cell_regrown cR0
              have gcY := cell_regrown cY
              refine wp_region_mix (C := fun w' => ∃ p : Regrown, w' = Go.Sort.grow (redrawn wr p.d) p.os) [true, true, true, true, true, true, true, true, true] (by kernel_rfl) (by kernel_rfl) (by kernel_rfl) (fun _ _ d _ _ h => by cases d <;> exact h) (regrown_of_below (Below.drew (Below.refl _ _))) ?_
              have hS0 : Below (wr.heap.size) wr wr.drew := Below.drew (Below.refl _ _)
              refine wpMix_pure (by kernel_rfl) (fun K hK => ?_); go_big_quiet_op; refine hK _ ?_; clear hK K
              refine wpMix_pure (by kernel_rfl) (fun K hK => ?_); go_big_quiet_op; refine hK _ ?_; clear hK K
              refine wpMix_pure (by kernel_rfl) (fun K hK => ?_); go_big_quiet_op; refine hK _ ?_; clear hK K
              refine wpMix_pure (by kernel_rfl) (fun K hK => ?_); go_big_quiet_op; refine hK _ ?_; clear hK K
              refine wpMix_pure (by kernel_rfl) (fun K hK => ?_); go_big_quiet_op; refine hK _ ?_; clear hK K
              refine wpMix_pure (by kernel_rfl) (fun K hK => ?_); go_big_quiet_op; refine hK _ ?_; clear hK K
              refine wpMix_pure (by kernel_rfl) (fun K hK => ?_); go_big_quiet_op; refine hK _ ?_; clear hK K
              refine wpMix_pure (by kernel_rfl) (fun K hK => ?_); go_big_quiet_op; refine hK _ ?_; clear hK K
              refine wpMix_pure (by kernel_rfl) (fun K hK => ?_); go_big_quiet_op; refine hK _ ?_; clear hK K
              refine wpMix_nil ?_
              go_wp2
              go_roundw
              case rel =>
                exact ⟨k + 1, by omega, by go_num, hbk.trans (hS0.mono hbk.size)⟩
              case measure => simp [intOf]; omega
            · go_wp2
              go_ret
              exact ⟨rfl, hB11.trans (hbk.mono hB11.size)⟩

end Go.Proofs.YtgnbhcgagdfaiaaGreatDoor

namespace Go.Proofs.YtgnbhcgagdfaiaaGreatDoor
open Go.RowKit Go.WideShapes Go.ChangeShapes Go.ChangeAt

set_option maxRecDepth 100000 in
theorem law_liftedL {F : FuncId} {fn : Func} {s : ChangeSpec} (laid : List (String × DataW Unit)) (os : Os) (started : os.Started) (H : Type) (enc : TypeId × Value → H)
    (hfn : Tryz.checked.prog.funcs[F]? = some fn) (noInit : Tryz.checked.prog.inits.idxOf? F = none)
    (witness : ∃ (w : World) (tape : Tape) (i : Input), w.os = os ∧ (w.forCall tape i).Shaped Tryz.checked.prog ∧ i.vars = [] ∧ Input.okWide Tryz.checked.prog (w.forCall tape i) .any w.heap.size F i ∧
      ((s.pre enc Tryz.checked.prog fn [] false (w.forCall tape i).memory i.args ∧ laidMetH Tryz.checked.prog laid (w.forCall tape i).memory) ∧ sizedMet enc Tryz.checked.prog fn (OpenSpec.ofChange s) false (w.forCall tape i).memory i.args) ∧ ({} : Assume).holds Tryz.checked.prog (lone (Frame.enter Tryz.checked.prog F i.args .normal) [] (w.forCall tape i)))
    (hs : s.vars = []) (hres : fn.resultTypes = #[4]) (hread : ∀ t ∈ fn.params.toList, Tryz.prog.readableRec t = true ∧ t < Tryz.prog.types.size)
    (hspec : ∀ ds : List (DataW H), ds.length = fn.params.toList.length → s.fn H ds = { results := [.lit (.bool true)], args := ds })
    (walk : ∀ (W : World) (args : Array Value) (ds : List (DataW H)) (p : List MemPlace), W.ShapedOpen Tryz.prog → laidMetH Tryz.prog laid W → (∀ (j : Nat) t v, fn.params[j]? = some t → args[j]? = some v → ∃ base, Value.okWide Tryz.prog W .any base t v) →
      DataW.TrodAll enc Tryz.prog W 0 (fun _ => true) true fn.params.toList args.toList ds p → W.noneFrozen p → Calls Tryz.prog F args W fun e W' => e = .returned (.bool true) ∧ Below W.heap.size W W') :
    ReturnsInHanded {} Tryz.checked os F .any (fun w args => (s.pre enc Tryz.checked.prog fn [] false w args ∧ laidMetH Tryz.checked.prog laid w) ∧ sizedMet enc Tryz.checked.prog fn (OpenSpec.ofChange s) false w args) (s.post enc Tryz.checked.prog fn false true false false) := by
  refine returnsInHanded_of_calls (C := Tryz.checked) Tryz.own started noInit witness ?_
  intro w tape i _ hsh _ hok hpre hholds
  obtain ⟨_, _, _, fn', hfn', _, _, _, _, hval⟩ := hok
  have e : fn' = fn := Option.some.inj (hfn'.symm.trans hfn)
  subst e
  obtain ⟨⟨⟨ds, gs, before, hw, hc⟩, hx⟩, hz⟩ := hpre
  have hW := DataW.Whole.of_heap (w' := w.forCall tape i) (by rfl) hw
  have hX : laidMetH Tryz.prog laid (w.forCall tape i) := laidMetH.of_heap (by rfl) hx
  generalize w.forCall tape i = W at *
  have hW' := hW
  obtain ⟨p, q, hA, hV, hpq, hfz, hnd⟩ := hW
  rw [hs] at hV
  obtain ⟨rfl, rfl⟩ := trodVars_none hV
  rw [List.append_nil] at hpq
  subst hpq
  refine (walk W i.args ds _ hsh hX (fun j t v h1 h2 => ⟨w.heap.size, hval j t v h1 h2⟩) hA hfz).mono fun e W' ⟨he, hb⟩ => ?_
  subst he
  have hsp : s.fn H (ds ++ []) = { results := [.lit (.bool true)], args := ds } := by
    rw [List.append_nil]; exact hspec ds (trodAll_len _ _ _ _ hA)
  have hlt := fun x hx => hW'.lt x hx
  refine ChangeSpec.post_blind (W := W) ?_
  refine post_of_below (pa := before) (pv := []) hW' (fun b sp hd => ?_) (fun sp h => ?_) (fun sp h => ?_) (by simp) hb ?_
  · rw [hsp, hres]; exact trodAll_mk1 (shut_bool Tryz.underlying4 _)
  · rw [hsp]; exact trodAll_below Tryz.laidOut hb _ _ _ _ hread hA hlt h
  · rw [hsp, hs]; rfl
  · rw [hres]; exact fun j t r h1 h2 => ok_one (f := fn') hres rfl (okWide_bool_mk Tryz.underlying4 _) j t r (by rw [hres]; exact h1) (by rw [hres]; exact h2)
end Go.Proofs.YtgnbhcgagdfaiaaGreatDoor

namespace Go.Proofs.YtgnbhcgagdfaiaaGreatDoor
noncomputable def doorWorld (os : Os) : World := (World.doorLaid Tryz.prog 34 os).setRow 2 (Go.Pinned.utf8FirstZ.map (fun z : Nat => Value.int .u8 (z : Int))).toArray
end Go.Proofs.YtgnbhcgagdfaiaaGreatDoor

namespace Go.Proofs.YtgnbhcgagdfaiaaGreatDoor
open Go.RowKit Go.WideShapes Go.ChangeShapes Go.ChangeAt Go.Deep

/-- Whatever the form's reader reads at type t reads by E. -/
def Opens {α : Type} (t : TypeId) (E : Cod α) : Prop :=
  ∀ {H : Type} {enc : TypeId × Value → H} {w : World} {n : Nat} {cs : List Value} {x : DataW H × List MemPlace},
    DataW.trod enc Tryz.prog w 0 (fun _ => true) true n t cs = some x → w.noneFrozen x.2 → ∃ y fp, E.rd w cs y fp

theorem opens_int {t : TypeId} (ht : Tryz.prog.underlying t = some (.int .i64)) : Opens t fInt.cod := by
  intro H enc w n cs x h _
  obtain ⟨k, rfl, rfl, wk⟩ := DataW.trod_int ht h
  refine ⟨k, [], rfl, ?_, rfl⟩
  exact bounds_i64 wk
theorem opens_str {t : TypeId} (ht : Tryz.prog.underlying t = some .string) : Opens t fStr.cod := by
  intro H enc w n cs x h _
  obtain ⟨s, rfl, rfl, hs⟩ := DataW.trod_string ht h
  exact ⟨s, [], rfl, by unfold maxLen at hs; exact hs, rfl⟩
theorem opens_bool {t : TypeId} (ht : Tryz.prog.underlying t = some .bool) : Opens t fBool.cod := by
  intro H enc w n cs x h _
  obtain ⟨s, rfl, rfl⟩ := DataW.trod_bool ht h
  exact ⟨s, [], rfl, trivial, rfl⟩

theorem add_none (b off x y : Nat) : ((⟨b, off, none⟩ : Addr).add x).add y = ⟨b, off + x + y, none⟩ := by
  unfold Addr.add
  by_cases hx : x = 0 <;> by_cases hy : y = 0 <;> simp [hx, hy]

theorem opens_slice {α : Type} {E : Cod α} {t e : TypeId} (ht : Tryz.prog.underlying t = some (.slice e)) (hn : Tryz.prog.cellsOf e = E.n) (he : Opens e E) : Opens t E.slice := by
  intro H enc w n cs x h hfz
  rcases open_slice ht h with ⟨rfl, rfl⟩ | ⟨a, len, cap, m, n', D, Pl, rfl, hb, hl, hm, hmm, hx, hi⟩
  · exact ⟨[], [], _, rfl, none, 0, rfl, by simp, by simp [maxLen], .inl ⟨rfl, rfl⟩⟩
  · simp only [if_true] at hmm
    subst hmm
    rcases Nat.eq_zero_or_pos len with h0 | h0
    · subst h0
      exact ⟨[], [], _, rfl, some a, m, rfl, by simp, hm, .inl ⟨rfl, rfl⟩⟩
    · rw [hn] at hi
      have hspot : a = ⟨a.block, a.off, none⟩ := by
        obtain ⟨cs', hc, _⟩ := hi 0 (by omega)
        obtain ⟨_, hcl, hat⟩ := World.cells?_some hc
        have h1 := hat 0 E.pos
        have hps := E.pos
        rw [List.getElem?_eq_getElem (by omega)] at h1
        have h2 : w.cell? a = some cs'[0] := by simpa [Addr.add] using h1
        have := World.cell?_spot h2
        cases a; simp_all
      have hel : ∀ i : Fin len, ∃ p : α × List Nat × List Value, (∀ j, j < E.n → w.cell? ⟨a.block, a.off + i.1 * E.n + j, none⟩ = p.2.2[j]?) ∧ (∀ j, j < E.n → w.frozen? ⟨a.block, a.off + i.1 * E.n + j, none⟩ = false) ∧ E.rd w p.2.2 p.1 p.2.1 := by
        intro ⟨i, hil⟩
        obtain ⟨cs', hc, htr⟩ := hi i (by omega)
        obtain ⟨_, hcl, hat⟩ := World.cells?_some hc
        have hsub : ∀ pl ∈ Pl i, pl ∈ x.2 := by
          intro pl hpl
          rw [hx]
          exact List.mem_append_right _ (List.mem_flatMap.2 ⟨i, by simp; omega, hpl⟩)
        obtain ⟨y, fp, hy⟩ := he htr (fun b off hmem => hfz b off (hsub _ hmem))
        refine ⟨⟨y, fp, cs'⟩, fun j hj => ?_, fun j hj => ?_, hy⟩
        · have := hat j hj
          rw [hspot, add_none] at this
          exact this
        · refine hfz _ _ ?_
          rw [hx]
          refine List.mem_append_left _ ?_
          unfold MemPlace.row
          refine List.mem_map.2 ⟨i * E.n + j, ?_, by rw [Nat.add_assoc]⟩
          rw [List.mem_range, hn]
          have : (i + 1) * E.n ≤ m * E.n := Nat.mul_le_mul_right _ (by omega)
          rw [Nat.succ_mul] at this
          omega
      obtain ⟨f, hf⟩ := Classical.axiomOfChoice hel
      have hblk : a.block < w.heap.size := by
        obtain ⟨h1, _, h3⟩ := hf ⟨0, h0⟩
        have h1 := h1 0 E.pos
        have h4 := E.len h3
        have hps := E.pos
        rw [List.getElem?_eq_getElem (by omega)] at h1
        exact block_lt_of_cell (a := ⟨a.block, _, none⟩) h1
      refine ⟨List.ofFn fun i => (f i).1, a.block :: (List.range len).flatMap fun i => if h : i < len then (f ⟨i, h⟩).2.1 else [], _, rfl, some a, m, by simp, by simpa using hl, hm,
        .inr ⟨a.block, a.off, _, by rw [← hspot], hblk, by rw [List.length_ofFn], fun i hil => ?_⟩⟩
      rw [List.length_ofFn] at hil
      obtain ⟨h1, h2, h3⟩ := hf ⟨i, hil⟩
      refine ⟨(f ⟨i, hil⟩).2.2, h1, h2, ?_⟩
      simpa [hil] using h3

/-- A struct of fields of one cell each. -/
theorem opens_fields {t : TypeId} {fs : Array Field} (ht : Tryz.prog.underlying t = some (.struct fs)) (hone : oneCellFields Tryz.prog fs = true) (hC : Tryz.prog.cellsOf t = fs.size)
    {H : Type} {enc : TypeId × Value → H} {w : World} {n : Nat} {cs : List Value} {x : DataW H × List MemPlace} (h : DataW.trod enc Tryz.prog w 0 (fun _ => true) true n t cs = some x) (hfz : w.noneFrozen x.2) :
    cs.length = fs.size ∧ ∀ (j : Nat) (f : Field), fs[j]? = some f → ∃ (v : Value) (m : Nat) (y : DataW H × List MemPlace), cs[j]? = some v ∧ DataW.trod enc Tryz.prog w 0 (fun _ => true) true m f.type [v] = some y ∧ w.noneFrozen y.2 := by
  obtain ⟨xs, n', rfl, hx, hl, hxl, hf⟩ := DataW.trod_struct ht h
  refine ⟨hl.trans hC, fun j f hj => ?_⟩
  have hjl : j < fs.size := (Array.getElem?_eq_some_iff.1 hj).1
  obtain ⟨ho, hk⟩ := hone_of hone j f hj
  have h1 := hf j f hj
  rw [ho, hk] at h1
  have hcl : j < cs.length := by rw [hl, hC]; exact hjl
  have e1 : (cs.drop j).take 1 = [cs[j]] := by
    rw [List.drop_eq_getElem_cons hcl]; rfl
  rw [e1, List.getElem?_eq_getElem (by omega)] at h1
  refine ⟨cs[j], n', xs[j], List.getElem?_eq_getElem hcl, h1, fun b off hm => hfz b off ?_⟩
  rw [hx]
  exact List.mem_flatMap.2 ⟨xs[j], List.getElem_mem _, hm⟩

/-- An argument that came in: its value reads. -/
theorem Opens.arg {α : Type} {t : TypeId} {E : Cod α} (ho : Opens t E) {H : Type} {enc : TypeId × Value → H} {w : World} {v : Value} {d : DataW H} {ps : List MemPlace}
    (h : DataW.Trod enc Tryz.prog w 0 (fun _ => true) true t v d ps) (hfz : w.noneFrozen ps) : ∃ y fp, E.rd w v.cells.toList y fp := by
  obtain ⟨n, hn⟩ := h
  exact ho hn hfz
theorem Opens.sl {α : Type} {t : TypeId} {E : Cod α} (ho : Opens t E.slice) {H : Type} {enc : TypeId × Value → H} {w : World} {v : Value} {d : DataW H} {ps : List MemPlace}
    (h : DataW.Trod enc Tryz.prog w 0 (fun _ => true) true t v d ps) (hfz : w.noneFrozen ps) {A : Option Addr} {len cap : Nat} (hv : v = .slice A len cap) : ∃ y fp, Sl E w v y fp := by
  obtain ⟨y, fp, u, hu, hs⟩ := ho.arg h hfz
  subst hv
  simp [Value.cells] at hu
  subst hu
  exact ⟨y, fp, hs⟩

end Go.Proofs.YtgnbhcgagdfaiaaGreatDoor

namespace Go.Proofs.YtgnbhcgagdfaiaaGreatDoor
open Go.RowKit Go.WideShapes Go.ChangeShapes Go.ChangeAt Go.Deep

set_option maxRecDepth 100000 in
set_option maxHeartbeats 400000 in
theorem opens_byte {t : TypeId} (ht : Tryz.prog.underlying t = some (.int .u8)) : Opens t fByte.cod := by
  intro H enc w n cs x h _
  obtain ⟨k, rfl, rfl, wk⟩ := DataW.trod_int ht h
  have hk : 0 ≤ k ∧ k ≤ 255 := by
    have h1 : IntKind.u8.min = 0 := by decide
    have h2 : IntKind.u8.max = 255 := by decide
    have := wk
    simp [Lit.wf, h1, h2] at this
    omega
  refine ⟨UInt8.ofNat k.toNat, [], ?_, trivial, rfl⟩
  show _ = [Value.int .u8 _]
  rw [UInt8.toNat_ofNat']
  congr 2
  omega
end Go.Proofs.YtgnbhcgagdfaiaaGreatDoor
