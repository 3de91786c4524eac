/- Parts of the proof: WPairs, Open, Ob. -/
import Derived.Test.YtjfaafoldllppaaG02
import Derived.Test.YtjfaafoldllppaaG03
import Derived.Test.YtjfaafoldllppaaG06
import Derived.Deep.CutRange
import Derived.Deep.Slices
import Derived.Deep.Fields
import Derived.OpenShut
namespace Go.Proofs.Ytjfaafoldllppaa
open Go.RowKit
set_option linter.unusedVariables false
set_option linter.unusedSimpArgs false

theorem groupB_okP {x : DGroup} (h : groupB x = true) : fGroup.ok x := by
  have hi := GrpIn.of h
  obtain ⟨h1, h2, h3, h4, h5, h6, h7⟩ := hi
  exact ⟨by show _ ≤ _; omega, by show _ ∧ _; omega, by show _ ∧ _; omega, by show _ ∧ _; omega, by show _ ∧ _; omega, by show _ ∧ _; omega, by show _ ∧ _; omega⟩
theorem inside_goes {xs : List DGroup} {lv : Int} (hv : groupsB xs = true) (hl : levelB lv = true) {k : Nat} (hk : k < xs.length) : memS xs[k].id (ggF xs lv) = goesB xs[k] lv := by
  unfold ggF memS
  rw [hv, hl]
  simp only [Bool.and_self, if_true]
  cases hg : goesB xs[k] lv
  · rw [List.any_eq_false]
    intro s hs
    obtain ⟨x, hx, rfl⟩ := List.mem_map.1 hs
    obtain ⟨hx1, hx2⟩ := List.mem_filter.1 hx
    obtain ⟨j, hj, rfl⟩ := List.getElem_of_mem hx1
    intro he
    have e := ids_ne hv hj hk (of_decide_eq_true he)
    subst e
    rw [hg] at hx2; cases hx2
  · rw [List.any_eq_true]
    exact ⟨xs[k].id, List.mem_map.2 ⟨xs[k], List.mem_filter.2 ⟨List.getElem_mem hk, hg⟩, rfl⟩, decide_eq_true rfl⟩
theorem ggC_ok {xs : List DGroup} {lv : Int} (h : ggC xs lv = 0) : groupsB xs = true ∧ levelB lv = true := by
  unfold ggC at h
  cases h1 : groupsB xs <;> cases h2 : levelB lv <;> simp [h1, h2] at h ⊢
theorem mayGo_more {x : DGroup} {lv : Int} (hx : groupB x = true) (hl : levelB lv = true) (h : goesB x lv = false) : mayGoB x (lv + 1) = false := by
  unfold mayGoB
  cases h2 : levelB (lv + 1)
  · simp
  · cases h3 : goesB x (lv + 1)
    · simp
    · exfalso
      have l1 := inB_true.1 hl
      have l2 := inB_true.1 h2
      have := goesB_less (groupB_people hx).1 l1.1 l2.2 h3
      rw [h] at this; cases this
theorem mayGo_same {x : DGroup} {lv : Int} (hx : groupB x = true) (hl : levelB lv = true) : mayGoB x lv = goesB x lv := by unfold mayGoB; rw [hx, hl]; rfl
set_option maxRecDepth 100000 in
set_option maxHeartbeats 1000000 in
theorem implNeededGuides_ok (p l : Int) (w : World) (hp : 1 ≤ p ∧ p ≤ 30) (hl : levelB l = true) :
    Calls Try.prog 19 #[.int .i64 p, .int .i64 l] w fun e w' => e = .returned (.tuple #[.int .i64 (guidesF p l), .int .i64 0]) ∧ w = w' := by
  have hw : inB p 1 30 = true := inB_true.2 hp
  go_enter Try.func19, Try.ntmps19
  go_wp2_with fail
  refine (withinB_any _ _ _ _).mono ?_
  rintro e w' ⟨rfl, rfl⟩
  rw [hw]
  go_wp2_with fail
  refine (levelOk_any _ _).mono ?_
  rintro e w' ⟨rfl, rfl⟩
  rw [hl]
  go_wp2_with fail
  refine (neededGuides_any p l _ ⟨hp.1, by omega⟩).mono ?_
  rintro e w' ⟨rfl, rfl⟩
  go_wp2
  go_ret2
  exact ⟨rfl, rfl⟩
theorem groupB_heads {x : DGroup} (h : groupB x = true) : 1 ≤ x.people ∧ x.people ≤ 30 := by
  unfold groupB at h
  simp only [Bool.and_eq_true] at h
  exact inB_true.1 h.1.1.1.1.1.2
theorem infoIntR : (Try.prog.info? 2).map (fun i => (i.zero, i.size, i.bytes)) = some (some (.int .i64 0), 1, 8) := by kernel_rfl
theorem mkI (n : Nat) (hn : n ≤ 1000) (W : World) : (Instr.makeSlice 50 (.int .i64 (n : Nat)) (.int .i64 (n : Nat))).run Try.prog W = .ok (.slice (some ⟨W.heap.size, 0, none⟩) n n) (W.alloc (.cells (madeCells #[Value.int .i64 0] n) 2)) := by
  obtain ⟨k0, hk0, hb0', hb1', hb2'⟩ := info_parts infoIntR
  have h := run_make_rowN (P := Try.prog) 50 2 k0 _ Try.underlying50 hk0 hb0' .i64 .i64 n n (Nat.le_refl _) (by rw [hb2']; omega) (by omega) W
  rw [hb1', Nat.mul_one] at h
  exact h
theorem madeI_list (n : Nat) : madeCells #[Value.int .i64 0] n = ((cntL n []).map (Value.int .i64)).toArray := by
  have e2 : (madeCells #[Value.int .i64 0] n).toList = List.replicate n (Value.int .i64 0) := by
    unfold madeCells
    rw [Array.toList_map, Array.toList_range]
    refine List.ext_getElem (by simp) (fun i h1 h2 => ?_)
    simp [Nat.mod_one]
  have e3 : cntL n [] = List.replicate n 0 := by
    refine List.ext_getElem (by simp [cntL]) (fun i h1 h2 => ?_)
    simp [cntL, cntP]
  rw [e3, List.map_replicate, ← e2]
theorem rowOf {w : World} {A : Option Addr} {n cap : Nat} {P : List (Nat × Nat)} {fp : List Nat} (h : Sl fInt.cod.slice w (.slice A n cap) (P.map prL) fp) {k : Nat} (hk : k < P.length) :
    ∃ b off b2 o2 c, A = some ⟨b, off, none⟩ ∧ w.cell? ⟨b, off + k, none⟩ = some (.slice (some ⟨b2, o2, none⟩) 2 c) ∧ w.cell? ⟨b2, o2, none⟩ = some (.int .i64 (P[k].1 : Int)) ∧ w.cell? ⟨b2, o2 + 1, none⟩ = some (.int .i64 (P[k].2 : Int)) ∧ 2 ≤ c := by
  obtain ⟨b, off, vk, fk, hA, hc, hs, _⟩ := h.elem (k := k) (by rw [List.length_map]; exact hk)
  have hs : Sl fInt.cod w vk (prL P[k]) fk := by rw [List.getElem_map] at hs; exact hs
  obtain ⟨A2, c, rfl, hle, _⟩ := hs.form
  have h0 := hs.cell1 rfl (k := 0) (show 0 < 2 by decide) rfl
  have h1 := hs.cell1 rfl (k := 1) (show 1 < 2 by decide) rfl
  obtain ⟨b0, o0, hA0, _, _, hc0, _⟩ := h0
  obtain ⟨b1, o1, hA1, _, _, hc1, _⟩ := h1
  subst hA0
  injection hA1 with hA1
  injection hA1 with e1 e2 _
  subst e1 e2
  exact ⟨b, off, b0, o0, c, hA, hc, by simpa [prL] using hc0, by simpa [prL] using hc1, hle⟩
theorem jn_zero {x z : DGroup} (hx : groupB x = true) (hz : groupB z = true) : jnC x z x.id = if groupB (sumG x z x.id) = true then 0 else 6 := by
  have hn : nameB x.id = true := by
    unfold groupB at hx
    simp only [Bool.and_eq_true] at hx
    exact hx.1.1.1.1.1.1
  unfold jnC
  rw [hx, hz, hn]
  cases groupB (sumG x z x.id) <;> rfl
theorem wTwo_at {gs : List DGroup} {lv : Int} {a b : Nat} (ha : a < gs.length) (hb : b < gs.length) : wTwo gs lv a b = morG (sumG gs[a] gs[b] gs[a].id) lv := by unfold wTwo morG; rw [getD_of_lt ha, getD_of_lt hb]
theorem wOne_at {gs : List DGroup} {lv : Int} {a : Nat} (ha : a < gs.length) : wOne gs lv a = if goesB gs[a] lv then gs[a].people else 0 := by unfold wOne; rw [getD_of_lt ha]
theorem cntBox {w : World} {g n : Nat} {Q : List (Nat × Nat)} (h : BoxL w g ((cntL n Q).map (Value.int .i64))) {a : Nat} (ha : a < n) : w.cell? ⟨g, a, none⟩ = some (.int .i64 (cntP Q a)) ∧ w.frozen? ⟨g, a, none⟩ = false :=
  ⟨h.cell a _ (by rw [List.getElem?_map, cntL_get ha]; rfl), h.frz a (by rw [List.length_map, cntL_len]; exact ha)⟩
set_option maxRecDepth 100000 in
set_option maxHeartbeats 16000000 in
theorem walkPairs (v0 : Value) (xs0 : List UInt8) (fp0 : List Nat) (v1 : Value) (xs1 : List UInt8) (fp1 : List Nat) (w : World) (hx0 : Sl fByte.cod w v0 xs0 fp0) (hx1 : Sl fByte.cod w v1 xs1 fp1) :
    Calls Try.prog 4 #[v0, v1] w fun e w' => YesR w e w' := by
  go_enter Try.func4, Try.ntmps4
  go_wp2_with fail
  refine (b10Long_any _ _ _ _ hx0).mono ?_
  rintro e w' ⟨rfl, rfl⟩
  cases hl0 : decide (1048576 < xs0.length)
  case true =>
    go_wp2
    go_ret
    exact ⟨rfl, Below.refl _ _⟩
  clear hl0
  go_wp2_with fail
  refine (b10Long_any _ _ _ _ hx1).mono ?_
  rintro e w' ⟨rfl, rfl⟩
  cases hl1 : decide (1048576 < xs1.length)
  case true =>
    go_wp2
    go_ret
    exact ⟨rfl, Below.refl _ _⟩
  clear hl1
  go_wp2_with fail
  refine (DrawGoingGroups_any _ _ _ _ hx0).mono ?_
  rintro e w1 ⟨y, ys, fq, lv, rfl, hsl, hyl, hlv6, hb1⟩
  replace hx1 := hx1.below' hb1
  clear hx0
  obtain ⟨A, cap, rfl, _, _⟩ := hsl.form
  go_wp2_with fail
  refine (implGoingGroups_any _ ys fq lv _ hsl).mono ?_
  rintro e w2 ⟨vn, rfl, ⟨⟨fn, hsn, _, _⟩, hbn⟩⟩
  replace hsl := hsl.below' hbn
  replace hx1 := hx1.below' hbn
  have hB2 := hb1.trans (hbn.mono hb1.size)
  clear hb1 hbn
  go_upto_if 48 with fail
  go_cut [4, 8, 9, 10, 11, 12, 13, 14] from 30 (fun _ _ _ _ _ _ _ _ wx => Below w2.heap.size w2 wx)
  case first => as_aux_lemma =>
    by_cases hone : ggC ys lv = 0
    rotate_left
    · have e1 : (ggC ys lv == 0) = false := beq_eq_false_iff_ne.2 hone
      go_wp2_with fail
      go_meet
      case rel => exact Below.refl _ _
    obtain ⟨hv, hlv⟩ := ggC_ok hone
    rw [hone]
    have HV := Lib.hid hv
    have HLV := Lib.hid hlv
    have hn8 := groupsB_len hv
    have hin := fun {k : Nat} (hk : k < ys.length) => inside_goes hv hlv hk
    have hlb := inB_true.1 hlv
    clear hone hv hlv
    go_wp2
    go_loopw [9] (fun i wr => ∃ k : Nat, k ≤ ys.length ∧ i = .int .i64 k ∧ Below w2.heap.size w2 wr) (fun i _ => ys.length - (intOf i).toNat)
    case atStart => exact ⟨0, Nat.zero_le _, rfl, Below.refl _ _⟩
    case round => as_aux_lemma =>
      obtain ⟨k, hk, rfl, hbr⟩ := hrel
      have hsr := hsl.below' hbr
      have hnr := hsn.below' hbr
      by_cases hlt : k < ys.length
      rotate_left
      · obtain rfl : k = ys.length := by omega
        go_wp2_with fail
        go_meet
        case rel => exact hbr
      have hlt9 : (k : Int) < (ys.length : Int) := by omega
      have hk8 : k ≤ 8 := by omega
      obtain ⟨b, off, rfl, _, hok, hp⟩ := PGroup.elem hsr hlt
      have hvx := groupsB_one HV.out hlt
      have hid := hin hlt
      have hsame := mayGo_same hvx HLV.out
      have hmore := fun h => mayGo_more hvx HLV.out h
      have hpe := groupB_heads hvx
      have hgc : gpC ys[k] = 0 := by unfold gpC; rw [hvx]; rfl
      have hgf : gpF ys[k] = lacksF ys[k] := by unfold gpF; rw [hvx]; rfl
      clear hin hvx
      generalize ys[k] = x at *
      have hplt := hp.lt
      obtain ⟨c0, c1, c2, c3, c4, c5, c6⟩ := id hp
      have hdef : goesB x lv = (decide ((lacksF x).length = 0) && decide (guidesF x.people lv ≤ x.guides) && decide (lv ≤ x.skill)) := rfl
      have HD := Lib.hid hdef
      clear hdef
      go_wp2_with fail
      refine (implMayGo_any x lv _ hok).mono ?_
      rintro e w3 ⟨rfl, hb3⟩
      rw [hsame]
      have hp3 := hp.below hb3 hplt
      have hn3 := hnr.below' hb3
      have hbr3 := hbr.trans (hb3.mono hbr.size)
      clear c0 c1 c2 c3 c4 c5 c6 hp hnr hsr hbr hb3
      obtain ⟨c0, c1, c2, c3, c4, c5, c6⟩ := id hp3
      cases hg : goesB x lv
      · go_wp2_with fail
        refine (b10Inside_any _ _ _ _ _ hn3).mono ?_
        rintro e w' ⟨rfl, rfl⟩
        rw [hid, hg]
        go_wp2_with fail
        refine (implMayGo_any x (lv + 1) _ hok).mono ?_
        rintro e w4 ⟨rfl, hb4⟩
        rw [hmore hg]
        have hp4 := hp3.below hb4 hp3.lt
        have hbr4 := hbr3.trans (hb4.mono hbr3.size)
        clear c0 c1 c2 c3 c4 c5 c6 hp3 hn3 hbr3 hb4 hid hsame hmore
        obtain ⟨c0, c1, c2, c3, c4, c5, c6⟩ := id hp4
        have hplt5 := hp4.lt
        go_wp2_with fail
        refine (implNeededGuides_ok x.people lv _ hpe HLV.out).mono ?_
        rintro e w' ⟨rfl, rfl⟩
        go_wp2_with fail
        refine (implGroupProblems_any x _ hok).mono ?_
        rintro e w5 ⟨vg, rfl, ⟨⟨fg, hsg, _, _⟩, hb5⟩⟩
        rw [hgc]
        rw [hgf] at hsg
        obtain ⟨Ag, cg, rfl, _, _⟩ := hsg.form
        have hp5 := hp4.below hb5 hplt5
        have hbr5 := hbr4.trans (hb5.mono hbr4.size)
        clear c0 c1 c2 c3 c4 c5 c6 hp4 hbr4 hb5 hgc hgf hsg hok hpe
        obtain ⟨c0, c1, c2, c3, c4, c5, c6⟩ := id hp5
        have HD2 := HD.out
        rw [hg] at HD2
        by_cases h1 : (lacksF x).length = 0
        · by_cases h2 : guidesF x.people lv ≤ x.guides
          · have h3 : x.skill < lv := by
              rcases Int.lt_or_le x.skill lv with h | h
              · exact h
              · rw [decide_eq_true h1, decide_eq_true h2, decide_eq_true h] at HD2; cases HD2
            have h1' : (((lacksF x).length : Int) == 0) = true := by rw [beq_iff_eq]; omega
            clear h1 HD hg HD2
            go_wp2
            go_roundw
            case rel => first | exact ⟨k + 1, by omega, by go_num, hbr5⟩ | ((repeat apply Exists.intro); refine ⟨?_, rfl⟩; exact ⟨k + 1, by omega, by go_num, hbr5⟩)
            case measure => simp [intOf]; omega
          · have h2' : x.guides < guidesF x.people lv := by omega
            have h1' : (((lacksF x).length : Int) == 0) = true := by rw [beq_iff_eq]; omega
            clear h1 h2 HD hg HD2
            go_wp2
            go_roundw
            case rel => first | exact ⟨k + 1, by omega, by go_num, hbr5⟩ | ((repeat apply Exists.intro); refine ⟨?_, rfl⟩; exact ⟨k + 1, by omega, by go_num, hbr5⟩)
            case measure => simp [intOf]; omega
        · have h1' : (((lacksF x).length : Int) == 0) = false := by rw [beq_eq_false_iff_ne]; omega
          clear h1 HD hg HD2
          go_wp2
          go_roundw
          case rel => first | exact ⟨k + 1, by omega, by go_num, hbr5⟩ | ((repeat apply Exists.intro); refine ⟨?_, rfl⟩; exact ⟨k + 1, by omega, by go_num, hbr5⟩)
          case measure => simp [intOf]; omega
      · go_wp2_with fail
        refine (b10Inside_any _ _ _ _ _ hn3).mono ?_
        rintro e w' ⟨rfl, rfl⟩
        rw [hid, hg]
        have hp4 := hp3
        have hbr4 := hbr3
        clear c0 c1 c2 c3 c4 c5 c6 hp3 hn3 hbr3 hid hsame hmore
        obtain ⟨c0, c1, c2, c3, c4, c5, c6⟩ := id hp4
        have hplt5 := hp4.lt
        go_wp2_with fail
        refine (implNeededGuides_ok x.people lv _ hpe HLV.out).mono ?_
        rintro e w' ⟨rfl, rfl⟩
        go_wp2_with fail
        refine (implGroupProblems_any x _ hok).mono ?_
        rintro e w5 ⟨vg, rfl, ⟨⟨fg, hsg, _, _⟩, hb5⟩⟩
        rw [hgc]
        rw [hgf] at hsg
        obtain ⟨Ag, cg, rfl, _, _⟩ := hsg.form
        have hp5 := hp4.below hb5 hplt5
        have hbr5 := hbr4.trans (hb5.mono hbr4.size)
        clear c0 c1 c2 c3 c4 c5 c6 hp4 hbr4 hb5 hgc hgf hsg hok hpe
        obtain ⟨c0, c1, c2, c3, c4, c5, c6⟩ := id hp5
        have HD2 := HD.out
        rw [hg] at HD2
        simp only [Bool.and_eq_true, decide_eq_true_eq, eq_comm (a := true)] at HD2
        obtain ⟨⟨h1, h2⟩, h3⟩ := HD2
        have h1' : (((lacksF x).length : Int) == 0) = true := by rw [beq_iff_eq]; omega
        clear h1 HD hg
        go_wp2
        go_roundw
        case rel => first | exact ⟨k + 1, by omega, by go_num, hbr5⟩ | ((repeat apply Exists.intro); refine ⟨?_, rfl⟩; exact ⟨k + 1, by omega, by go_num, hbr5⟩)
        case measure => simp [intOf]; omega
  case rest => as_aux_lemma =>
    rename World => w3
    have hB3 := hB2.trans (hcut.mono hB2.size)
    replace hx1 := hx1.below' hcut
    clear hsl hsn hcut hB2
    go_wp2_with fail
    refine (DrawBestPairs_any _ _ _ _ hx1).mono ?_
    rintro e w4 ⟨y2, gs, fg, lv2, bu, rfl, hsg, hgl, hlv2, hbu, hb4⟩
    have hB4 := hB3.trans (hb4.mono hB3.size)
    obtain ⟨Ag, capg, rfl, _, _⟩ := hsg.form
    clear hx1 hB3 hb4
    go_wp2_with fail
    refine (implBestPairs_any _ gs fg lv2 bu _ hsg).mono ?_
    rintro e w5 ⟨vp, rfl, ⟨⟨fpp, hsp, _, _⟩, hb5⟩⟩
    have hB5 := hB4.trans (hb5.mono hB4.size)
    replace hsg := hsg.below' hb5
    clear hB4 hb5
    obtain ⟨Ap, capp, rfl, _, _⟩ := hsp.form
    by_cases hc : bpC gs lv2 bu = 0
    rotate_left
    · obtain ⟨hF, hM⟩ := bp_bad hc
      have e1 : (bpC gs lv2 bu != 0) = true := by rw [bne_iff_ne]; exact hc
      rw [hF, hM]
      have hfl : ((([] : List (List Int)).length : Nat) : Int) = 0 := rfl
      generalize bpC gs lv2 bu = cc at *
      clear hc hF hM hsp
      go_wp2
      go_ret
      exact ⟨rfl, hB5⟩
    obtain ⟨hv, hlv, _, _, hr⟩ := bp_code hc
    obtain ⟨hpo, hms, hal⟩ := bp_good hc
    have hF : bpF gs lv2 bu = (bpT gs lv2 bu).best.map prL := by unfold bpF; rw [hr]
    have hM : bpM gs lv2 bu = (bpT gs lv2 bu).most := by unfold bpM; rw [hr]
    rw [hM, hc]
    rw [hF] at hsp ⊢
    generalize (bpT gs lv2 bu).most = mst at *
    generalize (bpT gs lv2 bu).best = P at *
    have hn8 := groupsB_len hv
    have HV := Lib.hid hv
    have HLV := Lib.hid hlv
    have HPO := Lib.hid hpo
    have hP8 : P.length ≤ 8 := by have := asc_len _ 0 hpo.asc (fun q hq => ⟨Nat.zero_le _, (hpo.rng q hq).2.2⟩); omega
    have HMS := Lib.hid hms
    have HAL := Lib.hid hal
    have hmk := mkI gs.length (by omega)
    have hlm : (P.map prL).length = P.length := List.length_map _
    rw [hlm] at hsp ⊢
    clear hc hr hF hM hv hlv hpo hms hal hlm
    have hBx := BoxL.new w5 ((cntL gs.length []).map (Value.int .i64)) 2 (madeCells #[Value.int .i64 0] gs.length) (madeI_list _)
    have hA6 : Below w5.heap.size w5 (w5.alloc (.cells (madeCells #[Value.int .i64 0] gs.length) 2)) := (Below.refl _ _).alloc (Nat.le_refl _) _
    go_upto_region 22 with fail
    refine at_world (fun W => BoxL W w5.heap.size ((cntL gs.length []).map (Value.int .i64)) ∧ Below w5.heap.size w5 W) ⟨hBx, hA6⟩ ?_
    rintro w6 ⟨hBx, hA6⟩
    generalize hgg : w5.heap.size = g at *
    have hG := Lib.hid hgg
    clear hmk hgg
    go_wp2
    go_loopw [22, 23] (fun s i wr => ∃ k : Nat, k ≤ P.length ∧ s = .int .i64 (sum2 (wTwo gs lv2) (P.take k)) ∧ i = .int .i64 k ∧ BoxL wr g ((cntL gs.length (P.take k)).map (Value.int .i64)) ∧ Below g w5 wr) (fun _ i _ => P.length - (intOf i).toNat)
    case atStart => exact ⟨0, Nat.zero_le _, rfl, rfl, hBx, hA6⟩
    case round => as_aux_lemma =>
      obtain ⟨k, hk, rfl, rfl, hbx, hbr⟩ := hrel
      have hgr : g ≤ w5.heap.size := by have := hG.out; omega
      have hsgr := hsg.below (B := g) hbr (fun b hb => by have := hsg.lt b hb; have := hG.out; omega)
      have hspr := hsp.below (B := g) hbr (fun b hb => by have := hsp.lt b hb; have := hG.out; omega)
      by_cases hlt : k < P.length
      · have hab := (HPO.out).rng P[k] (List.getElem_mem hlt)
        have hq1 : P[k].1 < P[k].2 := hab.1
        have hq2 : P[k].2 < gs.length := hab.2.1
        have hs2 := sum2_take (w2 := wTwo gs lv2) hlt
        have htk : P.take (k + 1) = P.take k ++ [(P[k].1, P[k].2)] := List.take_succ_eq_append_getElem hlt
        have hk9 : k ≤ 8 := by omega
        go_upto_region 25 with fail
        go_cut [224] from 158 to 283 (fun s wx => s = .bool false ∧ Below wr.heap.size wr wx)
        case first => as_aux_lemma =>
          rcases Nat.eq_zero_or_pos k with h0 | h0
          · subst h0
            obtain ⟨b, off, b2, o2, c, rfl, r0, r1, r2, rc⟩ := rowOf hspr hlt
            rw [Nat.add_zero] at r0
            clear hs2 htk hab
            generalize P[0].1 = pa at *
            generalize P[0].2 = pb at *
            have q5 : ((2 : Int) != 2) = false := rfl
            have q13 : decide ((pa : Int) < 0) = false := decide_eq_false (by omega)
            have q28 : decide (pb ≤ pa) = false := decide_eq_false (by omega)
            have q39 : decide (gs.length ≤ pb) = false := decide_eq_false (by omega)
            go_quiet (fail)
            go_wp2
            go_meet
            case rel => exact ⟨rfl, (by repeat (first | exact Below.refl _ _ | assumption | refine Below.alloc ?_ (by first | omega | (simp <;> omega)) _ | refine Below.setCell ?_ (by first | (show _ ≤ _; omega) | (simp <;> omega)) _ | refine Below.drew ?_ | refine below_drewN ?_ _))⟩
          · obtain ⟨m, rfl⟩ : ∃ m, k = m + 1 := ⟨k - 1, by omega⟩
            obtain ⟨b, off, b2, o2, c, rfl, r0, r1, r2, rc⟩ := rowOf hspr hlt
            obtain ⟨b', off', b3, o3, c3, hb', s0, s1, s2, sc⟩ := rowOf hspr (show m < P.length by omega)
            injection hb' with hb'
            injection hb' with e1 e2 _
            subst e1 e2
            have hasc : P[m].1 < P[m + 1].1 := (List.pairwise_iff_getElem.1 HPO.out.asc) m (m + 1) (by omega) hlt (by omega)
            clear hs2 htk hab s2
            generalize P[m].1 = pc at *
            generalize P[m + 1].1 = pa at *
            generalize P[m + 1].2 = pb at *
            have q5 : ((2 : Int) != 2) = false := rfl
            have q13 : decide ((pa : Int) < 0) = false := decide_eq_false (by omega)
            have q28 : decide (pb ≤ pa) = false := decide_eq_false (by omega)
            have q39 : decide (gs.length ≤ pb) = false := decide_eq_false (by omega)
            have q58 : decide (pa ≤ pc) = false := decide_eq_false (by omega)
            go_quiet (fail)
            go_wp2
            go_meet
            case rel => exact ⟨rfl, (by repeat (first | exact Below.refl _ _ | assumption | refine Below.alloc ?_ (by first | omega | (simp <;> omega)) _ | refine Below.setCell ?_ (by first | (show _ ≤ _; omega) | (simp <;> omega)) _ | refine Below.drew ?_ | refine below_drewN ?_ _))⟩
        case rest => as_aux_lemma =>
          obtain ⟨rfl, hbc⟩ := hcut
          rename World => wc
          have hbx2 := hbx.below hbc
          have hbr2 := hbr.trans (hbc.mono (Nat.le_trans hgr hbr.size))
          have hspc := hspr.below' hbc
          have hsgc := hsgr.below' hbc
          clear hbx hbr hspr hsgr hbc
          obtain ⟨b, off, b2, o2, c, rfl, p0, p1, p2, rc⟩ := rowOf hsp hlt
          have hgE := hG.out
          have hbg1 : b < g := by have h : b < w5.heap.size := block_lt_of_cell p0; omega
          have hbg2 : b2 < g := by have h : b2 < w5.heap.size := block_lt_of_cell p1; omega
          have r0 := (hbr2.cell (p := ⟨b, _, none⟩) hbg1).trans p0
          have r1 := (hbr2.cell (p := ⟨b2, _, none⟩) hbg2).trans p1
          have r2 := (hbr2.cell (p := ⟨b2, _, none⟩) hbg2).trans p2
          have hbn1 : b ≠ g := by omega
          have hbn2 : b2 ≠ g := by omega
          clear p0 p1 p2
          have hlg := hq2
          have hla : P[k].1 < gs.length := by omega
          obtain ⟨bg, og, rfl, _, hokx, hpx5⟩ := PGroup.elem hsg hla
          have hgg1 : bg < g := by have := hpx5.lt; omega
          have hpx := hpx5.below hbr2 hgg1
          have hgn : bg ≠ g := by omega
          obtain ⟨bg2, og2, hbb, _, hokz, hpz⟩ := PGroup.elem hsgc hlg
          obtain ⟨rfl, rfl⟩ : bg = bg2 ∧ og = og2 := by cases hbb; exact ⟨rfl, rfl⟩
          have hvx := groupsB_one HV.out hla
          have hvz := groupsB_one HV.out hlg
          have hwt := wTwo_at (lv := lv2) hla hlg
          have hcl := cntL_push (P := P.take k) hla hlg (by omega)
          have hcb1 := cntP_bounds (P.take k) P[k].1
          have hcb2 := cntP_bounds (P.take k) P[k].2
          have htl : (P.take k).length ≤ 8 := by rw [List.length_take]; omega
          obtain ⟨ca, za⟩ := cntBox hbx2 hla
          have hne : P[k].1 ≠ P[k].2 := by omega
          obtain ⟨cb, zb⟩ := cntBox hbx2 hlg
          have hbx3 := (hbx2.set P[k].1 (.int .i64 (cntP (P.take k) P[k].1 + 1))).set P[k].2 (.int .i64 (cntP (P.take k) P[k].2 + 1))
          have em : (((cntL gs.length (P.take k)).map (Value.int .i64)).set P[k].1 (.int .i64 (cntP (P.take k) P[k].1 + 1))).set P[k].2 (.int .i64 (cntP (P.take k) P[k].2 + 1)) = (cntL gs.length (P.take (k + 1))).map (Value.int .i64) := by
            rw [htk, ← hcl, List.map_set, List.map_set]
          rw [em] at hbx3
          have hS2 := hs2
          rw [hwt] at hS2
          have hsb := sum2_bounds (xs := gs) (lvl := lv2) (P.take k)
          clear em hcl htk hwt hs2 hab hspc hsgc hbb hgE hpx5
          generalize hga : gs[P[k].1] = x at *
          generalize hgz : gs[P[k].2] = z at *
          generalize P[k].1 = pa at *
          generalize P[k].2 = pb at *
          generalize hc1 : cntP (P.take k) pa = n1 at *
          generalize hc2 : cntP (P.take k) pb = n2 at *
          generalize sum2 (wTwo gs lv2) (P.take k) = sm at *
          clear hga hgz hc1 hc2
          have hbr3 := (hbr2.setCell (p := ⟨g, pa, none⟩) (Nat.le_refl g) (.int .i64 (n1 + 1))).setCell (p := ⟨g, pb, none⟩) (Nat.le_refl g) (.int .i64 (n2 + 1))
          have hn1 : n1 ≤ 8 := by omega
          have hn2 : n2 ≤ 8 := by omega
          have hgw := hbx2.lt
          have hplx := hpx.lt
          have hplb : b < wc.heap.size := block_lt_of_cell r0
          have hplb2 : b2 < wc.heap.size := block_lt_of_cell r1
          obtain ⟨x0, x1, x2, x3, x4, x5, x6⟩ := id hpx
          obtain ⟨z0, z1, z2, z3, z4, z5, z6⟩ := id hpz
          go_upto_region 31 with fail
          have hVs : ((wc.setCell ⟨g, pa, none⟩ (.int .i64 (n1 + 1))).setCell ⟨g, pb, none⟩ (.int .i64 (n2 + 1))).heap.size = wc.heap.size := by rw [World.size_setCell, World.size_setCell]
          have hA9 : Below ((wc.setCell ⟨g, pa, none⟩ (.int .i64 (n1 + 1))).setCell ⟨g, pb, none⟩ (.int .i64 (n2 + 1))).heap.size ((wc.setCell ⟨g, pa, none⟩ (.int .i64 (n1 + 1))).setCell ⟨g, pb, none⟩ (.int .i64 (n2 + 1))) ((((wc.setCell ⟨g, pa, none⟩ (.int .i64 (n1 + 1))).setCell ⟨g, pb, none⟩ (.int .i64 (n2 + 1))).alloc (.cells #[.string x.id, .int .i64 x.people, .int .i64 x.guides, .int .i64 x.beacons, .int .i64 x.shovels, .int .i64 x.probes, .int .i64 x.skill] 43)).alloc (.cells #[.string z.id, .int .i64 z.people, .int .i64 z.guides, .int .i64 z.beacons, .int .i64 z.shovels, .int .i64 z.probes, .int .i64 z.skill] 43)) := ((Below.refl _ _).alloc (Nat.le_refl _) _).alloc (by simp) _
          have hbx9 := hbx3.below hA9
          have hbr9 := hbr3.trans (hA9.mono (by rw [hVs]; exact Nat.le_of_lt hgw))
          have hpx9 : PGroup ((((wc.setCell ⟨g, pa, none⟩ (.int .i64 (n1 + 1))).setCell ⟨g, pb, none⟩ (.int .i64 (n2 + 1))).alloc (.cells #[.string x.id, .int .i64 x.people, .int .i64 x.guides, .int .i64 x.beacons, .int .i64 x.shovels, .int .i64 x.probes, .int .i64 x.skill] 43)).alloc (.cells #[.string z.id, .int .i64 z.people, .int .i64 z.guides, .int .i64 z.beacons, .int .i64 z.shovels, .int .i64 z.probes, .int .i64 z.skill] 43)) wc.heap.size 0 x := by
            have h := (PGroup.box ((wc.setCell ⟨g, pa, none⟩ (.int .i64 (n1 + 1))).setCell ⟨g, pb, none⟩ (.int .i64 (n2 + 1))) x 43).below ((Below.refl (((wc.setCell ⟨g, pa, none⟩ (.int .i64 (n1 + 1))).setCell ⟨g, pb, none⟩ (.int .i64 (n2 + 1))).heap.size + 1) _).alloc (by simp) (.cells #[.string z.id, .int .i64 z.people, .int .i64 z.guides, .int .i64 z.beacons, .int .i64 z.shovels, .int .i64 z.probes, .int .i64 z.skill] 43)) (Nat.lt_succ_self _)
            rw [hVs] at h; exact h
          have hpz9 : PGroup ((((wc.setCell ⟨g, pa, none⟩ (.int .i64 (n1 + 1))).setCell ⟨g, pb, none⟩ (.int .i64 (n2 + 1))).alloc (.cells #[.string x.id, .int .i64 x.people, .int .i64 x.guides, .int .i64 x.beacons, .int .i64 x.shovels, .int .i64 x.probes, .int .i64 x.skill] 43)).alloc (.cells #[.string z.id, .int .i64 z.people, .int .i64 z.guides, .int .i64 z.beacons, .int .i64 z.shovels, .int .i64 z.probes, .int .i64 z.skill] 43)) (wc.heap.size + 1) 0 z := by
            have h := PGroup.box (((wc.setCell ⟨g, pa, none⟩ (.int .i64 (n1 + 1))).setCell ⟨g, pb, none⟩ (.int .i64 (n2 + 1))).alloc (.cells #[.string x.id, .int .i64 x.people, .int .i64 x.guides, .int .i64 x.beacons, .int .i64 x.shovels, .int .i64 x.probes, .int .i64 x.skill] 43)) z 43
            rw [World.size_alloc, hVs] at h; exact h
          refine at_world (fun W => BoxL W g ((cntL gs.length (P.take (k + 1))).map (Value.int .i64)) ∧ Below g w5 W ∧ PGroup W wc.heap.size 0 x ∧ PGroup W (wc.heap.size + 1) 0 z) ⟨hbx9, hbr9, hpx9, hpz9⟩ ?_
          clear hbx9 hbr9 hpx9 hpz9 hA9 hVs hbx3 hbr3 hbx2 hbr2 ca za cb zb r0 r1 r2 x0 x1 x2 x3 x4 x5 x6 z0 z1 z2 z3 z4 z5 z6 hpx hpz hplx hplb hplb2 hgw
          rintro W9 ⟨hbx9, hbr9, hpx9, hpz9⟩
          generalize wc.heap.size = bx at *
          clear wc
          have hg9 : g ≤ W9.heap.size := Nat.le_of_lt hbx9.lt
          have hidx : x.id.size ≤ 1000 := (GrpIn.of hvx).id
          have hj0 := jn_zero hvx hvz
          have HS2 := Lib.hid hS2
          have hsr := sumG_ok (GrpIn.of hvx) (GrpIn.of hvz) hidx
          obtain ⟨x0, x1, x2, x3, x4, x5, x6⟩ := id hpx9
          obtain ⟨z0, z1, z2, z3, z4, z5, z6⟩ := id hpz9
          clear hS2
          go_wp2_with fail
          refine (specJoinGroups_any x z x.id _ hokx hokz hidx).mono ?_
          rintro e w10 ⟨rfl, hb10⟩
          have hbx10 := hbx9.below hb10
          have hbr10 := hbr9.trans (hb10.mono hg9)
          have hg10 : g ≤ w10.heap.size := Nat.le_of_lt hbx10.lt
          clear x0 x1 x2 x3 x4 x5 x6 z0 z1 z2 z3 z4 z5 z6 hpx9 hpz9 hbx9 hbr9 hb10 hg9
          by_cases hj : jnC x z x.id = 0
          rotate_left
          · have hgb : groupB (sumG x z x.id) = false := by
              cases h : groupB (sumG x z x.id)
              · rfl
              · rw [h] at hj0; exact absurd hj0 hj
            have HS3 := Lib.hid (show sum2 (wTwo gs lv2) (P.take (k + 1)) = sm by
              rw [HS2.out]; unfold morG; rw [hgb]; simp)
            have e1 : (jnC x z x.id == 0) = false := beq_eq_false_iff_ne.2 hj
            unfold agGroup
            generalize jnF x z x.id = yy at *
            generalize jnC x z x.id = cc at *
            have hAl : Below w10.heap.size w10 (w10.alloc (.cells #[.string yy.id, .int .i64 yy.people, .int .i64 yy.guides, .int .i64 yy.beacons, .int .i64 yy.shovels, .int .i64 yy.probes, .int .i64 yy.skill] 43)) := (Below.refl _ _).alloc (Nat.le_refl _) _
            have hbxA := hbx10.below hAl
            have hbrA := hbr10.trans (hAl.mono hg10)
            clear hj hj0 hgb HS2 hbx10 hbr10 hAl
            go_wp2
            go_roundw
            case rel => exact ⟨k + 1, by omega, by rw [HS3.out], by go_num, hbxA, hbrA⟩
            case measure => simp [intOf]; omega
          · have hgb : groupB (sumG x z x.id) = true := by
              cases h : groupB (sumG x z x.id)
              · rw [h, hj] at hj0; exact absurd hj0 (by decide)
              · rfl
            have hF : jnF x z x.id = sumG x z x.id := by unfold jnF; rw [if_pos hj]
            rw [hF, hj]
            unfold agGroup
            have hsame := mayGo_same hgb HLV.out
            have hpe := groupB_people hgb
            clear hj hj0 hF
            have HS4 := Lib.hid (show sum2 (wTwo gs lv2) (P.take (k + 1)) = sm + (if goesB (sumG x z x.id) lv2 then (sumG x z x.id).people else 0) by
              rw [HS2.out]; unfold morG; rw [hgb, Bool.true_and])
            clear HS2 hgb
            generalize sumG x z x.id = yy at *
            have hAl : Below w10.heap.size w10 (w10.alloc (.cells #[.string yy.id, .int .i64 yy.people, .int .i64 yy.guides, .int .i64 yy.beacons, .int .i64 yy.shovels, .int .i64 yy.probes, .int .i64 yy.skill] 43)) := (Below.refl _ _).alloc (Nat.le_refl _) _
            have hbxA := hbx10.below hAl
            have hbrA := hbr10.trans (hAl.mono hg10)
            have hpy := PGroup.box w10 yy 43
            have hgA : g ≤ (w10.alloc (.cells #[.string yy.id, .int .i64 yy.people, .int .i64 yy.guides, .int .i64 yy.beacons, .int .i64 yy.shovels, .int .i64 yy.probes, .int .i64 yy.skill] 43)).heap.size := Nat.le_of_lt hbxA.lt
            have hlA := hpy.lt
            clear hbx10 hbr10 hAl
            go_wp2_with fail
            refine (specMayGo_any yy lv2 _ hsr).mono ?_
            rintro e w11 ⟨rfl, hb11⟩
            rw [hsame]
            have hbxB := hbxA.below hb11
            have hbrB := hbrA.trans (hb11.mono hgA)
            have hpy1 := hpy.below hb11 hlA
            clear hbxA hbrA hb11 hpy hgA hlA hsame
            generalize w10.heap.size = by1 at *
            cases hgo : goesB yy lv2
            · have HS5 := Lib.hid (HS4.out.trans (show _ = sm by rw [hgo]; exact Int.add_zero _))
              clear HS4 hgo hpy1
              go_wp2
              go_roundw
              case rel => exact ⟨k + 1, by omega, by rw [HS5.out], by go_num, hbxB, hbrB⟩
              case measure => simp [intOf]; omega
            · have HS5 := Lib.hid (HS4.out.trans (show _ = sm + yy.people by rw [hgo]; exact rfl))
              have y1 : w11.cell? ⟨by1, 1, none⟩ = some (.int .i64 yy.people) := hpy1.c1
              have hsb1 := hsb.1
              have hsb2 : sm ≤ 8000 := by omega
              clear HS4 hgo hpy1 hsb
              go_wp2
              go_roundw
              case rel => exact ⟨k + 1, by omega, by rw [HS5.out], by go_num, hbxB, hbrB⟩
              case measure => simp [intOf]; omega
      · obtain rfl : k = P.length := by omega
        rw [List.take_length] at hbx ⊢
        rename World => wo
        have HMS2 := Lib.hid (show mst = sum2 (wTwo gs lv2) P + rest1 (wOne gs lv2) P gs.length from HMS.out)
        have hsb := sum2_bounds (xs := gs) (lvl := lv2) P
        have hrb := fun u : Nat => sumOne_bounds (lvl := lv2) HV.out ((List.range u).filter fun j => !inP P j)
        have hab := fun u : Nat => sumOne_bounds (lvl := lv2) HV.out (List.range u)
        have hrl := fun u : Nat => List.length_filter_le (fun j => !inP P j) (List.range u)
        have hcone := fun j : Nat => cntP_one HPO.out j
        have hcpos := fun j : Nat => (cntP_bounds P j).1
        have hinz := fun j : Nat => (cntP_zero (P := P) (j := j))
        generalize sum2 (wTwo gs lv2) P = sm at *
        have hsm : 0 ≤ sm ∧ sm ≤ 8000 := by omega
        clear hsgr hspr hlt HMS hsb
        go_wp2
        go_loopw [22, 28, 29] (fun s a i wr => ∃ k : Nat, k ≤ gs.length ∧ s = .int .i64 (sm + rest1 (wOne gs lv2) P k) ∧ a = .int .i64 ((List.range k).map (wOne gs lv2)).sum ∧ i = .int .i64 k ∧ BoxL wr g ((cntL gs.length P).map (Value.int .i64)) ∧ Below g w5 wr) (fun _ _ i _ => gs.length - (intOf i).toNat)
        case atStart => exact ⟨0, Nat.zero_le _, congrArg (Value.int .i64) (Int.add_zero sm).symm, rfl, rfl, hbx, hbr⟩
        case round => as_aux_lemma =>
          obtain ⟨k, hk, rfl, rfl, rfl, hbx2, hbr2⟩ := hrel
          clear hbx hbr
          have hr1 := hrb k
          have ha1 := hab k
          have hl1 := hrl k
          rw [List.length_range] at hl1 ha1
          have HR : Hid ((((List.range k).filter fun j => !inP P j).map (wOne gs lv2)).sum = rest1 (wOne gs lv2) P k) := Lib.hid rfl
          rw [HR.out] at hr1
          have hr9 : 0 ≤ rest1 (wOne gs lv2) P k ∧ rest1 (wOne gs lv2) P k ≤ 8000 := by omega
          have ha9 : 0 ≤ ((List.range k).map (wOne gs lv2)).sum ∧ ((List.range k).map (wOne gs lv2)).sum ≤ 8000 := by omega
          clear hr1 ha1 hl1
          by_cases hlt : k < gs.length
          · obtain ⟨bg, og, rfl, _, hok, hp5⟩ := PGroup.elem hsg hlt
            have hbg1 : bg < g := by have := hp5.lt; have := hG.out; omega
            have hp := hp5.below hbr2 hbg1
            have hvx := groupsB_one HV.out hlt
            have hw1 := wOne_at (lv := lv2) hlt
            have hsame := mayGo_same hvx HLV.out
            have hpe := groupB_people hvx
            obtain ⟨ca, _⟩ := cntBox hbx2 hlt
            have hc1 := hcone k
            have hc0 := hcpos k
            have hiz := hinz k
            have hlt9 : (k : Int) < (gs.length : Int) := by omega
            have hr_in := rest1_in (w1 := wOne gs lv2) (P := P) (i := k)
            have hr_out := rest1_out (w1 := wOne gs lv2) (P := P) (i := k)
            have hup := sumUp (wOne gs lv2) k
            rw [hw1] at hup hr_out
            generalize hr1e : rest1 (wOne gs lv2) P (k + 1) = r1 at *
            generalize rest1 (wOne gs lv2) P k = r0 at *
            generalize ha1e : ((List.range (k + 1)).map (wOne gs lv2)).sum = a1 at *
            have HR1 := Lib.hid hr1e
            have HA1 := Lib.hid ha1e
            clear hr1e ha1e
            generalize ((List.range k).map (wOne gs lv2)).sum = a0 at *
            generalize gs[k] = x at *
            generalize cntP P k = n1 at *
            have HIZ := Lib.hid hiz
            have HIN := Lib.hid hr_in
            have HOUT := Lib.hid hr_out
            have HUP := Lib.hid hup
            have hgw := hbx2.lt
            have hgw2 : g ≤ wr.heap.size := Nat.le_of_lt hgw
            clear hiz hr_in hr_out hup hw1 hvx hrb hab hrl HR hcone hcpos hinz hp5
            obtain ⟨c0, c1, c2, c3, c4, c5, c6⟩ := id hp
            go_wp2_with fail
            refine (specMayGo_any x lv2 _ hok).mono ?_
            rintro e w7 ⟨rfl, hb7⟩
            rw [hsame]
            have hbx3 := hbx2.below hb7
            have hbr3 := hbr2.trans (hb7.mono hgw2)
            have hp7 := hp.below hb7 hp.lt
            have cb := (hb7.cell (p := ⟨g, k, none⟩) hgw).trans ca
            clear ca c0 c1 c2 c3 c4 c5 c6 hp hbx2 hbr2 hb7 hsame hgw2
            cases hgo : goesB x lv2
            · have HA := Lib.hid (show a1 = a0 by have h := HUP.out; rw [hgo] at h; rw [h]; exact Int.add_zero _)
              have HRr := Lib.hid (show r1 = r0 by
                cases hi : inP P k
                · have h := HOUT.out hi; rw [hgo] at h; rw [h]; exact Int.add_zero _
                · exact HIN.out hi)
              clear hgo HUP HOUT HIN HIZ hp7 cb
              go_wp2
              go_roundw
              case rel => exact ⟨k + 1, by omega, by rw [HR1.out, HRr.out], by rw [HA1.out, HA.out], by go_num, hbx3, hbr3⟩
              case measure => simp [intOf]; omega
            · have HA := Lib.hid (show a1 = a0 + x.people by have h := HUP.out; rw [hgo] at h; exact h)
              have c1 := hp7.c1
              by_cases hz : n1 = 0
              · have HRr := Lib.hid (show sm + r1 = sm + r0 + x.people by
                  have h := HOUT.out (HIZ.out.1 hz); rw [hgo] at h; rw [h, ← Int.add_assoc]; rfl)
                have e0 : (n1 == 0) = true := by rw [beq_iff_eq]; exact hz
                clear hgo HUP HOUT HIN HIZ hp7 hz
                go_wp2
                go_roundw
                case rel => exact ⟨k + 1, by omega, by rw [HR1.out, HRr.out], by rw [HA1.out, HA.out], by go_num, hbx3, hbr3⟩
                case measure => simp [intOf]; omega
              · have HRr := Lib.hid (show r1 = r0 by
                  cases hi : inP P k
                  · exact absurd (HIZ.out.2 hi) hz
                  · exact HIN.out hi)
                have e0 : (n1 == 0) = false := by rw [beq_eq_false_iff_ne]; exact hz
                clear hgo HUP HOUT HIN HIZ hp7 hz
                go_wp2
                go_roundw
                case rel => exact ⟨k + 1, by omega, by rw [HR1.out, HRr.out], by rw [HA1.out, HA.out], by go_num, hbx3, hbr3⟩
                case measure => simp [intOf]; omega
          · obtain rfl : k = gs.length := by omega
            have e1 : (sm + rest1 (wOne gs lv2) P gs.length == mst) = true := by rw [beq_iff_eq]; exact HMS2.out.symm
            have e2 : ((List.range gs.length).map (wOne gs lv2)).sum ≤ mst := HAL.out
            generalize rest1 (wOne gs lv2) P gs.length = r0 at *
            generalize ((List.range gs.length).map (wOne gs lv2)).sum = a0 at *
            go_wp2
            go_ret
            exact ⟨rfl, hB5.trans (hbr2.mono (by have := hG.out; have := hB5.size; omega))⟩
end Go.Proofs.Ytjfaafoldllppaa

namespace Go.Proofs.Ytjfaafoldllppaa
open Go.RowKit Go.WideShapes Go.ChangeShapes Go.ChangeAt Go.Deep

/-- Whatever the form's reader reads at type t reads by E. -/
def Opens {α : Type} (t : TypeId) (E : Cod α) : Prop :=
  ∀ {H : Type} {enc : TypeId × Value → H} {w : World} {n : Nat} {cs : List Value} {x : DataW H × List MemPlace},
    DataW.trod enc Try.prog w 0 (fun _ => true) true n t cs = some x → w.noneFrozen x.2 → ∃ y fp, E.rd w cs y fp

theorem opens_int {t : TypeId} (ht : Try.prog.underlying t = some (.int .i64)) : Opens t fInt.cod := by
  intro H enc w n cs x h _
  obtain ⟨k, rfl, rfl, wk⟩ := DataW.trod_int ht h
  refine ⟨k, [], rfl, ?_, rfl⟩
  exact bounds_i64 wk
theorem opens_str {t : TypeId} (ht : Try.prog.underlying t = some .string) : Opens t fStr.cod := by
  intro H enc w n cs x h _
  obtain ⟨s, rfl, rfl, hs⟩ := DataW.trod_string ht h
  exact ⟨s, [], rfl, by unfold maxLen at hs; exact hs, rfl⟩
theorem opens_bool {t : TypeId} (ht : Try.prog.underlying t = some .bool) : Opens t fBool.cod := by
  intro H enc w n cs x h _
  obtain ⟨s, rfl, rfl⟩ := DataW.trod_bool ht h
  exact ⟨s, [], rfl, trivial, rfl⟩

theorem add_none (b off x y : Nat) : ((⟨b, off, none⟩ : Addr).add x).add y = ⟨b, off + x + y, none⟩ := by
  unfold Addr.add
  by_cases hx : x = 0 <;> by_cases hy : y = 0 <;> simp [hx, hy]

theorem opens_slice {α : Type} {E : Cod α} {t e : TypeId} (ht : Try.prog.underlying t = some (.slice e)) (hn : Try.prog.cellsOf e = E.n) (he : Opens e E) : Opens t E.slice := by
  intro H enc w n cs x h hfz
  rcases open_slice ht h with ⟨rfl, rfl⟩ | ⟨a, len, cap, m, n', D, Pl, rfl, hb, hl, hm, hmm, hx, hi⟩
  · exact ⟨[], [], _, rfl, none, 0, rfl, by simp, by simp [maxLen], .inl ⟨rfl, rfl⟩⟩
  · simp only [if_true] at hmm
    subst hmm
    rcases Nat.eq_zero_or_pos len with h0 | h0
    · subst h0
      exact ⟨[], [], _, rfl, some a, m, rfl, by simp, hm, .inl ⟨rfl, rfl⟩⟩
    · rw [hn] at hi
      have hspot : a = ⟨a.block, a.off, none⟩ := by
        obtain ⟨cs', hc, _⟩ := hi 0 (by omega)
        obtain ⟨_, hcl, hat⟩ := World.cells?_some hc
        have h1 := hat 0 E.pos
        have hps := E.pos
        rw [List.getElem?_eq_getElem (by omega)] at h1
        have h2 : w.cell? a = some cs'[0] := by simpa [Addr.add] using h1
        have := World.cell?_spot h2
        cases a; simp_all
      have hel : ∀ i : Fin len, ∃ p : α × List Nat × List Value, (∀ j, j < E.n → w.cell? ⟨a.block, a.off + i.1 * E.n + j, none⟩ = p.2.2[j]?) ∧ (∀ j, j < E.n → w.frozen? ⟨a.block, a.off + i.1 * E.n + j, none⟩ = false) ∧ E.rd w p.2.2 p.1 p.2.1 := by
        intro ⟨i, hil⟩
        obtain ⟨cs', hc, htr⟩ := hi i (by omega)
        obtain ⟨_, hcl, hat⟩ := World.cells?_some hc
        have hsub : ∀ pl ∈ Pl i, pl ∈ x.2 := by
          intro pl hpl
          rw [hx]
          exact List.mem_append_right _ (List.mem_flatMap.2 ⟨i, by simp; omega, hpl⟩)
        obtain ⟨y, fp, hy⟩ := he htr (fun b off hmem => hfz b off (hsub _ hmem))
        refine ⟨⟨y, fp, cs'⟩, fun j hj => ?_, fun j hj => ?_, hy⟩
        · have := hat j hj
          rw [hspot, add_none] at this
          exact this
        · refine hfz _ _ ?_
          rw [hx]
          refine List.mem_append_left _ ?_
          unfold MemPlace.row
          refine List.mem_map.2 ⟨i * E.n + j, ?_, by rw [Nat.add_assoc]⟩
          rw [List.mem_range, hn]
          have : (i + 1) * E.n ≤ m * E.n := Nat.mul_le_mul_right _ (by omega)
          rw [Nat.succ_mul] at this
          omega
      obtain ⟨f, hf⟩ := Classical.axiomOfChoice hel
      have hblk : a.block < w.heap.size := by
        obtain ⟨h1, _, h3⟩ := hf ⟨0, h0⟩
        have h1 := h1 0 E.pos
        have h4 := E.len h3
        have hps := E.pos
        rw [List.getElem?_eq_getElem (by omega)] at h1
        exact block_lt_of_cell (a := ⟨a.block, _, none⟩) h1
      refine ⟨List.ofFn fun i => (f i).1, a.block :: (List.range len).flatMap fun i => if h : i < len then (f ⟨i, h⟩).2.1 else [], _, rfl, some a, m, by simp, by simpa using hl, hm,
        .inr ⟨a.block, a.off, _, by rw [← hspot], hblk, by rw [List.length_ofFn], fun i hil => ?_⟩⟩
      rw [List.length_ofFn] at hil
      obtain ⟨h1, h2, h3⟩ := hf ⟨i, hil⟩
      refine ⟨(f ⟨i, hil⟩).2.2, h1, h2, ?_⟩
      simpa [hil] using h3

/-- A struct of fields of one cell each. -/
theorem opens_fields {t : TypeId} {fs : Array Field} (ht : Try.prog.underlying t = some (.struct fs)) (hone : oneCellFields Try.prog fs = true) (hC : Try.prog.cellsOf t = fs.size)
    {H : Type} {enc : TypeId × Value → H} {w : World} {n : Nat} {cs : List Value} {x : DataW H × List MemPlace} (h : DataW.trod enc Try.prog w 0 (fun _ => true) true n t cs = some x) (hfz : w.noneFrozen x.2) :
    cs.length = fs.size ∧ ∀ (j : Nat) (f : Field), fs[j]? = some f → ∃ (v : Value) (m : Nat) (y : DataW H × List MemPlace), cs[j]? = some v ∧ DataW.trod enc Try.prog w 0 (fun _ => true) true m f.type [v] = some y ∧ w.noneFrozen y.2 := by
  obtain ⟨xs, n', rfl, hx, hl, hxl, hf⟩ := DataW.trod_struct ht h
  refine ⟨hl.trans hC, fun j f hj => ?_⟩
  have hjl : j < fs.size := (Array.getElem?_eq_some_iff.1 hj).1
  obtain ⟨ho, hk⟩ := hone_of hone j f hj
  have h1 := hf j f hj
  rw [ho, hk] at h1
  have hcl : j < cs.length := by rw [hl, hC]; exact hjl
  have e1 : (cs.drop j).take 1 = [cs[j]] := by
    rw [List.drop_eq_getElem_cons hcl]; rfl
  rw [e1, List.getElem?_eq_getElem (by omega)] at h1
  refine ⟨cs[j], n', xs[j], List.getElem?_eq_getElem hcl, h1, fun b off hm => hfz b off ?_⟩
  rw [hx]
  exact List.mem_flatMap.2 ⟨xs[j], List.getElem_mem _, hm⟩

/-- An argument that came in: its value reads. -/
theorem Opens.arg {α : Type} {t : TypeId} {E : Cod α} (ho : Opens t E) {H : Type} {enc : TypeId × Value → H} {w : World} {v : Value} {d : DataW H} {ps : List MemPlace}
    (h : DataW.Trod enc Try.prog w 0 (fun _ => true) true t v d ps) (hfz : w.noneFrozen ps) : ∃ y fp, E.rd w v.cells.toList y fp := by
  obtain ⟨n, hn⟩ := h
  exact ho hn hfz
theorem Opens.sl {α : Type} {t : TypeId} {E : Cod α} (ho : Opens t E.slice) {H : Type} {enc : TypeId × Value → H} {w : World} {v : Value} {d : DataW H} {ps : List MemPlace}
    (h : DataW.Trod enc Try.prog w 0 (fun _ => true) true t v d ps) (hfz : w.noneFrozen ps) {A : Option Addr} {len cap : Nat} (hv : v = .slice A len cap) : ∃ y fp, Sl E w v y fp := by
  obtain ⟨y, fp, u, hu, hs⟩ := ho.arg h hfz
  subst hv
  simp [Value.cells] at hu
  subst hu
  exact ⟨y, fp, hs⟩

end Go.Proofs.Ytjfaafoldllppaa

namespace Go.Proofs.Ytjfaafoldllppaa
open Go.RowKit Go.WideShapes Go.ChangeShapes Go.ChangeAt Go.Deep

set_option maxRecDepth 100000 in
set_option maxHeartbeats 400000 in
theorem opens_byte {t : TypeId} (ht : Try.prog.underlying t = some (.int .u8)) : Opens t fByte.cod := by
  intro H enc w n cs x h _
  obtain ⟨k, rfl, rfl, wk⟩ := DataW.trod_int ht h
  have hk : 0 ≤ k ∧ k ≤ 255 := by
    have h1 : IntKind.u8.min = 0 := by decide
    have h2 : IntKind.u8.max = 255 := by decide
    have := wk
    simp [Lit.wf, h1, h2] at this
    omega
  refine ⟨UInt8.ofNat k.toNat, [], ?_, trivial, rfl⟩
  show _ = [Value.int .u8 _]
  rw [UInt8.toNat_ofNat']
  congr 2
  omega
end Go.Proofs.Ytjfaafoldllppaa
