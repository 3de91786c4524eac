/- Two desks compared by the spec. Written by wip/gen/sm.py. -/
import Derived.Test.YthejcbhplgjmgaaSm
import Derived.Test.YthejcbhplgjmgaaSeg
namespace Go.Proofs.Ythejcbhplgjmgaa
open Go.RowKit
set_option linter.unusedVariables false

theorem deskEq_bad0 {x y : DDesk} (h : ¬ x.ob = y.ob) : deskEq x y = false := by unfold deskEq; rw [show decide (x.ob = y.ob) = false from decide_eq_false h]; simp
theorem deskEq_bad1 {x y : DDesk} (h : fieldEq x.rows x.columns y.rows y.columns x.ma y.ma = false) : deskEq x y = false := by unfold deskEq; rw [h]; simp
theorem deskEq_bad2 {x y : DDesk} (h : ¬ x.te = y.te) : deskEq x y = false := by unfold deskEq; rw [show decide (x.te = y.te) = false from decide_eq_false h]; simp
theorem deskEq_bad3 {x y : DDesk} (h : ¬ x.st = y.st) : deskEq x y = false := by unfold deskEq; rw [show decide (x.st = y.st) = false from decide_eq_false h]; simp
theorem deskEq_bad4 {x y : DDesk} (h : ¬ x.pa = y.pa) : deskEq x y = false := by unfold deskEq; rw [show decide (x.pa = y.pa) = false from decide_eq_false h]; simp
theorem deskEq_bad5 {x y : DDesk} (h : ¬ x.zo = y.zo) : deskEq x y = false := by unfold deskEq; rw [show decide (x.zo = y.zo) = false from decide_eq_false h]; simp
theorem deskEq_bad6 {x y : DDesk} (h : ¬ x.re = y.re) : deskEq x y = false := by unfold deskEq; rw [show decide (x.re = y.re) = false from decide_eq_false h]; simp
theorem deskEq_bad7 {x y : DDesk} (h : ¬ x.ve = y.ve) : deskEq x y = false := by unfold deskEq; rw [show decide (x.ve = y.ve) = false from decide_eq_false h]; simp
theorem deskEq_bad8 {x y : DDesk} (h : ¬ x.sh = y.sh) : deskEq x y = false := by unfold deskEq; rw [show decide (x.sh = y.sh) = false from decide_eq_false h]; simp
theorem deskEq_bad9 {x y : DDesk} (h : ¬ x.gr = y.gr) : deskEq x y = false := by unfold deskEq; rw [show decide (x.gr = y.gr) = false from decide_eq_false h]; simp
theorem deskEq_bad10 {x y : DDesk} (h : ¬ x.wa = y.wa) : deskEq x y = false := by unfold deskEq; rw [show decide (x.wa = y.wa) = false from decide_eq_false h]; simp
theorem deskEq_bad11 {x y : DDesk} (h : ¬ x.in_ = y.in_) : deskEq x y = false := by unfold deskEq; rw [show decide (x.in_ = y.in_) = false from decide_eq_false h]; simp
theorem deskEq_good {x y : DDesk} (h0 : x.ob = y.ob) (h1 : fieldEq x.rows x.columns y.rows y.columns x.ma y.ma = true) (h2 : x.te = y.te) (h3 : x.st = y.st) (h4 : x.pa = y.pa) (h5 : x.zo = y.zo) (h6 : x.re = y.re) (h7 : x.ve = y.ve) (h8 : x.sh = y.sh) (h9 : x.gr = y.gr) (h10 : x.wa = y.wa) (h11 : x.in_ = y.in_) : deskEq x y = true := by unfold deskEq; rw [h1, decide_eq_true h0, decide_eq_true h2, decide_eq_true h3, decide_eq_true h4, decide_eq_true h5, decide_eq_true h6, decide_eq_true h7, decide_eq_true h8, decide_eq_true h9, decide_eq_true h10, decide_eq_true h11]; rfl
set_option maxRecDepth 100000 in
set_option maxHeartbeats 8000000 in
theorem specSameDesk_any (x y : DDesk) (va vb : DVals) (Fa Fb : Nat → List Nat) (w : World) (ha : DeskRd w va x Fa) (hb : DeskRd w vb y Fb) :
    Calls Try.prog 9 #[deskA va x, deskA vb y] w fun e w' => e = .returned (.bool (deskEq x y)) ∧ Below w.heap.size w w' := by
  have hB0 : Below w.heap.size w (w.alloc (.cells #[va.ob, .int .i64 x.rows, .int .i64 x.columns, va.ma, va.te, va.st, va.pa, va.zo, va.re, va.ve, va.sh, va.gr, va.wa, va.in_] 51)) := (Below.refl _ _).alloc (Nat.le_refl _) _
  have hB : Below w.heap.size w ((w.alloc (.cells #[va.ob, .int .i64 x.rows, .int .i64 x.columns, va.ma, va.te, va.st, va.pa, va.zo, va.re, va.ve, va.sh, va.gr, va.wa, va.in_] 51)).alloc (.cells #[vb.ob, .int .i64 y.rows, .int .i64 y.columns, vb.ma, vb.te, vb.st, vb.pa, vb.zo, vb.re, vb.ve, vb.sh, vb.gr, vb.wa, vb.in_] 51)) := hB0.alloc (by simp) _
  have pa := (DBox.new w va x 51).below' ((Below.refl _ _).alloc (Nat.le_refl _) (.cells #[vb.ob, .int .i64 y.rows, .int .i64 y.columns, vb.ma, vb.te, vb.st, vb.pa, vb.zo, vb.re, vb.ve, vb.sh, vb.gr, vb.wa, vb.in_] 51))
  have pb := DBox.new (w.alloc (.cells #[va.ob, .int .i64 x.rows, .int .i64 x.columns, va.ma, va.te, va.st, va.pa, va.zo, va.re, va.ve, va.sh, va.gr, va.wa, va.in_] 51)) vb y 51
  rw [World.size_alloc] at pb
  replace ha := ha.below' hB
  replace hb := hb.below' hB
  clear hB0
  unfold deskA
  go_enter Try.func9, Try.ntmps9
  simp only [List.append_eq, List.cons_append, List.nil_append]
  have ca1 := pa.c1
  have cb1 := pb.c1
  have ca2 := pa.c2
  have cb2 := pb.c2
  have ca3 := pa.c3
  have cb3 := pb.c3
  go_wp2_with fail
  refine (specSameField_any _ _ _ _ _ _ _ _ _ _ _ ha.ma hb.ma).mono ?_
  rintro e V0 ⟨rfl, hbn⟩
  replace ha := ha.below' hbn
  replace hb := hb.below' hbn
  replace pa := pa.below' hbn
  replace pb := pb.below' hbn
  replace hB := hB.trans (hbn.mono hB.size)
  clear hbn ca1 cb1 ca2 cb2 ca3 cb3
  cases h1 : fieldEq x.rows x.columns y.rows y.columns x.ma y.ma
  · have HV := Lib.hid (deskEq_bad1 (x := x) (y := y) h1)
    clear h1
    go_wp2
    go_ret
    exact ⟨ret_bool HV.out.symm, hB⟩
  · skip
    replace h1 := Lib.hid h1
    have ca7 := pa.c7
    have cb7 := pb.c7
    go_wp2_with fail
    refine (l00Same_any _ _ _ _ _ _ _ ha.zo hb.zo).mono ?_
    rintro e V1 ⟨rfl, hbn⟩
    replace ha := ha.below' hbn
    replace hb := hb.below' hbn
    replace pa := pa.below' hbn
    replace pb := pb.below' hbn
    replace hB := hB.trans (hbn.mono hB.size)
    clear hbn ca7 cb7
    cases h5 : decide (x.zo = y.zo)
    · have HV := Lib.hid (deskEq_bad5 (x := x) (y := y) (of_decide_eq_false h5))
      clear h5
      go_wp2
      go_ret
      exact ⟨ret_bool HV.out.symm, hB⟩
    · skip
      replace h5 := Lib.hid (of_decide_eq_true h5)
      have ca8 := pa.c8
      have cb8 := pb.c8
      go_wp2_with fail
      refine (specSameRegions_any _ _ _ _ _ _ _ ha.re hb.re).mono ?_
      rintro e V2 ⟨rfl, hbn⟩
      replace ha := ha.below' hbn
      replace hb := hb.below' hbn
      replace pa := pa.below' hbn
      replace pb := pb.below' hbn
      replace hB := hB.trans (hbn.mono hB.size)
      clear hbn ca8 cb8
      cases h6 : decide (x.re = y.re)
      · have HV := Lib.hid (deskEq_bad6 (x := x) (y := y) (of_decide_eq_false h6))
        clear h6
        go_wp2
        go_ret
        exact ⟨ret_bool HV.out.symm, hB⟩
      · skip
        replace h6 := Lib.hid (of_decide_eq_true h6)
        have hx0 := ha.ob
        have hy0 := hb.ob
        obtain ⟨A0, cap0, eA0, _, _⟩ := hx0.form
        obtain ⟨B0, cbp0, eB0, _, _⟩ := hy0.form
        have ca0 := pa.c0
        have cb0 := pb.c0
        rw [eA0] at hx0 ca0
        rw [eB0] at hy0 cb0
        have hx2 := ha.te
        have hy2 := hb.te
        obtain ⟨A2, cap2, eA2, _, _⟩ := hx2.form
        obtain ⟨B2, cbp2, eB2, _, _⟩ := hy2.form
        have ca4 := pa.c4
        have cb4 := pb.c4
        rw [eA2] at hx2 ca4
        rw [eB2] at hy2 cb4
        have hx3 := ha.st
        have hy3 := hb.st
        obtain ⟨A3, cap3, eA3, _, _⟩ := hx3.form
        obtain ⟨B3, cbp3, eB3, _, _⟩ := hy3.form
        have ca5 := pa.c5
        have cb5 := pb.c5
        rw [eA3] at hx3 ca5
        rw [eB3] at hy3 cb5
        have hx4 := ha.pa
        have hy4 := hb.pa
        obtain ⟨A4, cap4, eA4, _, _⟩ := hx4.form
        obtain ⟨B4, cbp4, eB4, _, _⟩ := hy4.form
        have ca6 := pa.c6
        have cb6 := pb.c6
        rw [eA4] at hx4 ca6
        rw [eB4] at hy4 cb6
        have hx7 := ha.ve
        have hy7 := hb.ve
        obtain ⟨A7, cap7, eA7, _, _⟩ := hx7.form
        obtain ⟨B7, cbp7, eB7, _, _⟩ := hy7.form
        have ca9 := pa.c9
        have cb9 := pb.c9
        rw [eA7] at hx7 ca9
        rw [eB7] at hy7 cb9
        have hx8 := ha.sh
        have hy8 := hb.sh
        obtain ⟨A8, cap8, eA8, _, _⟩ := hx8.form
        obtain ⟨B8, cbp8, eB8, _, _⟩ := hy8.form
        have ca10 := pa.c10
        have cb10 := pb.c10
        rw [eA8] at hx8 ca10
        rw [eB8] at hy8 cb10
        have hx9 := ha.gr
        have hy9 := hb.gr
        obtain ⟨A9, cap9, eA9, _, _⟩ := hx9.form
        obtain ⟨B9, cbp9, eB9, _, _⟩ := hy9.form
        have ca11 := pa.c11
        have cb11 := pb.c11
        rw [eA9] at hx9 ca11
        rw [eB9] at hy9 cb11
        have hx10 := ha.wa
        have hy10 := hb.wa
        obtain ⟨A10, cap10, eA10, _, _⟩ := hx10.form
        obtain ⟨B10, cbp10, eB10, _, _⟩ := hy10.form
        have ca12 := pa.c12
        have cb12 := pb.c12
        rw [eA10] at hx10 ca12
        rw [eB10] at hy10 cb12
        have hx11 := ha.in_
        have hy11 := hb.in_
        obtain ⟨A11, cap11, eA11, _, _⟩ := hx11.form
        obtain ⟨B11, cbp11, eB11, _, _⟩ := hy11.form
        have ca13 := pa.c13
        have cb13 := pb.c13
        rw [eA11] at hx11 ca13
        rw [eB11] at hy11 cb13
        clear ha hb pa pb
        skip
        by_cases hl0 : x.ob.length = y.ob.length
        case neg =>
          have HV := Lib.hid (deskEq_bad0 (x := x) (y := y) (fun h => hl0 (by rw [h])))
          have e0 : (((x.ob.length : Nat) : Int) != ((y.ob.length : Nat) : Int)) = true := by rw [bne_iff_ne]; omega
          clear hl0
          go_wp2
          go_ret
          exact ⟨ret_bool HV.out.symm, hB⟩
        have e0 : (((x.ob.length : Nat) : Int) != ((y.ob.length : Nat) : Int)) = false := by rw [bne_eq_false_iff_eq]; omega
        replace hl0 := Lib.hid hl0
        by_cases hl2 : x.te.length = y.te.length
        case neg =>
          have HV := Lib.hid (deskEq_bad2 (x := x) (y := y) (fun h => hl2 (by rw [h])))
          have e2 : (((x.te.length : Nat) : Int) != ((y.te.length : Nat) : Int)) = true := by rw [bne_iff_ne]; omega
          clear hl2
          go_wp2
          go_ret
          exact ⟨ret_bool HV.out.symm, hB⟩
        have e2 : (((x.te.length : Nat) : Int) != ((y.te.length : Nat) : Int)) = false := by rw [bne_eq_false_iff_eq]; omega
        replace hl2 := Lib.hid hl2
        by_cases hl3 : x.st.length = y.st.length
        case neg =>
          have HV := Lib.hid (deskEq_bad3 (x := x) (y := y) (fun h => hl3 (by rw [h])))
          have e3 : (((x.st.length : Nat) : Int) != ((y.st.length : Nat) : Int)) = true := by rw [bne_iff_ne]; omega
          clear hl3
          go_wp2
          go_ret
          exact ⟨ret_bool HV.out.symm, hB⟩
        have e3 : (((x.st.length : Nat) : Int) != ((y.st.length : Nat) : Int)) = false := by rw [bne_eq_false_iff_eq]; omega
        replace hl3 := Lib.hid hl3
        by_cases hl4 : x.pa.length = y.pa.length
        case neg =>
          have HV := Lib.hid (deskEq_bad4 (x := x) (y := y) (fun h => hl4 (by rw [h])))
          have e4 : (((x.pa.length : Nat) : Int) != ((y.pa.length : Nat) : Int)) = true := by rw [bne_iff_ne]; omega
          clear hl4
          go_wp2
          go_ret
          exact ⟨ret_bool HV.out.symm, hB⟩
        have e4 : (((x.pa.length : Nat) : Int) != ((y.pa.length : Nat) : Int)) = false := by rw [bne_eq_false_iff_eq]; omega
        replace hl4 := Lib.hid hl4
        by_cases hl7 : x.ve.length = y.ve.length
        case neg =>
          have HV := Lib.hid (deskEq_bad7 (x := x) (y := y) (fun h => hl7 (by rw [h])))
          have e7 : (((x.ve.length : Nat) : Int) != ((y.ve.length : Nat) : Int)) = true := by rw [bne_iff_ne]; omega
          clear hl7
          go_wp2
          go_ret
          exact ⟨ret_bool HV.out.symm, hB⟩
        have e7 : (((x.ve.length : Nat) : Int) != ((y.ve.length : Nat) : Int)) = false := by rw [bne_eq_false_iff_eq]; omega
        replace hl7 := Lib.hid hl7
        by_cases hl8 : x.sh.length = y.sh.length
        case neg =>
          have HV := Lib.hid (deskEq_bad8 (x := x) (y := y) (fun h => hl8 (by rw [h])))
          have e8 : (((x.sh.length : Nat) : Int) != ((y.sh.length : Nat) : Int)) = true := by rw [bne_iff_ne]; omega
          clear hl8
          go_wp2
          go_ret
          exact ⟨ret_bool HV.out.symm, hB⟩
        have e8 : (((x.sh.length : Nat) : Int) != ((y.sh.length : Nat) : Int)) = false := by rw [bne_eq_false_iff_eq]; omega
        replace hl8 := Lib.hid hl8
        by_cases hl9 : x.gr.length = y.gr.length
        case neg =>
          have HV := Lib.hid (deskEq_bad9 (x := x) (y := y) (fun h => hl9 (by rw [h])))
          have e9 : (((x.gr.length : Nat) : Int) != ((y.gr.length : Nat) : Int)) = true := by rw [bne_iff_ne]; omega
          clear hl9
          go_wp2
          go_ret
          exact ⟨ret_bool HV.out.symm, hB⟩
        have e9 : (((x.gr.length : Nat) : Int) != ((y.gr.length : Nat) : Int)) = false := by rw [bne_eq_false_iff_eq]; omega
        replace hl9 := Lib.hid hl9
        by_cases hl10 : x.wa.length = y.wa.length
        case neg =>
          have HV := Lib.hid (deskEq_bad10 (x := x) (y := y) (fun h => hl10 (by rw [h])))
          have e10 : (((x.wa.length : Nat) : Int) != ((y.wa.length : Nat) : Int)) = true := by rw [bne_iff_ne]; omega
          clear hl10
          go_wp2
          go_ret
          exact ⟨ret_bool HV.out.symm, hB⟩
        have e10 : (((x.wa.length : Nat) : Int) != ((y.wa.length : Nat) : Int)) = false := by rw [bne_eq_false_iff_eq]; omega
        replace hl10 := Lib.hid hl10
        by_cases hl11 : x.in_.length = y.in_.length
        case neg =>
          have HV := Lib.hid (deskEq_bad11 (x := x) (y := y) (fun h => hl11 (by rw [h])))
          have e11 : (((x.in_.length : Nat) : Int) != ((y.in_.length : Nat) : Int)) = true := by rw [bne_iff_ne]; omega
          clear hl11
          go_wp2
          go_ret
          exact ⟨ret_bool HV.out.symm, hB⟩
        have e11 : (((x.in_.length : Nat) : Int) != ((y.in_.length : Nat) : Int)) = false := by rw [bne_eq_false_iff_eq]; omega
        replace hl11 := Lib.hid hl11
        go_wp2
        go_loopw [5] (fun i wr => ∃ k : Nat, k ≤ x.ob.length ∧ i = .int .i64 k ∧ Hid (x.ob.take k = y.ob.take k) ∧ ∃ n, wr = V2.drewN n) (fun i _ => x.ob.length - (intOf i).toNat)
        case atStart => exact ⟨0, Nat.zero_le _, rfl, rfl, 0, rfl⟩
        case round =>
          obtain ⟨k0, hk, rfl, HE, n0, rfl⟩ := hrel
          by_cases hlt : k0 < x.ob.length
          · have hky : k0 < y.ob.length := by have := hl0.out; omega
            obtain ⟨b, off, rfl, _, hok, hc, _⟩ := hx0.at_ hlt
            obtain ⟨b', off', rfl, _, hok', hd, _⟩ := hy0.at_ hky
            have hc0 : V2.cell? ⟨b, off + k0 * 4, none⟩ = some (.int .i64 x.ob[k0].hour) := hc 0 (by decide)
            have hd0 : V2.cell? ⟨b', off' + k0 * 4, none⟩ = some (.int .i64 y.ob[k0].hour) := hd 0 (by decide)
            have hc1 : V2.cell? ⟨b, off + k0 * 4 + 1, none⟩ = some (.int .i64 x.ob[k0].snow) := hc 1 (by decide)
            have hd1 : V2.cell? ⟨b', off' + k0 * 4 + 1, none⟩ = some (.int .i64 y.ob[k0].snow) := hd 1 (by decide)
            have hc2 : V2.cell? ⟨b, off + k0 * 4 + 2, none⟩ = some (.int .i64 x.ob[k0].degrees) := hc 2 (by decide)
            have hd2 : V2.cell? ⟨b', off' + k0 * 4 + 2, none⟩ = some (.int .i64 y.ob[k0].degrees) := hd 2 (by decide)
            have hc3 : V2.cell? ⟨b, off + k0 * 4 + 3, none⟩ = some (.int .i64 x.ob[k0].wind) := hc 3 (by decide)
            have hd3 : V2.cell? ⟨b', off' + k0 * 4 + 3, none⟩ = some (.int .i64 y.ob[k0].wind) := hd 3 (by decide)
            clear hc hd hok hok'
            by_cases he : x.ob[k0] = y.ob[k0]
            · rw [← he] at hd0 hd1 hd2 hd3
              have HS := Lib.hid (listEq_step hlt hky HE.out he)
              clear he
              go_wp2
              go_quiet (fail)
              go_wp2
              go_roundw
              case rel => exact ⟨k0 + 1, by omega, by go_num, HS, _, rfl⟩
              case measure => simp [intOf]; omega
            · have HB := Lib.hid (listEq_bad hlt hky he)
              generalize x.ob[k0] = p at *
              generalize y.ob[k0] = q at *
              by_cases e0 : p.hour = q.hour
              · skip
                by_cases e1 : p.snow = q.snow
                · skip
                  by_cases e2 : p.degrees = q.degrees
                  · skip
                    by_cases e3 : p.wind = q.wind
                    · skip
                      exact absurd (by cases p; cases q; simp_all) he
                    · skip
                      have f3 : (p.wind == q.wind) = false := by rw [beq_eq_false_iff_ne]; exact e3
                      rw [← e0] at hd0
                      rw [← e1] at hd1
                      rw [← e2] at hd2
                      clear e0 e1 e2 e3 he
                      go_wp2
                      go_quiet (fail)
                      go_wp2
                      go_ret
                      exact ⟨ret_bool (deskEq_bad0 HB.out).symm, hB.trans ((show Below V2.heap.size V2 _ from (by repeat (first | exact Below.refl _ _ | assumption | refine Below.alloc ?_ (by first | omega | (simp <;> omega)) _ | refine Below.setCell ?_ (by first | (show _ ≤ _; omega) | (simp <;> omega)) _ | refine Below.drew ?_ | refine below_drewN ?_ _))).mono hB.size)⟩
                  · skip
                    have f2 : (p.degrees == q.degrees) = false := by rw [beq_eq_false_iff_ne]; exact e2
                    rw [← e0] at hd0
                    rw [← e1] at hd1
                    clear e0 e1 e2 he
                    go_wp2
                    go_quiet (fail)
                    go_wp2
                    go_ret
                    exact ⟨ret_bool (deskEq_bad0 HB.out).symm, hB.trans ((show Below V2.heap.size V2 _ from (by repeat (first | exact Below.refl _ _ | assumption | refine Below.alloc ?_ (by first | omega | (simp <;> omega)) _ | refine Below.setCell ?_ (by first | (show _ ≤ _; omega) | (simp <;> omega)) _ | refine Below.drew ?_ | refine below_drewN ?_ _))).mono hB.size)⟩
                · skip
                  have f1 : (p.snow == q.snow) = false := by rw [beq_eq_false_iff_ne]; exact e1
                  rw [← e0] at hd0
                  clear e0 e1 he
                  go_wp2
                  go_quiet (fail)
                  go_wp2
                  go_ret
                  exact ⟨ret_bool (deskEq_bad0 HB.out).symm, hB.trans ((show Below V2.heap.size V2 _ from (by repeat (first | exact Below.refl _ _ | assumption | refine Below.alloc ?_ (by first | omega | (simp <;> omega)) _ | refine Below.setCell ?_ (by first | (show _ ≤ _; omega) | (simp <;> omega)) _ | refine Below.drew ?_ | refine below_drewN ?_ _))).mono hB.size)⟩
              · skip
                have f0 : (p.hour == q.hour) = false := by rw [beq_eq_false_iff_ne]; exact e0
                clear e0 he
                go_wp2
                go_quiet (fail)
                go_wp2
                go_ret
                exact ⟨ret_bool (deskEq_bad0 HB.out).symm, hB.trans ((show Below V2.heap.size V2 _ from (by repeat (first | exact Below.refl _ _ | assumption | refine Below.alloc ?_ (by first | omega | (simp <;> omega)) _ | refine Below.setCell ?_ (by first | (show _ ≤ _; omega) | (simp <;> omega)) _ | refine Below.drew ?_ | refine below_drewN ?_ _))).mono hB.size)⟩
          · skip
            have H0 := Lib.hid (show x.ob = y.ob from listEq_full (by omega) (by have := hl0.out; omega) HE.out)
            clear HE
            go_wp2
            clear hx0 hy0 ca0 cb0 e0 hl0 hk hlt
            go_loopw [6] (fun i wr => ∃ k : Nat, k ≤ x.te.length ∧ i = .int .i64 k ∧ Hid (x.te.take k = y.te.take k) ∧ ∃ n, wr = V2.drewN n) (fun i _ => x.te.length - (intOf i).toNat)
            case atStart => exact ⟨0, Nat.zero_le _, rfl, rfl, _, rfl⟩
            case round =>
              obtain ⟨k2, hk, rfl, HE, n2, rfl⟩ := hrel
              by_cases hlt : k2 < x.te.length
              · have hky : k2 < y.te.length := by have := hl2.out; omega
                obtain ⟨b, off, rfl, _, hok, hc, _⟩ := hx2.at_ hlt
                obtain ⟨b', off', rfl, _, hok', hd, _⟩ := hy2.at_ hky
                have hc0 : V2.cell? ⟨b, off + k2 * 5, none⟩ = some (.int .i64 x.te[k2].kind) := hc 0 (by decide)
                have hd0 : V2.cell? ⟨b', off' + k2 * 5, none⟩ = some (.int .i64 y.te[k2].kind) := hd 0 (by decide)
                have hc1 : V2.cell? ⟨b, off + k2 * 5 + 1, none⟩ = some (.int .i64 x.te[k2].score) := hc 1 (by decide)
                have hd1 : V2.cell? ⟨b', off' + k2 * 5 + 1, none⟩ = some (.int .i64 y.te[k2].score) := hd 1 (by decide)
                have hc2 : V2.cell? ⟨b, off + k2 * 5 + 2, none⟩ = some (.int .i64 x.te[k2].quality) := hc 2 (by decide)
                have hd2 : V2.cell? ⟨b', off' + k2 * 5 + 2, none⟩ = some (.int .i64 y.te[k2].quality) := hd 2 (by decide)
                have hc3 : V2.cell? ⟨b, off + k2 * 5 + 3, none⟩ = some (.int .i64 x.te[k2].depth) := hc 3 (by decide)
                have hd3 : V2.cell? ⟨b', off' + k2 * 5 + 3, none⟩ = some (.int .i64 y.te[k2].depth) := hd 3 (by decide)
                have hc4 : V2.cell? ⟨b, off + k2 * 5 + 4, none⟩ = some (.int .i64 x.te[k2].hour) := hc 4 (by decide)
                have hd4 : V2.cell? ⟨b', off' + k2 * 5 + 4, none⟩ = some (.int .i64 y.te[k2].hour) := hd 4 (by decide)
                clear hc hd hok hok'
                by_cases he : x.te[k2] = y.te[k2]
                · rw [← he] at hd0 hd1 hd2 hd3 hd4
                  have HS := Lib.hid (listEq_step hlt hky HE.out he)
                  clear he
                  go_wp2
                  go_quiet (fail)
                  go_wp2
                  go_roundw
                  case rel => exact ⟨k2 + 1, by omega, by go_num, HS, _, rfl⟩
                  case measure => simp [intOf]; omega
                · have HB := Lib.hid (listEq_bad hlt hky he)
                  generalize x.te[k2] = p at *
                  generalize y.te[k2] = q at *
                  by_cases e0 : p.kind = q.kind
                  · skip
                    by_cases e1 : p.score = q.score
                    · skip
                      by_cases e2 : p.quality = q.quality
                      · skip
                        by_cases e3 : p.depth = q.depth
                        · skip
                          by_cases e4 : p.hour = q.hour
                          · skip
                            exact absurd (by cases p; cases q; simp_all) he
                          · skip
                            have f4 : (p.hour == q.hour) = false := by rw [beq_eq_false_iff_ne]; exact e4
                            rw [← e0] at hd0
                            rw [← e1] at hd1
                            rw [← e2] at hd2
                            rw [← e3] at hd3
                            clear e0 e1 e2 e3 e4 he
                            go_wp2
                            go_quiet (fail)
                            go_wp2
                            go_ret
                            exact ⟨ret_bool (deskEq_bad2 HB.out).symm, hB.trans ((show Below V2.heap.size V2 _ from (by repeat (first | exact Below.refl _ _ | assumption | refine Below.alloc ?_ (by first | omega | (simp <;> omega)) _ | refine Below.setCell ?_ (by first | (show _ ≤ _; omega) | (simp <;> omega)) _ | refine Below.drew ?_ | refine below_drewN ?_ _))).mono hB.size)⟩
                        · skip
                          have f3 : (p.depth == q.depth) = false := by rw [beq_eq_false_iff_ne]; exact e3
                          rw [← e0] at hd0
                          rw [← e1] at hd1
                          rw [← e2] at hd2
                          clear e0 e1 e2 e3 he
                          go_wp2
                          go_quiet (fail)
                          go_wp2
                          go_ret
                          exact ⟨ret_bool (deskEq_bad2 HB.out).symm, hB.trans ((show Below V2.heap.size V2 _ from (by repeat (first | exact Below.refl _ _ | assumption | refine Below.alloc ?_ (by first | omega | (simp <;> omega)) _ | refine Below.setCell ?_ (by first | (show _ ≤ _; omega) | (simp <;> omega)) _ | refine Below.drew ?_ | refine below_drewN ?_ _))).mono hB.size)⟩
                      · skip
                        have f2 : (p.quality == q.quality) = false := by rw [beq_eq_false_iff_ne]; exact e2
                        rw [← e0] at hd0
                        rw [← e1] at hd1
                        clear e0 e1 e2 he
                        go_wp2
                        go_quiet (fail)
                        go_wp2
                        go_ret
                        exact ⟨ret_bool (deskEq_bad2 HB.out).symm, hB.trans ((show Below V2.heap.size V2 _ from (by repeat (first | exact Below.refl _ _ | assumption | refine Below.alloc ?_ (by first | omega | (simp <;> omega)) _ | refine Below.setCell ?_ (by first | (show _ ≤ _; omega) | (simp <;> omega)) _ | refine Below.drew ?_ | refine below_drewN ?_ _))).mono hB.size)⟩
                    · skip
                      have f1 : (p.score == q.score) = false := by rw [beq_eq_false_iff_ne]; exact e1
                      rw [← e0] at hd0
                      clear e0 e1 he
                      go_wp2
                      go_quiet (fail)
                      go_wp2
                      go_ret
                      exact ⟨ret_bool (deskEq_bad2 HB.out).symm, hB.trans ((show Below V2.heap.size V2 _ from (by repeat (first | exact Below.refl _ _ | assumption | refine Below.alloc ?_ (by first | omega | (simp <;> omega)) _ | refine Below.setCell ?_ (by first | (show _ ≤ _; omega) | (simp <;> omega)) _ | refine Below.drew ?_ | refine below_drewN ?_ _))).mono hB.size)⟩
                  · skip
                    have f0 : (p.kind == q.kind) = false := by rw [beq_eq_false_iff_ne]; exact e0
                    clear e0 he
                    go_wp2
                    go_quiet (fail)
                    go_wp2
                    go_ret
                    exact ⟨ret_bool (deskEq_bad2 HB.out).symm, hB.trans ((show Below V2.heap.size V2 _ from (by repeat (first | exact Below.refl _ _ | assumption | refine Below.alloc ?_ (by first | omega | (simp <;> omega)) _ | refine Below.setCell ?_ (by first | (show _ ≤ _; omega) | (simp <;> omega)) _ | refine Below.drew ?_ | refine below_drewN ?_ _))).mono hB.size)⟩
              · skip
                have H2 := Lib.hid (show x.te = y.te from listEq_full (by omega) (by have := hl2.out; omega) HE.out)
                clear HE
                go_wp2
                clear hx2 hy2 ca4 cb4 e2 hl2 hk hlt
                go_loopw [7] (fun i wr => ∃ k : Nat, k ≤ x.st.length ∧ i = .int .i64 k ∧ Hid (x.st.take k = y.st.take k) ∧ ∃ n, wr = V2.drewN n) (fun i _ => x.st.length - (intOf i).toNat)
                case atStart => exact ⟨0, Nat.zero_le _, rfl, rfl, _, rfl⟩
                case round =>
                  obtain ⟨k3, hk, rfl, HE, n3, rfl⟩ := hrel
                  by_cases hlt : k3 < x.st.length
                  · have hky : k3 < y.st.length := by have := hl3.out; omega
                    obtain ⟨b, off, rfl, _, hok, hc, _⟩ := hx3.at_ hlt
                    obtain ⟨b', off', rfl, _, hok', hd, _⟩ := hy3.at_ hky
                    have hc0 : V2.cell? ⟨b, off + k3 * 5, none⟩ = some (.string x.st[k3].id) := hc 0 (by decide)
                    have hd0 : V2.cell? ⟨b', off' + k3 * 5, none⟩ = some (.string y.st[k3].id) := hd 0 (by decide)
                    have hc1 : V2.cell? ⟨b, off + k3 * 5 + 1, none⟩ = some (.int .i64 x.st[k3].trees) := hc 1 (by decide)
                    have hd1 : V2.cell? ⟨b', off' + k3 * 5 + 1, none⟩ = some (.int .i64 y.st[k3].trees) := hd 1 (by decide)
                    have hc2 : V2.cell? ⟨b, off + k3 * 5 + 2, none⟩ = some (.int .i64 x.st[k3].height) := hc 2 (by decide)
                    have hd2 : V2.cell? ⟨b', off' + k3 * 5 + 2, none⟩ = some (.int .i64 y.st[k3].height) := hd 2 (by decide)
                    have hc3 : V2.cell? ⟨b, off + k3 * 5 + 3, none⟩ = some (.int .i64 x.st[k3].cover) := hc 3 (by decide)
                    have hd3 : V2.cell? ⟨b', off' + k3 * 5 + 3, none⟩ = some (.int .i64 y.st[k3].cover) := hd 3 (by decide)
                    have hc4 : V2.cell? ⟨b, off + k3 * 5 + 4, none⟩ = some (.int .i64 x.st[k3].gap) := hc 4 (by decide)
                    have hd4 : V2.cell? ⟨b', off' + k3 * 5 + 4, none⟩ = some (.int .i64 y.st[k3].gap) := hd 4 (by decide)
                    clear hc hd hok hok'
                    by_cases he : x.st[k3] = y.st[k3]
                    · rw [← he] at hd0 hd1 hd2 hd3 hd4
                      have HS := Lib.hid (listEq_step hlt hky HE.out he)
                      clear he
                      go_wp2
                      go_quiet (fail)
                      go_wp2
                      go_roundw
                      case rel => exact ⟨k3 + 1, by omega, by go_num, HS, _, rfl⟩
                      case measure => simp [intOf]; omega
                    · have HB := Lib.hid (listEq_bad hlt hky he)
                      generalize x.st[k3] = p at *
                      generalize y.st[k3] = q at *
                      by_cases e0 : p.id = q.id
                      · skip
                        by_cases e1 : p.trees = q.trees
                        · skip
                          by_cases e2 : p.height = q.height
                          · skip
                            by_cases e3 : p.cover = q.cover
                            · skip
                              by_cases e4 : p.gap = q.gap
                              · skip
                                exact absurd (by cases p; cases q; simp_all) he
                              · skip
                                have f4 : (p.gap == q.gap) = false := by rw [beq_eq_false_iff_ne]; exact e4
                                rw [← e0] at hd0
                                rw [← e1] at hd1
                                rw [← e2] at hd2
                                rw [← e3] at hd3
                                clear e0 e1 e2 e3 e4 he
                                go_wp2
                                go_quiet (fail)
                                go_wp2
                                go_ret
                                exact ⟨ret_bool (deskEq_bad3 HB.out).symm, hB.trans ((show Below V2.heap.size V2 _ from (by repeat (first | exact Below.refl _ _ | assumption | refine Below.alloc ?_ (by first | omega | (simp <;> omega)) _ | refine Below.setCell ?_ (by first | (show _ ≤ _; omega) | (simp <;> omega)) _ | refine Below.drew ?_ | refine below_drewN ?_ _))).mono hB.size)⟩
                            · skip
                              have f3 : (p.cover == q.cover) = false := by rw [beq_eq_false_iff_ne]; exact e3
                              rw [← e0] at hd0
                              rw [← e1] at hd1
                              rw [← e2] at hd2
                              clear e0 e1 e2 e3 he
                              go_wp2
                              go_quiet (fail)
                              go_wp2
                              go_ret
                              exact ⟨ret_bool (deskEq_bad3 HB.out).symm, hB.trans ((show Below V2.heap.size V2 _ from (by repeat (first | exact Below.refl _ _ | assumption | refine Below.alloc ?_ (by first | omega | (simp <;> omega)) _ | refine Below.setCell ?_ (by first | (show _ ≤ _; omega) | (simp <;> omega)) _ | refine Below.drew ?_ | refine below_drewN ?_ _))).mono hB.size)⟩
                          · skip
                            have f2 : (p.height == q.height) = false := by rw [beq_eq_false_iff_ne]; exact e2
                            rw [← e0] at hd0
                            rw [← e1] at hd1
                            clear e0 e1 e2 he
                            go_wp2
                            go_quiet (fail)
                            go_wp2
                            go_ret
                            exact ⟨ret_bool (deskEq_bad3 HB.out).symm, hB.trans ((show Below V2.heap.size V2 _ from (by repeat (first | exact Below.refl _ _ | assumption | refine Below.alloc ?_ (by first | omega | (simp <;> omega)) _ | refine Below.setCell ?_ (by first | (show _ ≤ _; omega) | (simp <;> omega)) _ | refine Below.drew ?_ | refine below_drewN ?_ _))).mono hB.size)⟩
                        · skip
                          have f1 : (p.trees == q.trees) = false := by rw [beq_eq_false_iff_ne]; exact e1
                          rw [← e0] at hd0
                          clear e0 e1 he
                          go_wp2
                          go_quiet (fail)
                          go_wp2
                          go_ret
                          exact ⟨ret_bool (deskEq_bad3 HB.out).symm, hB.trans ((show Below V2.heap.size V2 _ from (by repeat (first | exact Below.refl _ _ | assumption | refine Below.alloc ?_ (by first | omega | (simp <;> omega)) _ | refine Below.setCell ?_ (by first | (show _ ≤ _; omega) | (simp <;> omega)) _ | refine Below.drew ?_ | refine below_drewN ?_ _))).mono hB.size)⟩
                      · skip
                        have f0 := bytes_beq_false e0
                        clear e0 he
                        go_wp2
                        go_quiet (fail)
                        go_wp2
                        go_ret
                        exact ⟨ret_bool (deskEq_bad3 HB.out).symm, hB.trans ((show Below V2.heap.size V2 _ from (by repeat (first | exact Below.refl _ _ | assumption | refine Below.alloc ?_ (by first | omega | (simp <;> omega)) _ | refine Below.setCell ?_ (by first | (show _ ≤ _; omega) | (simp <;> omega)) _ | refine Below.drew ?_ | refine below_drewN ?_ _))).mono hB.size)⟩
                  · skip
                    have H3 := Lib.hid (show x.st = y.st from listEq_full (by omega) (by have := hl3.out; omega) HE.out)
                    clear HE
                    go_wp2
                    clear hx3 hy3 ca5 cb5 e3 hl3 hk hlt
                    go_loopw [8] (fun i wr => ∃ k : Nat, k ≤ x.pa.length ∧ i = .int .i64 k ∧ Hid (x.pa.take k = y.pa.take k) ∧ ∃ n, wr = V2.drewN n) (fun i _ => x.pa.length - (intOf i).toNat)
                    case atStart => exact ⟨0, Nat.zero_le _, rfl, rfl, _, rfl⟩
                    case round =>
                      obtain ⟨k4, hk, rfl, HE, n4, rfl⟩ := hrel
                      by_cases hlt : k4 < x.pa.length
                      · have hky : k4 < y.pa.length := by have := hl4.out; omega
                        obtain ⟨b, off, rfl, _, hok, hc, _⟩ := hx4.at_ hlt
                        obtain ⟨b', off', rfl, _, hok', hd, _⟩ := hy4.at_ hky
                        have hc0 : V2.cell? ⟨b, off + k4 * 2, none⟩ = some (.int .i64 x.pa[k4].distance) := hc 0 (by decide)
                        have hd0 : V2.cell? ⟨b', off' + k4 * 2, none⟩ = some (.int .i64 y.pa[k4].distance) := hd 0 (by decide)
                        have hc1 : V2.cell? ⟨b, off + k4 * 2 + 1, none⟩ = some (.int .i64 x.pa[k4].height) := hc 1 (by decide)
                        have hd1 : V2.cell? ⟨b', off' + k4 * 2 + 1, none⟩ = some (.int .i64 y.pa[k4].height) := hd 1 (by decide)
                        clear hc hd hok hok'
                        by_cases he : x.pa[k4] = y.pa[k4]
                        · rw [← he] at hd0 hd1
                          have HS := Lib.hid (listEq_step hlt hky HE.out he)
                          clear he
                          go_wp2
                          go_quiet (fail)
                          go_wp2
                          go_roundw
                          case rel => exact ⟨k4 + 1, by omega, by go_num, HS, _, rfl⟩
                          case measure => simp [intOf]; omega
                        · have HB := Lib.hid (listEq_bad hlt hky he)
                          generalize x.pa[k4] = p at *
                          generalize y.pa[k4] = q at *
                          by_cases e0 : p.distance = q.distance
                          · skip
                            by_cases e1 : p.height = q.height
                            · skip
                              exact absurd (by cases p; cases q; simp_all) he
                            · skip
                              have f1 : (p.height == q.height) = false := by rw [beq_eq_false_iff_ne]; exact e1
                              rw [← e0] at hd0
                              clear e0 e1 he
                              go_wp2
                              go_quiet (fail)
                              go_wp2
                              go_ret
                              exact ⟨ret_bool (deskEq_bad4 HB.out).symm, hB.trans ((show Below V2.heap.size V2 _ from (by repeat (first | exact Below.refl _ _ | assumption | refine Below.alloc ?_ (by first | omega | (simp <;> omega)) _ | refine Below.setCell ?_ (by first | (show _ ≤ _; omega) | (simp <;> omega)) _ | refine Below.drew ?_ | refine below_drewN ?_ _))).mono hB.size)⟩
                          · skip
                            have f0 : (p.distance == q.distance) = false := by rw [beq_eq_false_iff_ne]; exact e0
                            clear e0 he
                            go_wp2
                            go_quiet (fail)
                            go_wp2
                            go_ret
                            exact ⟨ret_bool (deskEq_bad4 HB.out).symm, hB.trans ((show Below V2.heap.size V2 _ from (by repeat (first | exact Below.refl _ _ | assumption | refine Below.alloc ?_ (by first | omega | (simp <;> omega)) _ | refine Below.setCell ?_ (by first | (show _ ≤ _; omega) | (simp <;> omega)) _ | refine Below.drew ?_ | refine below_drewN ?_ _))).mono hB.size)⟩
                      · skip
                        have H4 := Lib.hid (show x.pa = y.pa from listEq_full (by omega) (by have := hl4.out; omega) HE.out)
                        clear HE
                        go_wp2
                        clear hx4 hy4 ca6 cb6 e4 hl4 hk hlt
                        go_loopw [9] (fun i wr => ∃ k : Nat, k ≤ x.ve.length ∧ i = .int .i64 k ∧ Hid (x.ve.take k = y.ve.take k) ∧ ∃ n, wr = V2.drewN n) (fun i _ => x.ve.length - (intOf i).toNat)
                        case atStart => exact ⟨0, Nat.zero_le _, rfl, rfl, _, rfl⟩
                        case round =>
                          obtain ⟨k7, hk, rfl, HE, n7, rfl⟩ := hrel
                          by_cases hlt : k7 < x.ve.length
                          · have hky : k7 < y.ve.length := by have := hl7.out; omega
                            obtain ⟨b, off, rfl, _, hok, hc, _⟩ := hx7.at_ hlt
                            obtain ⟨b', off', rfl, _, hok', hd, _⟩ := hy7.at_ hky
                            have hc0 : V2.cell? ⟨b, off + k7 * 3, none⟩ = some (.int .i64 x.ve[k7].day) := hc 0 (by decide)
                            have hd0 : V2.cell? ⟨b', off' + k7 * 3, none⟩ = some (.int .i64 y.ve[k7].day) := hd 0 (by decide)
                            have hc1 : V2.cell? ⟨b, off + k7 * 3 + 1, none⟩ = some (.int .i64 x.ve[k7].told) := hc 1 (by decide)
                            have hd1 : V2.cell? ⟨b', off' + k7 * 3 + 1, none⟩ = some (.int .i64 y.ve[k7].told) := hd 1 (by decide)
                            have hc2 : V2.cell? ⟨b, off + k7 * 3 + 2, none⟩ = some (.int .i64 x.ve[k7].seen) := hc 2 (by decide)
                            have hd2 : V2.cell? ⟨b', off' + k7 * 3 + 2, none⟩ = some (.int .i64 y.ve[k7].seen) := hd 2 (by decide)
                            clear hc hd hok hok'
                            by_cases he : x.ve[k7] = y.ve[k7]
                            · rw [← he] at hd0 hd1 hd2
                              have HS := Lib.hid (listEq_step hlt hky HE.out he)
                              clear he
                              go_wp2
                              go_quiet (fail)
                              go_wp2
                              go_roundw
                              case rel => exact ⟨k7 + 1, by omega, by go_num, HS, _, rfl⟩
                              case measure => simp [intOf]; omega
                            · have HB := Lib.hid (listEq_bad hlt hky he)
                              generalize x.ve[k7] = p at *
                              generalize y.ve[k7] = q at *
                              by_cases e0 : p.day = q.day
                              · skip
                                by_cases e1 : p.told = q.told
                                · skip
                                  by_cases e2 : p.seen = q.seen
                                  · skip
                                    exact absurd (by cases p; cases q; simp_all) he
                                  · skip
                                    have f2 : (p.seen == q.seen) = false := by rw [beq_eq_false_iff_ne]; exact e2
                                    rw [← e0] at hd0
                                    rw [← e1] at hd1
                                    clear e0 e1 e2 he
                                    go_wp2
                                    go_quiet (fail)
                                    go_wp2
                                    go_ret
                                    exact ⟨ret_bool (deskEq_bad7 HB.out).symm, hB.trans ((show Below V2.heap.size V2 _ from (by repeat (first | exact Below.refl _ _ | assumption | refine Below.alloc ?_ (by first | omega | (simp <;> omega)) _ | refine Below.setCell ?_ (by first | (show _ ≤ _; omega) | (simp <;> omega)) _ | refine Below.drew ?_ | refine below_drewN ?_ _))).mono hB.size)⟩
                                · skip
                                  have f1 : (p.told == q.told) = false := by rw [beq_eq_false_iff_ne]; exact e1
                                  rw [← e0] at hd0
                                  clear e0 e1 he
                                  go_wp2
                                  go_quiet (fail)
                                  go_wp2
                                  go_ret
                                  exact ⟨ret_bool (deskEq_bad7 HB.out).symm, hB.trans ((show Below V2.heap.size V2 _ from (by repeat (first | exact Below.refl _ _ | assumption | refine Below.alloc ?_ (by first | omega | (simp <;> omega)) _ | refine Below.setCell ?_ (by first | (show _ ≤ _; omega) | (simp <;> omega)) _ | refine Below.drew ?_ | refine below_drewN ?_ _))).mono hB.size)⟩
                              · skip
                                have f0 : (p.day == q.day) = false := by rw [beq_eq_false_iff_ne]; exact e0
                                clear e0 he
                                go_wp2
                                go_quiet (fail)
                                go_wp2
                                go_ret
                                exact ⟨ret_bool (deskEq_bad7 HB.out).symm, hB.trans ((show Below V2.heap.size V2 _ from (by repeat (first | exact Below.refl _ _ | assumption | refine Below.alloc ?_ (by first | omega | (simp <;> omega)) _ | refine Below.setCell ?_ (by first | (show _ ≤ _; omega) | (simp <;> omega)) _ | refine Below.drew ?_ | refine below_drewN ?_ _))).mono hB.size)⟩
                          · skip
                            have H7 := Lib.hid (show x.ve = y.ve from listEq_full (by omega) (by have := hl7.out; omega) HE.out)
                            clear HE
                            go_wp2
                            clear hx7 hy7 ca9 cb9 e7 hl7 hk hlt
                            go_loopw [10] (fun i wr => ∃ k : Nat, k ≤ x.sh.length ∧ i = .int .i64 k ∧ Hid (x.sh.take k = y.sh.take k) ∧ ∃ n, wr = V2.drewN n) (fun i _ => x.sh.length - (intOf i).toNat)
                            case atStart => exact ⟨0, Nat.zero_le _, rfl, rfl, _, rfl⟩
                            case round =>
                              obtain ⟨k8, hk, rfl, HE, n8, rfl⟩ := hrel
                              by_cases hlt : k8 < x.sh.length
                              · have hky : k8 < y.sh.length := by have := hl8.out; omega
                                obtain ⟨b, off, rfl, _, hok, hc, _⟩ := hx8.at_ hlt
                                obtain ⟨b', off', rfl, _, hok', hd, _⟩ := hy8.at_ hky
                                have hc0 : V2.cell? ⟨b, off + k8 * 5, none⟩ = some (.string x.sh[k8].id) := hc 0 (by decide)
                                have hd0 : V2.cell? ⟨b', off' + k8 * 5, none⟩ = some (.string y.sh[k8].id) := hd 0 (by decide)
                                have hc1 : V2.cell? ⟨b, off + k8 * 5 + 1, none⟩ = some (.int .i64 x.sh[k8].from_) := hc 1 (by decide)
                                have hd1 : V2.cell? ⟨b', off' + k8 * 5 + 1, none⟩ = some (.int .i64 y.sh[k8].from_) := hd 1 (by decide)
                                have hc2 : V2.cell? ⟨b, off + k8 * 5 + 2, none⟩ = some (.int .i64 x.sh[k8].until_) := hc 2 (by decide)
                                have hd2 : V2.cell? ⟨b', off' + k8 * 5 + 2, none⟩ = some (.int .i64 y.sh[k8].until_) := hd 2 (by decide)
                                have hc3 : V2.cell? ⟨b, off + k8 * 5 + 3, none⟩ = some (.int .i64 x.sh[k8].minutes) := hc 3 (by decide)
                                have hd3 : V2.cell? ⟨b', off' + k8 * 5 + 3, none⟩ = some (.int .i64 y.sh[k8].minutes) := hd 3 (by decide)
                                have hc4 : V2.cell? ⟨b, off + k8 * 5 + 4, none⟩ = some (.int .i64 x.sh[k8].gain) := hc 4 (by decide)
                                have hd4 : V2.cell? ⟨b', off' + k8 * 5 + 4, none⟩ = some (.int .i64 y.sh[k8].gain) := hd 4 (by decide)
                                clear hc hd hok hok'
                                by_cases he : x.sh[k8] = y.sh[k8]
                                · rw [← he] at hd0 hd1 hd2 hd3 hd4
                                  have HS := Lib.hid (listEq_step hlt hky HE.out he)
                                  clear he
                                  go_wp2
                                  go_quiet (fail)
                                  go_wp2
                                  go_roundw
                                  case rel => exact ⟨k8 + 1, by omega, by go_num, HS, _, rfl⟩
                                  case measure => simp [intOf]; omega
                                · have HB := Lib.hid (listEq_bad hlt hky he)
                                  generalize x.sh[k8] = p at *
                                  generalize y.sh[k8] = q at *
                                  by_cases e0 : p.id = q.id
                                  · skip
                                    by_cases e1 : p.from_ = q.from_
                                    · skip
                                      by_cases e2 : p.until_ = q.until_
                                      · skip
                                        by_cases e3 : p.minutes = q.minutes
                                        · skip
                                          by_cases e4 : p.gain = q.gain
                                          · skip
                                            exact absurd (by cases p; cases q; simp_all) he
                                          · skip
                                            have f4 : (p.gain == q.gain) = false := by rw [beq_eq_false_iff_ne]; exact e4
                                            rw [← e0] at hd0
                                            rw [← e1] at hd1
                                            rw [← e2] at hd2
                                            rw [← e3] at hd3
                                            clear e0 e1 e2 e3 e4 he
                                            go_wp2
                                            go_quiet (fail)
                                            go_wp2
                                            go_ret
                                            exact ⟨ret_bool (deskEq_bad8 HB.out).symm, hB.trans ((show Below V2.heap.size V2 _ from (by repeat (first | exact Below.refl _ _ | assumption | refine Below.alloc ?_ (by first | omega | (simp <;> omega)) _ | refine Below.setCell ?_ (by first | (show _ ≤ _; omega) | (simp <;> omega)) _ | refine Below.drew ?_ | refine below_drewN ?_ _))).mono hB.size)⟩
                                        · skip
                                          have f3 : (p.minutes == q.minutes) = false := by rw [beq_eq_false_iff_ne]; exact e3
                                          rw [← e0] at hd0
                                          rw [← e1] at hd1
                                          rw [← e2] at hd2
                                          clear e0 e1 e2 e3 he
                                          go_wp2
                                          go_quiet (fail)
                                          go_wp2
                                          go_ret
                                          exact ⟨ret_bool (deskEq_bad8 HB.out).symm, hB.trans ((show Below V2.heap.size V2 _ from (by repeat (first | exact Below.refl _ _ | assumption | refine Below.alloc ?_ (by first | omega | (simp <;> omega)) _ | refine Below.setCell ?_ (by first | (show _ ≤ _; omega) | (simp <;> omega)) _ | refine Below.drew ?_ | refine below_drewN ?_ _))).mono hB.size)⟩
                                      · skip
                                        have f2 : (p.until_ == q.until_) = false := by rw [beq_eq_false_iff_ne]; exact e2
                                        rw [← e0] at hd0
                                        rw [← e1] at hd1
                                        clear e0 e1 e2 he
                                        go_wp2
                                        go_quiet (fail)
                                        go_wp2
                                        go_ret
                                        exact ⟨ret_bool (deskEq_bad8 HB.out).symm, hB.trans ((show Below V2.heap.size V2 _ from (by repeat (first | exact Below.refl _ _ | assumption | refine Below.alloc ?_ (by first | omega | (simp <;> omega)) _ | refine Below.setCell ?_ (by first | (show _ ≤ _; omega) | (simp <;> omega)) _ | refine Below.drew ?_ | refine below_drewN ?_ _))).mono hB.size)⟩
                                    · skip
                                      have f1 : (p.from_ == q.from_) = false := by rw [beq_eq_false_iff_ne]; exact e1
                                      rw [← e0] at hd0
                                      clear e0 e1 he
                                      go_wp2
                                      go_quiet (fail)
                                      go_wp2
                                      go_ret
                                      exact ⟨ret_bool (deskEq_bad8 HB.out).symm, hB.trans ((show Below V2.heap.size V2 _ from (by repeat (first | exact Below.refl _ _ | assumption | refine Below.alloc ?_ (by first | omega | (simp <;> omega)) _ | refine Below.setCell ?_ (by first | (show _ ≤ _; omega) | (simp <;> omega)) _ | refine Below.drew ?_ | refine below_drewN ?_ _))).mono hB.size)⟩
                                  · skip
                                    have f0 := bytes_beq_false e0
                                    clear e0 he
                                    go_wp2
                                    go_quiet (fail)
                                    go_wp2
                                    go_ret
                                    exact ⟨ret_bool (deskEq_bad8 HB.out).symm, hB.trans ((show Below V2.heap.size V2 _ from (by repeat (first | exact Below.refl _ _ | assumption | refine Below.alloc ?_ (by first | omega | (simp <;> omega)) _ | refine Below.setCell ?_ (by first | (show _ ≤ _; omega) | (simp <;> omega)) _ | refine Below.drew ?_ | refine below_drewN ?_ _))).mono hB.size)⟩
                              · skip
                                have H8 := Lib.hid (show x.sh = y.sh from listEq_full (by omega) (by have := hl8.out; omega) HE.out)
                                clear HE
                                go_wp2
                                clear hx8 hy8 ca10 cb10 e8 hl8 hk hlt
                                go_loopw [11] (fun i wr => ∃ k : Nat, k ≤ x.gr.length ∧ i = .int .i64 k ∧ Hid (x.gr.take k = y.gr.take k) ∧ ∃ n, wr = V2.drewN n) (fun i _ => x.gr.length - (intOf i).toNat)
                                case atStart => exact ⟨0, Nat.zero_le _, rfl, rfl, _, rfl⟩
                                case round =>
                                  obtain ⟨k9, hk, rfl, HE, n9, rfl⟩ := hrel
                                  by_cases hlt : k9 < x.gr.length
                                  · have hky : k9 < y.gr.length := by have := hl9.out; omega
                                    obtain ⟨b, off, rfl, _, hok, hc, _⟩ := hx9.at_ hlt
                                    obtain ⟨b', off', rfl, _, hok', hd, _⟩ := hy9.at_ hky
                                    have hc0 : V2.cell? ⟨b, off + k9 * 7, none⟩ = some (.string x.gr[k9].id) := hc 0 (by decide)
                                    have hd0 : V2.cell? ⟨b', off' + k9 * 7, none⟩ = some (.string y.gr[k9].id) := hd 0 (by decide)
                                    have hc1 : V2.cell? ⟨b, off + k9 * 7 + 1, none⟩ = some (.int .i64 x.gr[k9].people) := hc 1 (by decide)
                                    have hd1 : V2.cell? ⟨b', off' + k9 * 7 + 1, none⟩ = some (.int .i64 y.gr[k9].people) := hd 1 (by decide)
                                    have hc2 : V2.cell? ⟨b, off + k9 * 7 + 2, none⟩ = some (.int .i64 x.gr[k9].guides) := hc 2 (by decide)
                                    have hd2 : V2.cell? ⟨b', off' + k9 * 7 + 2, none⟩ = some (.int .i64 y.gr[k9].guides) := hd 2 (by decide)
                                    have hc3 : V2.cell? ⟨b, off + k9 * 7 + 3, none⟩ = some (.int .i64 x.gr[k9].beacons) := hc 3 (by decide)
                                    have hd3 : V2.cell? ⟨b', off' + k9 * 7 + 3, none⟩ = some (.int .i64 y.gr[k9].beacons) := hd 3 (by decide)
                                    have hc4 : V2.cell? ⟨b, off + k9 * 7 + 4, none⟩ = some (.int .i64 x.gr[k9].shovels) := hc 4 (by decide)
                                    have hd4 : V2.cell? ⟨b', off' + k9 * 7 + 4, none⟩ = some (.int .i64 y.gr[k9].shovels) := hd 4 (by decide)
                                    have hc5 : V2.cell? ⟨b, off + k9 * 7 + 5, none⟩ = some (.int .i64 x.gr[k9].probes) := hc 5 (by decide)
                                    have hd5 : V2.cell? ⟨b', off' + k9 * 7 + 5, none⟩ = some (.int .i64 y.gr[k9].probes) := hd 5 (by decide)
                                    have hc6 : V2.cell? ⟨b, off + k9 * 7 + 6, none⟩ = some (.int .i64 x.gr[k9].skill) := hc 6 (by decide)
                                    have hd6 : V2.cell? ⟨b', off' + k9 * 7 + 6, none⟩ = some (.int .i64 y.gr[k9].skill) := hd 6 (by decide)
                                    clear hc hd hok hok'
                                    by_cases he : x.gr[k9] = y.gr[k9]
                                    · rw [← he] at hd0 hd1 hd2 hd3 hd4 hd5 hd6
                                      have HS := Lib.hid (listEq_step hlt hky HE.out he)
                                      clear he
                                      go_wp2
                                      go_quiet (fail)
                                      go_wp2
                                      go_roundw
                                      case rel => exact ⟨k9 + 1, by omega, by go_num, HS, _, rfl⟩
                                      case measure => simp [intOf]; omega
                                    · have HB := Lib.hid (listEq_bad hlt hky he)
                                      generalize x.gr[k9] = p at *
                                      generalize y.gr[k9] = q at *
                                      by_cases e0 : p.id = q.id
                                      · skip
                                        by_cases e1 : p.people = q.people
                                        · skip
                                          by_cases e2 : p.guides = q.guides
                                          · skip
                                            by_cases e3 : p.beacons = q.beacons
                                            · skip
                                              by_cases e4 : p.shovels = q.shovels
                                              · skip
                                                by_cases e5 : p.probes = q.probes
                                                · skip
                                                  by_cases e6 : p.skill = q.skill
                                                  · skip
                                                    exact absurd (by cases p; cases q; simp_all) he
                                                  · skip
                                                    have f6 : (p.skill == q.skill) = false := by rw [beq_eq_false_iff_ne]; exact e6
                                                    rw [← e0] at hd0
                                                    rw [← e1] at hd1
                                                    rw [← e2] at hd2
                                                    rw [← e3] at hd3
                                                    rw [← e4] at hd4
                                                    rw [← e5] at hd5
                                                    clear e0 e1 e2 e3 e4 e5 e6 he
                                                    go_wp2
                                                    go_quiet (fail)
                                                    go_wp2
                                                    go_ret
                                                    exact ⟨ret_bool (deskEq_bad9 HB.out).symm, hB.trans ((show Below V2.heap.size V2 _ from (by repeat (first | exact Below.refl _ _ | assumption | refine Below.alloc ?_ (by first | omega | (simp <;> omega)) _ | refine Below.setCell ?_ (by first | (show _ ≤ _; omega) | (simp <;> omega)) _ | refine Below.drew ?_ | refine below_drewN ?_ _))).mono hB.size)⟩
                                                · skip
                                                  have f5 : (p.probes == q.probes) = false := by rw [beq_eq_false_iff_ne]; exact e5
                                                  rw [← e0] at hd0
                                                  rw [← e1] at hd1
                                                  rw [← e2] at hd2
                                                  rw [← e3] at hd3
                                                  rw [← e4] at hd4
                                                  clear e0 e1 e2 e3 e4 e5 he
                                                  go_wp2
                                                  go_quiet (fail)
                                                  go_wp2
                                                  go_ret
                                                  exact ⟨ret_bool (deskEq_bad9 HB.out).symm, hB.trans ((show Below V2.heap.size V2 _ from (by repeat (first | exact Below.refl _ _ | assumption | refine Below.alloc ?_ (by first | omega | (simp <;> omega)) _ | refine Below.setCell ?_ (by first | (show _ ≤ _; omega) | (simp <;> omega)) _ | refine Below.drew ?_ | refine below_drewN ?_ _))).mono hB.size)⟩
                                              · skip
                                                have f4 : (p.shovels == q.shovels) = false := by rw [beq_eq_false_iff_ne]; exact e4
                                                rw [← e0] at hd0
                                                rw [← e1] at hd1
                                                rw [← e2] at hd2
                                                rw [← e3] at hd3
                                                clear e0 e1 e2 e3 e4 he
                                                go_wp2
                                                go_quiet (fail)
                                                go_wp2
                                                go_ret
                                                exact ⟨ret_bool (deskEq_bad9 HB.out).symm, hB.trans ((show Below V2.heap.size V2 _ from (by repeat (first | exact Below.refl _ _ | assumption | refine Below.alloc ?_ (by first | omega | (simp <;> omega)) _ | refine Below.setCell ?_ (by first | (show _ ≤ _; omega) | (simp <;> omega)) _ | refine Below.drew ?_ | refine below_drewN ?_ _))).mono hB.size)⟩
                                            · skip
                                              have f3 : (p.beacons == q.beacons) = false := by rw [beq_eq_false_iff_ne]; exact e3
                                              rw [← e0] at hd0
                                              rw [← e1] at hd1
                                              rw [← e2] at hd2
                                              clear e0 e1 e2 e3 he
                                              go_wp2
                                              go_quiet (fail)
                                              go_wp2
                                              go_ret
                                              exact ⟨ret_bool (deskEq_bad9 HB.out).symm, hB.trans ((show Below V2.heap.size V2 _ from (by repeat (first | exact Below.refl _ _ | assumption | refine Below.alloc ?_ (by first | omega | (simp <;> omega)) _ | refine Below.setCell ?_ (by first | (show _ ≤ _; omega) | (simp <;> omega)) _ | refine Below.drew ?_ | refine below_drewN ?_ _))).mono hB.size)⟩
                                          · skip
                                            have f2 : (p.guides == q.guides) = false := by rw [beq_eq_false_iff_ne]; exact e2
                                            rw [← e0] at hd0
                                            rw [← e1] at hd1
                                            clear e0 e1 e2 he
                                            go_wp2
                                            go_quiet (fail)
                                            go_wp2
                                            go_ret
                                            exact ⟨ret_bool (deskEq_bad9 HB.out).symm, hB.trans ((show Below V2.heap.size V2 _ from (by repeat (first | exact Below.refl _ _ | assumption | refine Below.alloc ?_ (by first | omega | (simp <;> omega)) _ | refine Below.setCell ?_ (by first | (show _ ≤ _; omega) | (simp <;> omega)) _ | refine Below.drew ?_ | refine below_drewN ?_ _))).mono hB.size)⟩
                                        · skip
                                          have f1 : (p.people == q.people) = false := by rw [beq_eq_false_iff_ne]; exact e1
                                          rw [← e0] at hd0
                                          clear e0 e1 he
                                          go_wp2
                                          go_quiet (fail)
                                          go_wp2
                                          go_ret
                                          exact ⟨ret_bool (deskEq_bad9 HB.out).symm, hB.trans ((show Below V2.heap.size V2 _ from (by repeat (first | exact Below.refl _ _ | assumption | refine Below.alloc ?_ (by first | omega | (simp <;> omega)) _ | refine Below.setCell ?_ (by first | (show _ ≤ _; omega) | (simp <;> omega)) _ | refine Below.drew ?_ | refine below_drewN ?_ _))).mono hB.size)⟩
                                      · skip
                                        have f0 := bytes_beq_false e0
                                        clear e0 he
                                        go_wp2
                                        go_quiet (fail)
                                        go_wp2
                                        go_ret
                                        exact ⟨ret_bool (deskEq_bad9 HB.out).symm, hB.trans ((show Below V2.heap.size V2 _ from (by repeat (first | exact Below.refl _ _ | assumption | refine Below.alloc ?_ (by first | omega | (simp <;> omega)) _ | refine Below.setCell ?_ (by first | (show _ ≤ _; omega) | (simp <;> omega)) _ | refine Below.drew ?_ | refine below_drewN ?_ _))).mono hB.size)⟩
                                  · skip
                                    have H9 := Lib.hid (show x.gr = y.gr from listEq_full (by omega) (by have := hl9.out; omega) HE.out)
                                    clear HE
                                    go_wp2
                                    clear hx9 hy9 ca11 cb11 e9 hl9 hk hlt
                                    go_loopw [12] (fun i wr => ∃ k : Nat, k ≤ x.wa.length ∧ i = .int .i64 k ∧ Hid (x.wa.take k = y.wa.take k) ∧ ∃ n, wr = V2.drewN n) (fun i _ => x.wa.length - (intOf i).toNat)
                                    case atStart => exact ⟨0, Nat.zero_le _, rfl, rfl, _, rfl⟩
                                    case round =>
                                      obtain ⟨k10, hk, rfl, HE, n10, rfl⟩ := hrel
                                      by_cases hlt : k10 < x.wa.length
                                      · have hky : k10 < y.wa.length := by have := hl10.out; omega
                                        obtain ⟨b, off, rfl, _, hok, hc, _⟩ := hx10.at_ hlt
                                        obtain ⟨b', off', rfl, _, hok', hd, _⟩ := hy10.at_ hky
                                        have hc0 : V2.cell? ⟨b, off + k10 * 4, none⟩ = some (.string x.wa[k10].person) := hc 0 (by decide)
                                        have hd0 : V2.cell? ⟨b', off' + k10 * 4, none⟩ = some (.string y.wa[k10].person) := hd 0 (by decide)
                                        have hc1 : V2.cell? ⟨b, off + k10 * 4 + 1, none⟩ = some (.int .i64 x.wa[k10].start) := hc 1 (by decide)
                                        have hd1 : V2.cell? ⟨b', off' + k10 * 4 + 1, none⟩ = some (.int .i64 y.wa[k10].start) := hd 1 (by decide)
                                        have hc2 : V2.cell? ⟨b, off + k10 * 4 + 2, none⟩ = some (.int .i64 x.wa[k10].hours) := hc 2 (by decide)
                                        have hd2 : V2.cell? ⟨b', off' + k10 * 4 + 2, none⟩ = some (.int .i64 y.wa[k10].hours) := hd 2 (by decide)
                                        have hc3 : V2.cell? ⟨b, off + k10 * 4 + 3, none⟩ = some (.bool x.wa[k10].onCall) := hc 3 (by decide)
                                        have hd3 : V2.cell? ⟨b', off' + k10 * 4 + 3, none⟩ = some (.bool y.wa[k10].onCall) := hd 3 (by decide)
                                        clear hc hd hok hok'
                                        by_cases he : x.wa[k10] = y.wa[k10]
                                        · rw [← he] at hd0 hd1 hd2 hd3
                                          have HS := Lib.hid (listEq_step hlt hky HE.out he)
                                          clear he
                                          go_wp2
                                          go_quiet (fail)
                                          go_wp2
                                          go_roundw
                                          case rel => exact ⟨k10 + 1, by omega, by go_num, HS, _, rfl⟩
                                          case measure => simp [intOf]; omega
                                        · have HB := Lib.hid (listEq_bad hlt hky he)
                                          generalize x.wa[k10] = p at *
                                          generalize y.wa[k10] = q at *
                                          by_cases e0 : p.person = q.person
                                          · skip
                                            by_cases e1 : p.start = q.start
                                            · skip
                                              by_cases e2 : p.hours = q.hours
                                              · skip
                                                by_cases e3 : p.onCall = q.onCall
                                                · skip
                                                  exact absurd (by cases p; cases q; simp_all) he
                                                · skip
                                                  have f3 : (p.onCall == q.onCall) = false := by rw [beq_eq_false_iff_ne]; exact e3
                                                  rw [← e0] at hd0
                                                  rw [← e1] at hd1
                                                  rw [← e2] at hd2
                                                  clear e0 e1 e2 e3 he
                                                  go_wp2
                                                  go_quiet (fail)
                                                  go_wp2
                                                  go_ret
                                                  exact ⟨ret_bool (deskEq_bad10 HB.out).symm, hB.trans ((show Below V2.heap.size V2 _ from (by repeat (first | exact Below.refl _ _ | assumption | refine Below.alloc ?_ (by first | omega | (simp <;> omega)) _ | refine Below.setCell ?_ (by first | (show _ ≤ _; omega) | (simp <;> omega)) _ | refine Below.drew ?_ | refine below_drewN ?_ _))).mono hB.size)⟩
                                              · skip
                                                have f2 : (p.hours == q.hours) = false := by rw [beq_eq_false_iff_ne]; exact e2
                                                rw [← e0] at hd0
                                                rw [← e1] at hd1
                                                clear e0 e1 e2 he
                                                go_wp2
                                                go_quiet (fail)
                                                go_wp2
                                                go_ret
                                                exact ⟨ret_bool (deskEq_bad10 HB.out).symm, hB.trans ((show Below V2.heap.size V2 _ from (by repeat (first | exact Below.refl _ _ | assumption | refine Below.alloc ?_ (by first | omega | (simp <;> omega)) _ | refine Below.setCell ?_ (by first | (show _ ≤ _; omega) | (simp <;> omega)) _ | refine Below.drew ?_ | refine below_drewN ?_ _))).mono hB.size)⟩
                                            · skip
                                              have f1 : (p.start == q.start) = false := by rw [beq_eq_false_iff_ne]; exact e1
                                              rw [← e0] at hd0
                                              clear e0 e1 he
                                              go_wp2
                                              go_quiet (fail)
                                              go_wp2
                                              go_ret
                                              exact ⟨ret_bool (deskEq_bad10 HB.out).symm, hB.trans ((show Below V2.heap.size V2 _ from (by repeat (first | exact Below.refl _ _ | assumption | refine Below.alloc ?_ (by first | omega | (simp <;> omega)) _ | refine Below.setCell ?_ (by first | (show _ ≤ _; omega) | (simp <;> omega)) _ | refine Below.drew ?_ | refine below_drewN ?_ _))).mono hB.size)⟩
                                          · skip
                                            have f0 := bytes_beq_false e0
                                            clear e0 he
                                            go_wp2
                                            go_quiet (fail)
                                            go_wp2
                                            go_ret
                                            exact ⟨ret_bool (deskEq_bad10 HB.out).symm, hB.trans ((show Below V2.heap.size V2 _ from (by repeat (first | exact Below.refl _ _ | assumption | refine Below.alloc ?_ (by first | omega | (simp <;> omega)) _ | refine Below.setCell ?_ (by first | (show _ ≤ _; omega) | (simp <;> omega)) _ | refine Below.drew ?_ | refine below_drewN ?_ _))).mono hB.size)⟩
                                      · skip
                                        have H10 := Lib.hid (show x.wa = y.wa from listEq_full (by omega) (by have := hl10.out; omega) HE.out)
                                        clear HE
                                        go_wp2
                                        clear hx10 hy10 ca12 cb12 e10 hl10 hk hlt
                                        go_loopw [13] (fun i wr => ∃ k : Nat, k ≤ x.in_.length ∧ i = .int .i64 k ∧ Hid (x.in_.take k = y.in_.take k) ∧ ∃ n, wr = V2.drewN n) (fun i _ => x.in_.length - (intOf i).toNat)
                                        case atStart => exact ⟨0, Nat.zero_le _, rfl, rfl, _, rfl⟩
                                        case round =>
                                          obtain ⟨k11, hk, rfl, HE, n11, rfl⟩ := hrel
                                          by_cases hlt : k11 < x.in_.length
                                          · have hky : k11 < y.in_.length := by have := hl11.out; omega
                                            obtain ⟨b, off, rfl, _, hok, hc, _⟩ := hx11.at_ hlt
                                            obtain ⟨b', off', rfl, _, hok', hd, _⟩ := hy11.at_ hky
                                            have hc0 : V2.cell? ⟨b, off + k11 * 6, none⟩ = some (.int .i64 x.in_[k11].day) := hc 0 (by decide)
                                            have hd0 : V2.cell? ⟨b', off' + k11 * 6, none⟩ = some (.int .i64 y.in_[k11].day) := hd 0 (by decide)
                                            have hc1 : V2.cell? ⟨b, off + k11 * 6 + 1, none⟩ = some (.string x.in_[k11].place) := hc 1 (by decide)
                                            have hd1 : V2.cell? ⟨b', off' + k11 * 6 + 1, none⟩ = some (.string y.in_[k11].place) := hd 1 (by decide)
                                            have hc2 : V2.cell? ⟨b, off + k11 * 6 + 2, none⟩ = some (.string x.in_[k11].cause) := hc 2 (by decide)
                                            have hd2 : V2.cell? ⟨b', off' + k11 * 6 + 2, none⟩ = some (.string y.in_[k11].cause) := hd 2 (by decide)
                                            have hc3 : V2.cell? ⟨b, off + k11 * 6 + 3, none⟩ = some (.int .i64 x.in_[k11].level) := hc 3 (by decide)
                                            have hd3 : V2.cell? ⟨b', off' + k11 * 6 + 3, none⟩ = some (.int .i64 y.in_[k11].level) := hd 3 (by decide)
                                            have hc4 : V2.cell? ⟨b, off + k11 * 6 + 4, none⟩ = some (.int .i64 x.in_[k11].caught) := hc 4 (by decide)
                                            have hd4 : V2.cell? ⟨b', off' + k11 * 6 + 4, none⟩ = some (.int .i64 y.in_[k11].caught) := hd 4 (by decide)
                                            have hc5 : V2.cell? ⟨b, off + k11 * 6 + 5, none⟩ = some (.int .i64 x.in_[k11].buried) := hc 5 (by decide)
                                            have hd5 : V2.cell? ⟨b', off' + k11 * 6 + 5, none⟩ = some (.int .i64 y.in_[k11].buried) := hd 5 (by decide)
                                            clear hc hd hok hok'
                                            by_cases he : x.in_[k11] = y.in_[k11]
                                            · rw [← he] at hd0 hd1 hd2 hd3 hd4 hd5
                                              have HS := Lib.hid (listEq_step hlt hky HE.out he)
                                              clear he
                                              go_wp2
                                              go_quiet (fail)
                                              go_wp2
                                              go_roundw
                                              case rel => exact ⟨k11 + 1, by omega, by go_num, HS, _, rfl⟩
                                              case measure => simp [intOf]; omega
                                            · have HB := Lib.hid (listEq_bad hlt hky he)
                                              generalize x.in_[k11] = p at *
                                              generalize y.in_[k11] = q at *
                                              by_cases e0 : p.day = q.day
                                              · skip
                                                by_cases e1 : p.place = q.place
                                                · skip
                                                  by_cases e2 : p.cause = q.cause
                                                  · skip
                                                    by_cases e3 : p.level = q.level
                                                    · skip
                                                      by_cases e4 : p.caught = q.caught
                                                      · skip
                                                        by_cases e5 : p.buried = q.buried
                                                        · skip
                                                          exact absurd (by cases p; cases q; simp_all) he
                                                        · skip
                                                          have f5 : (p.buried == q.buried) = false := by rw [beq_eq_false_iff_ne]; exact e5
                                                          rw [← e0] at hd0
                                                          rw [← e1] at hd1
                                                          rw [← e2] at hd2
                                                          rw [← e3] at hd3
                                                          rw [← e4] at hd4
                                                          clear e0 e1 e2 e3 e4 e5 he
                                                          go_wp2
                                                          go_quiet (fail)
                                                          go_wp2
                                                          go_ret
                                                          exact ⟨ret_bool (deskEq_bad11 HB.out).symm, hB.trans ((show Below V2.heap.size V2 _ from (by repeat (first | exact Below.refl _ _ | assumption | refine Below.alloc ?_ (by first | omega | (simp <;> omega)) _ | refine Below.setCell ?_ (by first | (show _ ≤ _; omega) | (simp <;> omega)) _ | refine Below.drew ?_ | refine below_drewN ?_ _))).mono hB.size)⟩
                                                      · skip
                                                        have f4 : (p.caught == q.caught) = false := by rw [beq_eq_false_iff_ne]; exact e4
                                                        rw [← e0] at hd0
                                                        rw [← e1] at hd1
                                                        rw [← e2] at hd2
                                                        rw [← e3] at hd3
                                                        clear e0 e1 e2 e3 e4 he
                                                        go_wp2
                                                        go_quiet (fail)
                                                        go_wp2
                                                        go_ret
                                                        exact ⟨ret_bool (deskEq_bad11 HB.out).symm, hB.trans ((show Below V2.heap.size V2 _ from (by repeat (first | exact Below.refl _ _ | assumption | refine Below.alloc ?_ (by first | omega | (simp <;> omega)) _ | refine Below.setCell ?_ (by first | (show _ ≤ _; omega) | (simp <;> omega)) _ | refine Below.drew ?_ | refine below_drewN ?_ _))).mono hB.size)⟩
                                                    · skip
                                                      have f3 : (p.level == q.level) = false := by rw [beq_eq_false_iff_ne]; exact e3
                                                      rw [← e0] at hd0
                                                      rw [← e1] at hd1
                                                      rw [← e2] at hd2
                                                      clear e0 e1 e2 e3 he
                                                      go_wp2
                                                      go_quiet (fail)
                                                      go_wp2
                                                      go_ret
                                                      exact ⟨ret_bool (deskEq_bad11 HB.out).symm, hB.trans ((show Below V2.heap.size V2 _ from (by repeat (first | exact Below.refl _ _ | assumption | refine Below.alloc ?_ (by first | omega | (simp <;> omega)) _ | refine Below.setCell ?_ (by first | (show _ ≤ _; omega) | (simp <;> omega)) _ | refine Below.drew ?_ | refine below_drewN ?_ _))).mono hB.size)⟩
                                                  · skip
                                                    have f2 := bytes_beq_false e2
                                                    rw [← e0] at hd0
                                                    rw [← e1] at hd1
                                                    clear e0 e1 e2 he
                                                    go_wp2
                                                    go_quiet (fail)
                                                    go_wp2
                                                    go_ret
                                                    exact ⟨ret_bool (deskEq_bad11 HB.out).symm, hB.trans ((show Below V2.heap.size V2 _ from (by repeat (first | exact Below.refl _ _ | assumption | refine Below.alloc ?_ (by first | omega | (simp <;> omega)) _ | refine Below.setCell ?_ (by first | (show _ ≤ _; omega) | (simp <;> omega)) _ | refine Below.drew ?_ | refine below_drewN ?_ _))).mono hB.size)⟩
                                                · skip
                                                  have f1 := bytes_beq_false e1
                                                  rw [← e0] at hd0
                                                  clear e0 e1 he
                                                  go_wp2
                                                  go_quiet (fail)
                                                  go_wp2
                                                  go_ret
                                                  exact ⟨ret_bool (deskEq_bad11 HB.out).symm, hB.trans ((show Below V2.heap.size V2 _ from (by repeat (first | exact Below.refl _ _ | assumption | refine Below.alloc ?_ (by first | omega | (simp <;> omega)) _ | refine Below.setCell ?_ (by first | (show _ ≤ _; omega) | (simp <;> omega)) _ | refine Below.drew ?_ | refine below_drewN ?_ _))).mono hB.size)⟩
                                              · skip
                                                have f0 : (p.day == q.day) = false := by rw [beq_eq_false_iff_ne]; exact e0
                                                clear e0 he
                                                go_wp2
                                                go_quiet (fail)
                                                go_wp2
                                                go_ret
                                                exact ⟨ret_bool (deskEq_bad11 HB.out).symm, hB.trans ((show Below V2.heap.size V2 _ from (by repeat (first | exact Below.refl _ _ | assumption | refine Below.alloc ?_ (by first | omega | (simp <;> omega)) _ | refine Below.setCell ?_ (by first | (show _ ≤ _; omega) | (simp <;> omega)) _ | refine Below.drew ?_ | refine below_drewN ?_ _))).mono hB.size)⟩
                                          · skip
                                            have H11 := Lib.hid (show x.in_ = y.in_ from listEq_full (by omega) (by have := hl11.out; omega) HE.out)
                                            clear HE
                                            go_wp2
                                            clear hx11 hy11 ca13 cb13 e11 hl11 hk hlt
                                            go_ret
                                            exact ⟨ret_bool (deskEq_good H0.out h1.out H2.out H3.out H4.out h5.out h6.out H7.out H8.out H9.out H10.out H11.out).symm, hB.trans ((below_drewN (Below.refl _ _) _).mono hB.size)⟩
end Go.Proofs.Ythejcbhplgjmgaa
