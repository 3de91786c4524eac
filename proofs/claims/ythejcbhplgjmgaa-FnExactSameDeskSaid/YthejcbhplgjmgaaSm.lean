/- Two desks compared. Written by wip/gen/sm.py. -/
import Derived.Test.YthejcbhplgjmgaaDf
import Derived.Test.YthejcbhplgjmgaaSd
import Derived.Test.YthejcbhplgjmgaaSr
import Derived.Test.YthejcbhplgjmgaaEqObserved
import Derived.Test.YthejcbhplgjmgaaEqInt64
import Derived.Test.YthejcbhplgjmgaaEqTest
import Derived.Test.YthejcbhplgjmgaaEqStand
import Derived.Test.YthejcbhplgjmgaaEqPathPoint
import Derived.Test.YthejcbhplgjmgaaEqVerified
import Derived.Test.YthejcbhplgjmgaaEqShot
import Derived.Test.YthejcbhplgjmgaaEqGroup
import Derived.Test.YthejcbhplgjmgaaEqWatch
import Derived.Test.YthejcbhplgjmgaaEqIncident
namespace Go.Proofs.Ythejcbhplgjmgaa
open Go.RowKit
set_option linter.unusedVariables false

def deskEq (x y : DDesk) : Bool := decide (x.ob = y.ob) && (fieldEq x.rows x.columns y.rows y.columns x.ma y.ma && (decide (x.te = y.te) && (decide (x.st = y.st) && (decide (x.pa = y.pa) && (decide (x.zo = y.zo) && (decide (x.re = y.re) && (decide (x.ve = y.ve) && (decide (x.sh = y.sh) && (decide (x.gr = y.gr) && (decide (x.wa = y.wa) && (decide (x.in_ = y.in_))))))))))))
set_option maxRecDepth 100000 in
set_option maxHeartbeats 8000000 in
theorem implSameDesk_any (x y : DDesk) (va vb : DVals) (Fa Fb : Nat → List Nat) (w : World) (ha : DeskRd w va x Fa) (hb : DeskRd w vb y Fb) :
    Calls Try.prog 11 #[deskA va x, deskA vb y] w fun e w' => e = .returned (.bool (deskEq x y)) ∧ Below w.heap.size w w' := by
  have hB0 : Below w.heap.size w (w.alloc (.cells #[va.ob, .int .i64 x.rows, .int .i64 x.columns, va.ma, va.te, va.st, va.pa, va.zo, va.re, va.ve, va.sh, va.gr, va.wa, va.in_] 51)) := (Below.refl _ _).alloc (Nat.le_refl _) _
  have hB : Below w.heap.size w ((w.alloc (.cells #[va.ob, .int .i64 x.rows, .int .i64 x.columns, va.ma, va.te, va.st, va.pa, va.zo, va.re, va.ve, va.sh, va.gr, va.wa, va.in_] 51)).alloc (.cells #[vb.ob, .int .i64 y.rows, .int .i64 y.columns, vb.ma, vb.te, vb.st, vb.pa, vb.zo, vb.re, vb.ve, vb.sh, vb.gr, vb.wa, vb.in_] 51)) := hB0.alloc (by simp) _
  have pa := (DBox.new w va x 51).below' ((Below.refl _ _).alloc (Nat.le_refl _) (.cells #[vb.ob, .int .i64 y.rows, .int .i64 y.columns, vb.ma, vb.te, vb.st, vb.pa, vb.zo, vb.re, vb.ve, vb.sh, vb.gr, vb.wa, vb.in_] 51))
  have pb := DBox.new (w.alloc (.cells #[va.ob, .int .i64 x.rows, .int .i64 x.columns, va.ma, va.te, va.st, va.pa, va.zo, va.re, va.ve, va.sh, va.gr, va.wa, va.in_] 51)) vb y 51
  rw [World.size_alloc] at pb
  replace ha := ha.below' hB
  replace hb := hb.below' hB
  clear hB0
  unfold deskA
  go_enter Try.func11, Try.ntmps11
  try simp only [List.append_eq, List.cons_append, List.nil_append]
  go_wp2_with fail
  refine (sEqualObserved_any _ _ _ _ _ _ _ ha.ob hb.ob).mono ?_
  rintro e W0 ⟨rfl, hbn⟩
  replace ha := ha.below' hbn
  replace hb := hb.below' hbn
  replace pa := pa.below' hbn
  replace pb := pb.below' hbn
  replace hB := hB.trans (hbn.mono hB.size)
  clear hbn 
  cases h0 : decide (x.ob = y.ob)
  · have HV := Lib.hid (show deskEq x y = false from by unfold deskEq; rw [h0]; rfl)
    clear h0
    go_wp2
    go_ret
    exact ⟨ret_bool HV.out.symm, hB⟩
  · skip
    have ca1 := pa.c1
    have cb1 := pb.c1
    have ca2 := pa.c2
    have cb2 := pb.c2
    have ca3 := pa.c3
    have cb3 := pb.c3
    go_wp2_with fail
    refine (implSameField_any _ _ _ _ _ _ _ _ _ _ _ ha.ma hb.ma).mono ?_
    rintro e W1 ⟨rfl, hbn⟩
    replace ha := ha.below' hbn
    replace hb := hb.below' hbn
    replace pa := pa.below' hbn
    replace pb := pb.below' hbn
    replace hB := hB.trans (hbn.mono hB.size)
    clear hbn ca1 cb1 ca2 cb2 ca3 cb3
    cases h1 : fieldEq x.rows x.columns y.rows y.columns x.ma y.ma
    · have HV := Lib.hid (show deskEq x y = false from by unfold deskEq; rw [h0, h1]; rfl)
      clear h0 h1
      go_wp2
      go_ret
      exact ⟨ret_bool HV.out.symm, hB⟩
    · skip
      have ca4 := pa.c4
      have cb4 := pb.c4
      go_wp2_with fail
      refine (sEqualTest_any _ _ _ _ _ _ _ ha.te hb.te).mono ?_
      rintro e W2 ⟨rfl, hbn⟩
      replace ha := ha.below' hbn
      replace hb := hb.below' hbn
      replace pa := pa.below' hbn
      replace pb := pb.below' hbn
      replace hB := hB.trans (hbn.mono hB.size)
      clear hbn ca4 cb4
      cases h2 : decide (x.te = y.te)
      · have HV := Lib.hid (show deskEq x y = false from by unfold deskEq; rw [h0, h1, h2]; rfl)
        clear h0 h1 h2
        go_wp2
        go_ret
        exact ⟨ret_bool HV.out.symm, hB⟩
      · skip
        have ca5 := pa.c5
        have cb5 := pb.c5
        go_wp2_with fail
        refine (sEqualStand_any _ _ _ _ _ _ _ ha.st hb.st).mono ?_
        rintro e W3 ⟨rfl, hbn⟩
        replace ha := ha.below' hbn
        replace hb := hb.below' hbn
        replace pa := pa.below' hbn
        replace pb := pb.below' hbn
        replace hB := hB.trans (hbn.mono hB.size)
        clear hbn ca5 cb5
        cases h3 : decide (x.st = y.st)
        · have HV := Lib.hid (show deskEq x y = false from by unfold deskEq; rw [h0, h1, h2, h3]; rfl)
          clear h0 h1 h2 h3
          go_wp2
          go_ret
          exact ⟨ret_bool HV.out.symm, hB⟩
        · skip
          have ca6 := pa.c6
          have cb6 := pb.c6
          go_wp2_with fail
          refine (sEqualPathPoint_any _ _ _ _ _ _ _ ha.pa hb.pa).mono ?_
          rintro e W4 ⟨rfl, hbn⟩
          replace ha := ha.below' hbn
          replace hb := hb.below' hbn
          replace pa := pa.below' hbn
          replace pb := pb.below' hbn
          replace hB := hB.trans (hbn.mono hB.size)
          clear hbn ca6 cb6
          cases h4 : decide (x.pa = y.pa)
          · have HV := Lib.hid (show deskEq x y = false from by unfold deskEq; rw [h0, h1, h2, h3, h4]; rfl)
            clear h0 h1 h2 h3 h4
            go_wp2
            go_ret
            exact ⟨ret_bool HV.out.symm, hB⟩
          · skip
            have ca7 := pa.c7
            have cb7 := pb.c7
            go_wp2_with fail
            refine (sEqualInt64_any _ _ _ _ _ _ _ ha.zo hb.zo).mono ?_
            rintro e W5 ⟨rfl, hbn⟩
            replace ha := ha.below' hbn
            replace hb := hb.below' hbn
            replace pa := pa.below' hbn
            replace pb := pb.below' hbn
            replace hB := hB.trans (hbn.mono hB.size)
            clear hbn ca7 cb7
            cases h5 : decide (x.zo = y.zo)
            · have HV := Lib.hid (show deskEq x y = false from by unfold deskEq; rw [h0, h1, h2, h3, h4, h5]; rfl)
              clear h0 h1 h2 h3 h4 h5
              go_wp2
              go_ret
              exact ⟨ret_bool HV.out.symm, hB⟩
            · skip
              have ca8 := pa.c8
              have cb8 := pb.c8
              go_wp2_with fail
              refine (implSameRegions_any _ _ _ _ _ _ _ ha.re hb.re).mono ?_
              rintro e W6 ⟨rfl, hbn⟩
              replace ha := ha.below' hbn
              replace hb := hb.below' hbn
              replace pa := pa.below' hbn
              replace pb := pb.below' hbn
              replace hB := hB.trans (hbn.mono hB.size)
              clear hbn ca8 cb8
              cases h6 : decide (x.re = y.re)
              · have HV := Lib.hid (show deskEq x y = false from by unfold deskEq; rw [h0, h1, h2, h3, h4, h5, h6]; rfl)
                clear h0 h1 h2 h3 h4 h5 h6
                go_wp2
                go_ret
                exact ⟨ret_bool HV.out.symm, hB⟩
              · skip
                have ca9 := pa.c9
                have cb9 := pb.c9
                go_wp2_with fail
                refine (sEqualVerified_any _ _ _ _ _ _ _ ha.ve hb.ve).mono ?_
                rintro e W7 ⟨rfl, hbn⟩
                replace ha := ha.below' hbn
                replace hb := hb.below' hbn
                replace pa := pa.below' hbn
                replace pb := pb.below' hbn
                replace hB := hB.trans (hbn.mono hB.size)
                clear hbn ca9 cb9
                cases h7 : decide (x.ve = y.ve)
                · have HV := Lib.hid (show deskEq x y = false from by unfold deskEq; rw [h0, h1, h2, h3, h4, h5, h6, h7]; rfl)
                  clear h0 h1 h2 h3 h4 h5 h6 h7
                  go_wp2
                  go_ret
                  exact ⟨ret_bool HV.out.symm, hB⟩
                · skip
                  have ca10 := pa.c10
                  have cb10 := pb.c10
                  go_wp2_with fail
                  refine (sEqualShot_any _ _ _ _ _ _ _ ha.sh hb.sh).mono ?_
                  rintro e W8 ⟨rfl, hbn⟩
                  replace ha := ha.below' hbn
                  replace hb := hb.below' hbn
                  replace pa := pa.below' hbn
                  replace pb := pb.below' hbn
                  replace hB := hB.trans (hbn.mono hB.size)
                  clear hbn ca10 cb10
                  cases h8 : decide (x.sh = y.sh)
                  · have HV := Lib.hid (show deskEq x y = false from by unfold deskEq; rw [h0, h1, h2, h3, h4, h5, h6, h7, h8]; rfl)
                    clear h0 h1 h2 h3 h4 h5 h6 h7 h8
                    go_wp2
                    go_ret
                    exact ⟨ret_bool HV.out.symm, hB⟩
                  · skip
                    have ca11 := pa.c11
                    have cb11 := pb.c11
                    go_wp2_with fail
                    refine (sEqualGroup_any _ _ _ _ _ _ _ ha.gr hb.gr).mono ?_
                    rintro e W9 ⟨rfl, hbn⟩
                    replace ha := ha.below' hbn
                    replace hb := hb.below' hbn
                    replace pa := pa.below' hbn
                    replace pb := pb.below' hbn
                    replace hB := hB.trans (hbn.mono hB.size)
                    clear hbn ca11 cb11
                    cases h9 : decide (x.gr = y.gr)
                    · have HV := Lib.hid (show deskEq x y = false from by unfold deskEq; rw [h0, h1, h2, h3, h4, h5, h6, h7, h8, h9]; rfl)
                      clear h0 h1 h2 h3 h4 h5 h6 h7 h8 h9
                      go_wp2
                      go_ret
                      exact ⟨ret_bool HV.out.symm, hB⟩
                    · skip
                      have ca12 := pa.c12
                      have cb12 := pb.c12
                      go_wp2_with fail
                      refine (sEqualWatch_any _ _ _ _ _ _ _ ha.wa hb.wa).mono ?_
                      rintro e W10 ⟨rfl, hbn⟩
                      replace ha := ha.below' hbn
                      replace hb := hb.below' hbn
                      replace pa := pa.below' hbn
                      replace pb := pb.below' hbn
                      replace hB := hB.trans (hbn.mono hB.size)
                      clear hbn ca12 cb12
                      cases h10 : decide (x.wa = y.wa)
                      · have HV := Lib.hid (show deskEq x y = false from by unfold deskEq; rw [h0, h1, h2, h3, h4, h5, h6, h7, h8, h9, h10]; rfl)
                        clear h0 h1 h2 h3 h4 h5 h6 h7 h8 h9 h10
                        go_wp2
                        go_ret
                        exact ⟨ret_bool HV.out.symm, hB⟩
                      · skip
                        have ca13 := pa.c13
                        have cb13 := pb.c13
                        go_wp2_with fail
                        refine (sEqualIncident_any _ _ _ _ _ _ _ ha.in_ hb.in_).mono ?_
                        rintro e W11 ⟨rfl, hbn⟩
                        replace ha := ha.below' hbn
                        replace hb := hb.below' hbn
                        replace pa := pa.below' hbn
                        replace pb := pb.below' hbn
                        replace hB := hB.trans (hbn.mono hB.size)
                        clear hbn ca13 cb13
                        have HV := Lib.hid (show deskEq x y = decide (x.in_ = y.in_) from by unfold deskEq; rw [h0, h1, h2, h3, h4, h5, h6, h7, h8, h9, h10]; rfl)
                        go_wp2
                        go_ret
                        exact ⟨ret_bool HV.out.symm, hB⟩
end Go.Proofs.Ythejcbhplgjmgaa
