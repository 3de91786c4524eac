/- The walk of FnExactReadIncident, written by wip/gen/wread.py. -/
import Derived.Test.YtaaholabodchaaaDoorRi
import Derived.Test.YtaaholabodchaaaDoorPIncident
namespace Go.Proofs.YtaaholabodchaaaDoor
open Go.RowKit
set_option linter.unusedVariables false

set_option maxRecDepth 100000 in
set_option maxHeartbeats 4000000 in
theorem specReadIncident_any (s : ByteArray) (w : World) (hs : s.size ≤ 1048576) :
    Calls Tryd.prog 8 #[.string s] w fun e w' => IRet s e ∧ Below w.heap.size w w' := by
  unfold IRet
  go_enter Tryd.func8, Tryd.ntmps8
  go_wp2_with fail
  refine (l28Read_any s _ hs).mono ?_
  rintro e w1 ⟨hr, hb1⟩
  unfold IRet at hr
  subst hr
  have hX6 : BoxI w1 w.heap.size := (BoxI.new w _).below hb1 (by simp)
  have hB1 : Below w.heap.size w w1 := ((Below.refl _ _).alloc (Nat.le_refl _) _).trans (hb1.mono (by simp))
  clear hb1
  obtain ⟨d0, d1, d2, d3, d4, d5, z0, z1, z2, z3, z4, z5⟩ := hX6
  generalize hx : ((riF s).getD n00) = x
  generalize hbb : ((riF s).isSome) = b
  have HX := Lib.hid hx
  have HBB := Lib.hid hbb
  clear hx hbb
  unfold iAg
  go_wp2
  exact bodyPost_ret (v := .tuple #[.agg #[.int .i64 x.day, .string x.place, .string x.cause, .int .i64 x.level, .int .i64 x.caught, .int .i64 x.buried], .bool b]) (by simp [results, hit_cellV, d0, d1, d2, d3, d4, d5, Tryd.results8, go_sem]) rfl ⟨by rw [HX.out, HBB.out]; rfl, by (repeat (refine Below.setCell ?_ (by first | exact Nat.le_refl _ | (show _ ≤ _; omega)) _)); assumption⟩

set_option maxRecDepth 100000 in
set_option maxHeartbeats 4000000 in
theorem walkReadIncident (a0 : ByteArray) (w : World) (hsz0 : a0.size ≤ maxLen) (hsh : w.ShapedOpen Tryd.prog) (htab : RdTabs w) :
    Calls Tryd.prog 4 #[.string a0] w fun e w' => YesR w e w' := by
  replace hsz0 : a0.size ≤ 9223372036854775807 := by unfold maxLen at hsz0; exact hsz0
  obtain ⟨m, hm⟩ := maxLen_cell hsh
  go_enter Tryd.func4, Tryd.ntmps4
  by_cases hbig0 : (1048576 : Int) < (a0.size : Int)
  · go_wp2
    go_ret
    exact ⟨rfl, Below.refl _ _⟩
  · have hlt0 : a0.size ≤ 1048576 := by omega
    go_wp2_with fail
    refine (specReadIncident_any a0 _ hlt0).mono ?_
    rintro e w1 ⟨hr, hb1⟩
    unfold IRet at hr
    subst hr
    have HR := Lib.hid (fun (e : Ending) (h : IRet a0 e) => show e = .returned (.tuple #[iAg ((riF a0).getD n00), .bool ((riF a0).isSome)]) from h)
    generalize ((riF a0).getD n00) = x at *
    generalize ((riF a0).isSome) = b at *
    unfold iAg at *
    have hbx := hb1.trans (((Below.refl w1.heap.size w1).alloc (Nat.le_refl _) (.cells #[.int .i64 x.day, .string x.place, .string x.cause, .int .i64 x.level, .int .i64 x.caught, .int .i64 x.buried] 29)).mono hb1.size)
    have hp := PIncident.box w1 x 29
    go_wp2_with fail
    generalize w1.alloc (.cells #[.int .i64 x.day, .string x.place, .string x.cause, .int .i64 x.level, .int .i64 x.caught, .int .i64 x.buried] 29) = w2 at *
    have hs1 := hb1.size
    refine (implReadIncident_any a0 m _ hlt0 (cell_below hbx hm) (htab.below hbx)).mono ?_
    rintro e w3 ⟨hr, hb3⟩
    have he := HR.out e hr
    subst he
    have hp3 := hp.below' hb3
    have hB3 := hbx.trans (hb3.mono hbx.size)
    clear hr hp hbx hb3 hb1 HR
    obtain ⟨c0, c1, c2, c3, c4, c5⟩ := hp3.below' ((Below.refl w3.heap.size w3).alloc (Nat.le_refl _) (.cells #[.int .i64 x.day, .string x.place, .string x.cause, .int .i64 x.level, .int .i64 x.caught, .int .i64 x.buried] 29))
    obtain ⟨e0, e1, e2, e3, e4, e5⟩ := PIncident.box w3 x 29
    have hB4 := hB3.trans (((Below.refl w3.heap.size w3).alloc (Nat.le_refl _) (.cells #[.int .i64 x.day, .string x.place, .string x.cause, .int .i64 x.level, .int .i64 x.caught, .int .i64 x.buried] 29)).mono hB3.size)
    clear hp3
    go_wp2_with fail
    generalize w3.alloc (.cells #[.int .i64 x.day, .string x.place, .string x.cause, .int .i64 x.level, .int .i64 x.caught, .int .i64 x.buried] 29) = w4 at *
    refine (eqIncident_any x _).mono ?_
    rintro e w5 ⟨rfl, hb5⟩
    have hB5 := hB4.trans (hb5.mono hB4.size)
    cases b
    all_goals
      go_wp2
      go_ret
      exact ⟨rfl, hB5⟩
end Go.Proofs.YtaaholabodchaaaDoor
