
/- A node of the search is counted. By hand. -/
import Derived.Test.YtjfaafoldllppaaSx
import Derived.Test.YtjfaafoldllppaaDs
namespace Go.Proofs.Ytjfaafoldllppaa
open Go.RowKit
set_option linter.unusedVariables false

/-- The searcher of the reference: c nodes are left (-1: they ran out). -/
def boxS (lv : Value) (lvl : Int) (gu n : Nat) (bud c most : Int) (vp vb : Value) : List Value :=
  [lv, .int .i64 lvl, .slice (some ⟨gu, 0, none⟩) n n, vp, vb, .int .i64 most, .int .i64 (if c < 0 then bud else bud - c), .int .i64 bud, .bool (decide (c < 0))]
def nodeC (c : Int) : Int := if c ≤ 0 then -1 else c - 1
set_option maxRecDepth 100000 in
set_option maxHeartbeats 2000000 in
theorem specNode_any {B g gu n : Nat} {lv : Value} {lvl bud c most : Int} {U : List Bool} {P Q : List (Nat × Nat)} {vp vb : Value} {Vp : Nat → Value} {Gp : Nat → Nat} {Vb : Nat → Value} {Gb : Nat → Nat} (w : World)
    (h : SMem w B g gu (boxS lv lvl gu n bud c most) U P Q vp vb Vp Gp Vb Gb) (hc : -1 ≤ c) (hcb : c ≤ bud) (hb : 0 ≤ bud ∧ bud ≤ 1000000000000) :
    Calls Try.prog 55 #[.pointer (some ⟨g, 0, none⟩)] w fun e w' => e = .returned (.bool (decide (0 < c))) ∧ SMem w' B g gu (boxS lv lvl gu n bud (nodeC c) most) U P Q vp vb Vp Gp Vb Gb ∧ Below B w w' := by
  have c6 : w.cell? ⟨g, 6, none⟩ = some (.int .i64 (if c < 0 then bud else bud - c)) := h.bx.cell 6 _ rfl
  have c7 : w.cell? ⟨g, 7, none⟩ = some (.int .i64 bud) := h.bx.cell 7 _ rfl
  have c8 : w.cell? ⟨g, 8, none⟩ = some (.bool (decide (c < 0))) := h.bx.cell 8 _ rfl
  have z6 := h.bx.frz 6 (by show 6 < 9; decide)
  have z8 := h.bx.frz 8 (by show 8 < 9; decide)
  by_cases h0 : c ≤ 0
  · have e1 : (if c < 0 then bud else bud - c) = bud := by split <;> omega
    have e2 : decide (0 < c) = false := by rw [decide_eq_false]; omega
    have HD := fun q : Nat => (h.below (below_drewN (Below.refl _ _) q)).field (box' := boxS lv lvl gu n bud (nodeC c) most) 8 (.bool true) (by
      unfold boxS nodeC
      rw [if_pos h0, e1]
      rfl)
    have hbd := fun q : Nat => (below_drewN (Below.refl B w) q)
    have hBB := fun q : Nat => (hbd q).setCell (p := ⟨g, 8, none⟩) h.gB (.bool true)
    rw [e1] at c6
    rw [e2]
    clear e1 e2 h0 hbd h
    go_enter Try.func55, Try.ntmps55
    go_wp2
    go_quiet (fail)
    go_wp2
    go_ret
    exact ⟨rfl, HD _, hBB _⟩
  · have e1 : (if c < 0 then bud else bud - c) = bud - c := by split <;> omega
    have e2 : decide (0 < c) = true := by rw [decide_eq_true]; omega
    have e3 : decide (c < 0) = false := by rw [decide_eq_false]; omega
    have e4 : ((bud - c) == bud) = false := by rw [beq_eq_false_iff_ne]; omega
    have e5 : wrap64 (bud - c + 1) = bud - c + 1 := by unfold wrap64; omega
    have HD := fun q : Nat => (h.below (below_drewN (Below.refl _ _) q)).field (box' := boxS lv lvl gu n bud (nodeC c) most) 6 (.int .i64 (bud - c + 1)) (by
      unfold boxS nodeC
      rw [if_neg h0, e3, if_neg (by omega : ¬ c - 1 < 0)]
      have e6 : bud - (c - 1) = bud - c + 1 := by omega
      have e7 : decide (c - 1 < 0) = false := by rw [decide_eq_false]; omega
      rw [e6, e7]
      rfl)
    have hbd := fun q : Nat => (below_drewN (Below.refl B w) q)
    have hBB := fun q : Nat => (hbd q).setCell (p := ⟨g, 6, none⟩) h.gB (.int .i64 (bud - c + 1))
    rw [e1] at c6
    rw [e3] at c8
    rw [e2]
    have hlo : -9223372036854775808 ≤ bud - c + 1 ∧ bud - c + 1 ≤ 9223372036854775807 := by omega
    generalize bud - c = nd at *
    clear e1 e2 e3 h0 hbd h
    go_enter Try.func55, Try.ntmps55
    go_wp2
    go_quiet (fail)
    go_wp2
    go_ret
    exact ⟨rfl, HD _, hBB _⟩
end Go.Proofs.Ytjfaafoldllppaa
