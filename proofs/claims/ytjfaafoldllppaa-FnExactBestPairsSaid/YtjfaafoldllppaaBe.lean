
/- Whether the pairs come before the best ones. By hand. -/
import Derived.Test.YtjfaafoldllppaaNo
namespace Go.Proofs.Ytjfaafoldllppaa
open Go.RowKit
set_option linter.unusedVariables false

def Small (P : List (Nat × Nat)) : Prop := P.length ≤ 1000 ∧ ∀ q ∈ P, q.1 ≤ 1000 ∧ q.2 ≤ 1000
theorem PgW.pair {w : World} {B : Nat} {v : Value} {V : Nat → Value} {G : Nat → Nat} {P : List (Nat × Nat)} (h : PgW w B v P.length V (rowX P) G) (hs : Small P) {i : Nat} (hi : i < P.length) :
    ∃ gp cap c, v = .slice (some ⟨gp, 0, none⟩) P.length cap ∧ w.cell? ⟨gp, i, none⟩ = some (.slice (some ⟨G i, 0, none⟩) 2 c) ∧ V i = .slice (some ⟨G i, 0, none⟩) 2 c ∧ w.cell? ⟨G i, 0, none⟩ = some (.int .i64 (P[i].1 : Int)) ∧ w.cell? ⟨G i, 1, none⟩ = some (.int .i64 (P[i].2 : Int)) := by
  obtain ⟨gp, cap, hv, hc⟩ := h.cell hi
  obtain ⟨c, hV⟩ := h.last hi (by unfold rowX; simp)
  have hl : (rowX P i).length = 2 := by unfold rowX; simp
  rw [hl] at hV
  obtain ⟨fp, hsl, _⟩ := PgW.at_ h hi (rowX_ok hs.2 i)
  rw [hV] at hsl
  have h0 := hsl.cell1 rfl (k := 0) (by rw [hl]; decide) rfl
  have h1 := hsl.cell1 rfl (k := 1) (by rw [hl]; decide) rfl
  obtain ⟨b0, o0, hA0, _, _, hc0, _⟩ := h0
  obtain ⟨b1, o1, hA1, _, _, hc1, _⟩ := h1
  injection hA0 with hA0
  injection hA0 with hb0 ho0 _
  injection hA1 with hA1
  injection hA1 with hb1 ho1 _
  subst hb0 ho0 hb1 ho1
  refine ⟨gp, cap, c, hv, by rw [hc, hV], hV, ?_, ?_⟩
  · have : (rowX P i)[0]'(by rw [hl]; decide) = (P[i].1 : Int) := by unfold rowX; simp [hi]
    rw [this] at hc0
    simpa using hc0
  · have : (rowX P i)[1]'(by rw [hl]; decide) = (P[i].2 : Int) := by unfold rowX; simp [hi]
    rw [this] at hc1
    simpa using hc1
def EqTo (P Q : List (Nat × Nat)) (k : Nat) : Prop := ∀ j (h1 : j < P.length) (h2 : j < Q.length), j < k → P[j] = Q[j]
theorem EqTo.step {P Q : List (Nat × Nat)} {k : Nat} (h : EqTo P Q k) (h1 : k < P.length) (h2 : k < Q.length) (e1 : P[k].1 = Q[k].1) (e2 : P[k].2 = Q[k].2) : EqTo P Q (k + 1) := fun j hj1 hj2 hj => by
  rcases Nat.lt_or_ge j k with h3 | h3
  · exact h j hj1 hj2 h3
  · obtain rfl : j = k := by omega
    exact Prod.ext e1 e2
set_option maxRecDepth 100000 in
set_option maxHeartbeats 4000000 in
theorem specBetter_any {B g gu n : Nat} {lv : Value} {lvl bud c most : Int} {U : List Bool} {P Q : List (Nat × Nat)} {vp vb : Value} {Vp : Nat → Value} {Gp : Nat → Nat} {Vb : Nat → Value} {Gb : Nat → Nat} (w : World)
    (h : SMem w B g gu (boxS lv lvl gu n bud c most) U P Q vp vb Vp Gp Vb Gb) (hsP : Small P) (hsQ : Small Q) :
    Calls Try.prog 53 #[.pointer (some ⟨g, 0, none⟩)] w fun e w' => e = .returned (.bool (ltP P Q)) ∧ Below w.heap.size w w' := by
  have hlP := hsP.1
  have hlQ := hsQ.1
  obtain ⟨A3, k3, rfl⟩ := h.pr.form
  obtain ⟨A4, k4, rfl⟩ := h.bs.form
  go_enter Try.func53, Try.ntmps53
  go_wp2
  go_loopw [3] (fun i wr => ∃ k : Nat, k ≤ P.length ∧ k ≤ Q.length ∧ i = .int .i64 k ∧ Hid (EqTo P Q k) ∧ Below w.heap.size w wr) (fun i _ => P.length - (intOf i).toNat)
  case atStart => exact ⟨0, Nat.zero_le _, Nat.zero_le _, rfl, (fun j _ _ hj => absurd hj (Nat.not_lt_zero _)), Below.refl _ _⟩
  case round =>
    obtain ⟨k, hkP, hkQ, rfl, HE, hb⟩ := hrel
    have hm := h.below hb
    have c3 : wr.cell? ⟨g, 3, none⟩ = some (.slice A3 P.length k3) := hm.bx.cell 3 _ rfl
    have c4 : wr.cell? ⟨g, 4, none⟩ = some (.slice A4 Q.length k4) := hm.bx.cell 4 _ rfl
    by_cases hP : k < P.length
    · by_cases hQ : k < Q.length
      · obtain ⟨gp, cap, cc, hv, p0, _, p1, p2⟩ := PgW.pair hm.pr hsP hP
        obtain ⟨gq, cap', cc', hv', q0, _, q1, q2⟩ := PgW.pair hm.bs hsQ hQ
        injection hv with hv _ _
        injection hv' with hv' _ _
        subst hv hv'
        by_cases e1 : P[k].1 = Q[k].1
        · have hn1 : ((P[k].1 : Int) != (Q[k].1 : Int)) = false := by rw [e1]; simp
          by_cases e2 : P[k].2 = Q[k].2
          · have hn2 : ((P[k].2 : Int) != (Q[k].2 : Int)) = false := by rw [e2]; simp
            have HS := Lib.hid (EqTo.step HE.out hP hQ e1 e2)
            clear e1 e2
            go_wp2
            go_quiet (fail)
            go_wp2
            go_quiet (fail)
            go_wp2
            go_roundw
            case rel => exact ⟨k + 1, by omega, by omega, by go_num, HS, hb.trans (by repeat (first | exact Below.refl _ _ | assumption | refine Below.alloc ?_ (by first | omega | (simp <;> omega)) _ | refine Below.setCell ?_ (by first | (show _ ≤ _; omega) | (simp <;> omega)) _ | refine Below.drew ?_ | refine below_drewN ?_ _))⟩
            case measure => simp [intOf]; omega
          · have hn2 : ((P[k].2 : Int) != (Q[k].2 : Int)) = true := by simp; omega
            have HF := Lib.hid (ltP_second hP hQ HE.out e1 e2)
            clear e1 e2
            go_wp2
            go_quiet (fail)
            go_wp2
            go_quiet (fail)
            go_wp2
            go_quiet (fail)
            go_wp2
            go_ret
            refine ⟨ret_bool ?_, hb.trans (by repeat (first | exact Below.refl _ _ | assumption | refine Below.alloc ?_ (by first | omega | (simp <;> omega)) _ | refine Below.setCell ?_ (by first | (show _ ≤ _; omega) | (simp <;> omega)) _ | refine Below.drew ?_ | refine below_drewN ?_ _))⟩
            rw [HF.out]
        · have hn1 : ((P[k].1 : Int) != (Q[k].1 : Int)) = true := by simp; omega
          have HF := Lib.hid (ltP_first hP hQ HE.out e1)
          clear e1
          go_wp2
          go_quiet (fail)
          go_wp2
          go_quiet (fail)
          go_wp2
          go_ret
          refine ⟨ret_bool ?_, hb.trans (by repeat (first | exact Below.refl _ _ | assumption | refine Below.alloc ?_ (by first | omega | (simp <;> omega)) _ | refine Below.setCell ?_ (by first | (show _ ≤ _; omega) | (simp <;> omega)) _ | refine Below.drew ?_ | refine below_drewN ?_ _))⟩
          rw [HF.out]
      · have HF := Lib.hid (ltP_end (i := k) hkP hkQ (by omega) HE.out)
        go_wp2
        go_quiet (fail)
        go_wp2
        go_ret
        refine ⟨ret_bool ?_, hb.trans (by repeat (first | exact Below.refl _ _ | assumption | refine Below.alloc ?_ (by first | omega | (simp <;> omega)) _ | refine Below.setCell ?_ (by first | (show _ ≤ _; omega) | (simp <;> omega)) _ | refine Below.drew ?_ | refine below_drewN ?_ _))⟩
        rw [HF.out]
    · have HF := Lib.hid (ltP_end (i := k) hkP hkQ (by omega) HE.out)
      go_wp2
      go_quiet (fail)
      go_wp2
      go_ret
      refine ⟨ret_bool ?_, hb.trans (by repeat (first | exact Below.refl _ _ | assumption | refine Below.alloc ?_ (by first | omega | (simp <;> omega)) _ | refine Below.setCell ?_ (by first | (show _ ≤ _; omega) | (simp <;> omega)) _ | refine Below.drew ?_ | refine below_drewN ?_ _))⟩
      rw [HF.out]
end Go.Proofs.Ytjfaafoldllppaa
