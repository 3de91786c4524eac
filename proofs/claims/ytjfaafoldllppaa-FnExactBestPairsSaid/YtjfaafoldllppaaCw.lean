
/- slices.CompareFunc at pairs. By hand. -/
import Derived.Test.YtjfaafoldllppaaBe
import Derived.Test.YtjfaafoldllppaaCv
namespace Go.Proofs.Ytjfaafoldllppaa
open Go.RowKit
set_option linter.unusedVariables false

def prL (a : Nat × Nat) : List Int := [(a.1 : Int), (a.2 : Int)]
theorem cmpL_pr (a b : Nat × Nat) : cmpL (prL a) (prL b) = if a.1 = b.1 then cmI a.2 b.2 else cmI a.1 b.1 := by
  unfold prL
  rw [cmpL]
  by_cases h : a.1 = b.1
  · rw [if_pos h, if_pos (by omega), cmpL]
    by_cases h2 : a.2 = b.2
    · rw [if_pos (by omega), h2]
      show (0 : Int) = _
      exact (cmI_zero.2 rfl).symm
    · rw [if_neg (by omega)]
  · rw [if_neg h, if_neg (by omega)]
theorem cmpL_pr_zero {a b : Nat × Nat} (h : cmpL (prL a) (prL b) = 0) : a = b := by
  rw [cmpL_pr] at h
  by_cases h1 : a.1 = b.1
  · rw [if_pos h1] at h
    have := cmI_zero.1 h
    exact Prod.ext h1 (by omega)
  · rw [if_neg h1] at h
    have := cmI_zero.1 h
    omega
/-- Pairs in order, as slices.CompareFunc tells it. -/
def cmpP : List (Nat × Nat) → List (Nat × Nat) → Int
  | [], [] => 0
  | [], _ :: _ => -1
  | _ :: _, [] => 1
  | a :: p, b :: q => if cmpL (prL a) (prL b) = 0 then cmpP p q else cmpL (prL a) (prL b)
theorem cmpP_bounds : ∀ p q : List (Nat × Nat), -1 ≤ cmpP p q ∧ cmpP p q ≤ 1
  | [], [] => by simp [cmpP]
  | [], _ :: _ => by simp [cmpP]
  | _ :: _, [] => by simp [cmpP]
  | a :: p, b :: q => by
    rw [cmpP]
    split
    · exact cmpP_bounds p q
    · exact cmpL_bounds _ _
theorem cmpP_lt : ∀ p q : List (Nat × Nat), decide (cmpP p q < 0) = ltP p q
  | [], [] => rfl
  | [], _ :: _ => rfl
  | _ :: _, [] => rfl
  | a :: p, b :: q => by
    rw [cmpP, ltP]
    by_cases h : cmpL (prL a) (prL b) = 0
    · obtain rfl := cmpL_pr_zero h
      rw [if_pos h, if_pos rfl, if_pos rfl]
      exact cmpP_lt p q
    · rw [if_neg h]
      rw [cmpL_pr] at h ⊢
      by_cases h1 : a.1 = b.1
      · rw [if_pos h1] at h ⊢
        have h2 : a.2 ≠ b.2 := fun e => h (cmI_zero.2 (by omega))
        rw [if_pos h1, if_neg h2]
        have := @cmI_lt (a.2 : Int) (b.2 : Int)
        by_cases h3 : a.2 < b.2
        · rw [decide_eq_true h3, decide_eq_true (this.2 (by omega))]
        · rw [decide_eq_false h3, decide_eq_false (fun e => h3 (by have := this.1 e; omega))]
      · rw [if_neg h1] at h ⊢
        rw [if_neg h1]
        have := @cmI_lt (a.1 : Int) (b.1 : Int)
        by_cases h3 : a.1 < b.1
        · rw [decide_eq_true h3, decide_eq_true (this.2 (by omega))]
        · rw [decide_eq_false h3, decide_eq_false (fun e => h3 (by have := this.1 e; omega))]
theorem cmpP_end (P Q : List (Nat × Nat)) : cmpP (P.drop P.length) (Q.drop P.length) = if P.length < Q.length then -1 else 0 := by
  rw [List.drop_length]
  by_cases h : P.length < Q.length
  · rw [if_pos h, List.drop_eq_getElem_cons h]; rfl
  · rw [if_neg h, List.drop_of_length_le (by omega)]; rfl
theorem cmpP_short {P Q : List (Nat × Nat)} {i : Nat} (h1 : i < P.length) (h2 : i = Q.length) : cmpP (P.drop i) (Q.drop i) = 1 := by
  subst h2
  rw [List.drop_length, List.drop_eq_getElem_cons h1]; rfl
theorem cmpP_step {P Q : List (Nat × Nat)} {i : Nat} (h1 : i < P.length) (h2 : i < Q.length) : cmpP (P.drop i) (Q.drop i) = if cmpL (prL P[i]) (prL Q[i]) = 0 then cmpP (P.drop (i + 1)) (Q.drop (i + 1)) else cmpL (prL P[i]) (prL Q[i]) := by
  rw [List.drop_eq_getElem_cons h1, List.drop_eq_getElem_cons h2, cmpP]
theorem rowX_pr {P : List (Nat × Nat)} {i : Nat} (h : i < P.length) : rowX P i = prL P[i] := by
  unfold rowX prL
  rw [List.getD_eq_getElem?_getD, List.getElem?_eq_getElem h]; rfl
theorem rowAt {w : World} {B : Nat} {A : Option Addr} {ca : Nat} {V : Nat → Value} {G : Nat → Nat} {P : List (Nat × Nat)} (hP : PgW w B (.slice A P.length ca) P.length V (rowX P) G) (hs : Small P) {i : Nat} (hi : i < P.length) :
    ∃ gp, A = some ⟨gp, 0, none⟩ ∧ w.cell? ⟨gp, i, none⟩ = some (V i) ∧ ∃ fp, Sl fInt.cod w (V i) (prL P[i]) fp := by
  obtain ⟨gp, cp, hv, hc⟩ := hP.cell hi
  injection hv with hv
  obtain ⟨fp, hsl, _⟩ := PgW.at_ hP hi (rowX_ok hs.2 i)
  rw [rowX_pr hi] at hsl
  exact ⟨gp, hv, hc, fp, hsl⟩
set_option maxRecDepth 100000 in
set_option maxHeartbeats 4000000 in
theorem compareP_any {B : Nat} {v u : Value} {V U : Nat → Value} {G H : Nat → Nat} {P Q : List (Nat × Nat)} (w : World) (hP : PgW w B v P.length V (rowX P) G) (hQ : PgW w B u Q.length U (rowX Q) H) (hsP : Small P) (hsQ : Small Q) :
    Calls Try.prog 56 #[v, u, .func (.func 57) #[] #[]] w fun e w' => e = .returned (.int .i64 (cmpP P Q)) ∧ w = w' := by
  have hlP := hsP.1
  have hlQ := hsQ.1
  obtain ⟨A, ca, rfl⟩ := hP.form
  obtain ⟨A2, cb, rfl⟩ := hQ.form
  go_enter Try.func56, Try.ntmps56
  go_wp2
  go_loop [13] (fun a => ∃ i : Nat, a = .int .i64 i ∧ i ≤ P.length ∧ i ≤ Q.length ∧ Hid (cmpP P Q = cmpP (P.drop i) (Q.drop i))) (fun a => P.length - (intOf a).toNat)
  case atStart => exact ⟨0, rfl, Nat.zero_le _, Nat.zero_le _, rfl⟩
  case round =>
    obtain ⟨i, rfl, hi, hj, HC⟩ := hrel
    by_cases hlt : i < P.length
    · have hlt9 : (i : Int) < (P.length : Int) := by omega
      obtain ⟨gp, rfl, c1, fp, hsl⟩ := rowAt hP hsP hlt
      by_cases hly2 : i < Q.length
      · have hly9 : (i : Int) < (Q.length : Int) := by omega
        obtain ⟨gq, rfl, c2, fq, hsr⟩ := rowAt hQ hsQ hly2
        have HS := Lib.hid (HC.out.trans (cmpP_step hlt hly2))
        have hb := cmpL_bounds (prL P[i]) (prL Q[i])
        have hl1 : (prL P[i]).length ≤ 1000000 := by show 2 ≤ _; omega
        have hl2 : (prL Q[i]).length ≤ 1000000 := by show 2 ≤ _; omega
        by_cases he : cmpL (prL P[i]) (prL Q[i]) = 0
        · have HT := Lib.hid (HS.out.trans (if_pos he))
          have he9 := Lib.hid he
          generalize prL P[i] = p at *
          generalize prL Q[i] = q at *
          clear he HS
          go_wp2_with fail
          refine (compareL_any _ _ _ _ _ _ _ hsl hsr hl1 hl2).mono ?_
          rintro e w' ⟨rfl, rfl⟩
          rw [he9.out]
          go_wp2
          go_round
          case rel => exact ⟨i + 1, by go_num, by omega, by omega, HT⟩
          case measure => simp [intOf]; omega
        · have HT := Lib.hid (HS.out.trans (if_neg he))
          have hz : (cmpL (prL P[i]) (prL Q[i]) != 0) = true := by rw [bne_iff_ne]; exact he
          generalize prL P[i] = p at *
          generalize prL Q[i] = q at *
          clear he HS
          go_wp2_with fail
          refine (compareL_any _ _ _ _ _ _ _ hsl hsr hl1 hl2).mono ?_
          rintro e w' ⟨rfl, rfl⟩
          generalize cmpL p q = c at *
          go_wp2
          go_ret
          exact ⟨ret_int HT.out.symm, rfl⟩
      · have hye : (Q.length : Int) ≤ (i : Int) := by omega
        have HT := Lib.hid (HC.out.trans (cmpP_short hlt (by omega)))
        go_wp2
        go_ret
        exact ⟨ret_int HT.out.symm, rfl⟩
    · obtain rfl : i = P.length := by omega
      have HT := Lib.hid (HC.out.trans (cmpP_end P Q))
      by_cases h : P.length < Q.length
      · have HU := Lib.hid (HT.out.trans (if_pos h))
        have h9 : (P.length : Int) < (Q.length : Int) := by omega
        go_wp2
        go_ret
        exact ⟨ret_int HU.out.symm, rfl⟩
      · have HU := Lib.hid (HT.out.trans (if_neg h))
        have h9 : (Q.length : Int) ≤ (P.length : Int) := by omega
        clear h
        go_wp2
        go_ret
        exact ⟨ret_int HU.out.symm, rfl⟩
end Go.Proofs.Ytjfaafoldllppaa
