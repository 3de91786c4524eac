
/- slices.Compare at lists of numbers. By hand. -/
import Derived.Test.YtjfaafoldllppaaCq
import Derived.Test.YtjfaafoldllppaaColl
namespace Go.Proofs.Ytjfaafoldllppaa
open Go.RowKit
set_option linter.unusedVariables false

/-- Lists in the order of a dictionary: what slices.Compare yields. -/
def cmpL : List Int → List Int → Int
  | [], [] => 0
  | [], _ :: _ => -1
  | _ :: _, [] => 1
  | a :: p, b :: q => if a = b then cmpL p q else cmI a b
theorem cmpL_bounds : ∀ p q : List Int, -1 ≤ cmpL p q ∧ cmpL p q ≤ 1
  | [], [] => by simp [cmpL]
  | [], _ :: _ => by simp [cmpL]
  | _ :: _, [] => by simp [cmpL]
  | a :: p, b :: q => by
    rw [cmpL]
    split
    · exact cmpL_bounds p q
    · exact cmI_bounds a b
theorem cmpL_end (xs ys : List Int) : cmpL (xs.drop xs.length) (ys.drop xs.length) = if xs.length < ys.length then -1 else 0 := by
  rw [List.drop_length]
  by_cases h : xs.length < ys.length
  · rw [if_pos h, List.drop_eq_getElem_cons h]; rfl
  · rw [if_neg h, List.drop_of_length_le (by omega)]; rfl
theorem cmpL_short {xs ys : List Int} {i : Nat} (h1 : i < xs.length) (h2 : i = ys.length) : cmpL (xs.drop i) (ys.drop i) = 1 := by
  subst h2
  rw [List.drop_length, List.drop_eq_getElem_cons h1]; rfl
theorem cmpL_step {xs ys : List Int} {i : Nat} (h1 : i < xs.length) (h2 : i < ys.length) : cmpL (xs.drop i) (ys.drop i) = if xs[i] = ys[i] then cmpL (xs.drop (i + 1)) (ys.drop (i + 1)) else cmI xs[i] ys[i] := by
  rw [List.drop_eq_getElem_cons h1, List.drop_eq_getElem_cons h2, cmpL]
set_option maxRecDepth 100000 in
set_option maxHeartbeats 4000000 in
theorem compareL_any (v u : Value) (xs ys : List Int) (fp fq : List Nat) (w : World) (hx : Sl fInt.cod w v xs fp) (hy : Sl fInt.cod w u ys fq) (hlx : xs.length ≤ 1000000) (hly : ys.length ≤ 1000000) :
    Calls Try.prog 57 #[v, u] w fun e w' => e = .returned (.int .i64 (cmpL xs ys)) ∧ w = w' := by
  obtain ⟨A, ca, rfl, _, _⟩ := hx.form
  obtain ⟨B, cb, rfl, _, _⟩ := hy.form
  go_enter Try.func57, Try.ntmps57
  go_wp2
  go_loop [11] (fun a => ∃ i : Nat, a = .int .i64 i ∧ i ≤ xs.length ∧ i ≤ ys.length ∧ Hid (cmpL xs ys = cmpL (xs.drop i) (ys.drop i))) (fun a => xs.length - (intOf a).toNat)
  case atStart => exact ⟨0, rfl, Nat.zero_le _, Nat.zero_le _, rfl⟩
  case round =>
    obtain ⟨i, rfl, hi, hj, HC⟩ := hrel
    by_cases hlt : i < xs.length
    · have hlt9 : (i : Int) < (xs.length : Int) := by omega
      obtain ⟨b1, o1, rfl, _, _, c1, _⟩ := hx.cell1 rfl hlt rfl
      by_cases hly2 : i < ys.length
      · have hly9 : (i : Int) < (ys.length : Int) := by omega
        obtain ⟨b2, o2, rfl, _, _, c2, _⟩ := hy.cell1 rfl hly2 rfl
        have HS := Lib.hid (HC.out.trans (cmpL_step hlt hly2))
        have hb := cmI_bounds xs[i] ys[i]
        by_cases he : xs[i] = ys[i]
        · have HT := Lib.hid (HS.out.trans (if_pos he))
          have hz : cmI xs[i] ys[i] = 0 := cmI_zero.2 he
          generalize xs[i] = p at *
          generalize ys[i] = q at *
          clear he HS
          go_wp2_with fail
          refine (compareI_any _ _ _).mono ?_
          rintro e w' ⟨rfl, rfl⟩
          rw [hz]
          go_wp2
          go_round
          case rel => exact ⟨i + 1, by go_num, by omega, by omega, HT⟩
          case measure => simp [intOf]; omega
        · have HT := Lib.hid (HS.out.trans (if_neg he))
          have hz : (cmI xs[i] ys[i] != 0) = true := by rw [bne_iff_ne]; exact fun h => he (cmI_zero.1 h)
          generalize xs[i] = p at *
          generalize ys[i] = q at *
          clear he HS
          go_wp2_with fail
          refine (compareI_any _ _ _).mono ?_
          rintro e w' ⟨rfl, rfl⟩
          generalize cmI p q = c at *
          go_wp2
          go_ret
          exact ⟨ret_int HT.out.symm, rfl⟩
      · have hye : (ys.length : Int) ≤ (i : Int) := by omega
        have HT := Lib.hid (HC.out.trans (cmpL_short hlt (by omega)))
        go_wp2
        go_ret
        exact ⟨ret_int HT.out.symm, rfl⟩
    · obtain rfl : i = xs.length := by omega
      have HT := Lib.hid (HC.out.trans (cmpL_end xs ys))
      by_cases h : xs.length < ys.length
      · have HU := Lib.hid (HT.out.trans (if_pos h))
        have h9 : (xs.length : Int) < (ys.length : Int) := by omega
        go_wp2
        go_ret
        exact ⟨ret_int HU.out.symm, rfl⟩
      · have HU := Lib.hid (HT.out.trans (if_neg h))
        have h9 : (ys.length : Int) ≤ (xs.length : Int) := by omega
        clear h
        go_wp2
        go_ret
        exact ⟨ret_int HU.out.symm, rfl⟩
end Go.Proofs.Ytjfaafoldllppaa
