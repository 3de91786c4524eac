/- The reference's TableLines: rows that are checked. -/
import Derived.Test.YtjlnjeogaokkoaaDoorTw
namespace Go.Proofs.YtjlnjeogaokkoaaDoor
open Go.RowKit
set_option linter.unusedVariables false

set_option maxRecDepth 100000 in
set_option maxHeartbeats 4000000 in
theorem l30Rows_any (v : Value) (rows : List (List ByteArray)) (fp : List Nat) (w : World) (hx : Sl fStr.cod.slice w v rows fp) :
    Calls Tryd.prog 22 #[v] w fun e w' => e = .returned (.bool (rowsOk rows)) ∧ w = w' := by
  obtain ⟨A, cap, rfl, hle, hca⟩ := hx.form
  go_enter Tryd.func22, Tryd.ntmps22
  go_wp2
  go_loop [3] (fun i => ∃ k : Nat, k ≤ rows.length ∧ i = .int .i64 k ∧ Hid (rowsOk (rows.take k) = true)) (fun i => rows.length - (intOf i).toNat)
  case atStart => exact ⟨0, Nat.zero_le _, rfl, rfl⟩
  case round =>
    obtain ⟨k, hk, rfl, HOK⟩ := hrel
    by_cases hlt : k < rows.length
    · obtain ⟨b, off, vk, fk, rfl, hc0, hs0, _⟩ := hx.elem hlt
      obtain ⟨A1, cap1, rfl, hle1, hca1⟩ := hs0.form
      by_cases h12 : rows[k].length ≤ 12
      · go_wp2
        go_loop [4] (fun i => ∃ j : Nat, j ≤ rows[k].length ∧ i = .int .i64 j ∧ Hid ((rows[k].take j).all cellOk = true)) (fun i => rows[k].length - (intOf i).toNat)
        case atStart => exact ⟨0, Nat.zero_le _, rfl, rfl⟩
        case round =>
          obtain ⟨j, hj, rfl, HC⟩ := hrel
          by_cases hlt2 : j < rows[k].length
          · obtain ⟨b1, off1, rfl, _, hok, hcc, _⟩ := hs0.cell1 rfl hlt2 rfl
            have hcs : rows[k][j].size ≤ 9223372036854775807 := hok
            have HBAD := Lib.hid (fun h => rowsOk_bad hlt (rowOk_bad hlt2 h))
            have HGOOD := Lib.hid (fun h => cells_step hlt2 HC.out h)
            have HCD := Lib.hid (show cellOk rows[k][j] = bwAll rows[k][j].data.toList 33 126 from rfl)
            generalize rows[k][j] = c at *
            go_wp2
            go_loop [5] (fun i => ∃ n : Nat, n ≤ c.size ∧ i = .int .i64 n ∧ Hid (bwAll (c.data.toList.take n) 33 126 = true)) (fun i => c.size - (intOf i).toNat)
            case atStart => exact ⟨0, Nat.zero_le _, rfl, rfl⟩
            case round =>
              obtain ⟨n, hn, rfl, HW⟩ := hrel
              by_cases hlt3 : n < c.size
              · by_cases h1 : (c[n].toNat : Int) < 33
                · have HB := Lib.hid (HBAD.out (HCD.out.trans (bwAll_bad hlt3 (.inl h1))))
                  go_wp2
                  go_ret
                  exact ⟨ret_bool HB.out.symm, rfl⟩
                · by_cases h2 : (126 : Int) < (c[n].toNat : Int)
                  · have HB := Lib.hid (HBAD.out (HCD.out.trans (bwAll_bad hlt3 (.inr h2))))
                    go_wp2
                    go_ret
                    exact ⟨ret_bool HB.out.symm, rfl⟩
                  · have HW2 := Lib.hid (bwAll_step hlt3 HW.out (by omega) (by omega))
                    go_wp2
                    go_round
                    case rel => exact ⟨n + 1, by omega, by go_num, HW2⟩
                    case measure => simp [intOf]; omega
              · have HG := Lib.hid (HGOOD.out (HCD.out.trans (bwAll_full (by omega) HW.out)))
                go_wp2
                go_round
                case rel => exact ⟨j + 1, by omega, by go_num, HG⟩
                case measure => simp [intOf]; omega
          · have HOK2 := Lib.hid (rowsOk_step hlt HOK.out (rowOk_full (by omega) h12 HC.out))
            go_wp2
            go_round
            case rel => exact ⟨k + 1, by omega, by go_num, HOK2⟩
            case measure => simp [intOf]; omega
      · have HB := Lib.hid (rowsOk_bad hlt (rowOk_long h12))
        go_wp2
        go_ret
        exact ⟨ret_bool HB.out.symm, rfl⟩
    · have hall : rowsOk rows = true := by have := HOK.out; rw [List.take_of_length_le (by omega)] at this; exact this
      have HALL := Lib.hid hall
      clear hall
      go_wp2
      go_ret
      exact ⟨ret_bool HALL.out.symm, rfl⟩

set_option maxRecDepth 100000 in
set_option maxHeartbeats 4000000 in
theorem specTableLines_any (v : Value) (rows : List (List ByteArray)) (fp : List Nat) (w : World) (hx : Sl fStr.cod.slice w v rows fp) (hlen : rows.length ≤ 1048577) (hsz : ∀ r ∈ rows, ∀ c ∈ r, c.size ≤ 1048576) :
    Calls Tryd.prog 7 #[v] w fun e w' => NewR2 fStr.cod w (tlF rows) (tlC rows) e w' := by
  obtain ⟨A, cap, rfl, hle, hca⟩ := hx.form
  cases h : rowsOk rows
  · have HCO := Lib.hid (show tlC rows = 2 from by rw [tlC, h]; rfl)
    have HFO := Lib.hid (show tlF rows = [] from by rw [tlF, h]; rfl)
    have HH := Lib.hid h
    clear h
    go_enter Tryd.func7, Tryd.ntmps7
    go_wp2_with fail
    refine (l30Rows_any _ _ _ _ hx).mono ?_
    rintro e w' ⟨rfl, rfl⟩
    rw [HH.out]
    go_wp2
    go_ret2
    exact ⟨_, by rw [HCO.out]; rfl, by rw [HFO.out]; exact New.nil (Below.refl _ _)⟩
  · have HCO := Lib.hid (show tlC rows = doneC (tabF rows) from by rw [tlC, h]; rfl)
    have HFO := Lib.hid (show tlF rows = doneF (tabF rows) from by rw [tlF, h]; rfl)
    have h12 := rowsOk_12 h
    have HH := Lib.hid h
    clear h
    go_enter Tryd.func7, Tryd.ntmps7
    go_wp2_with fail
    refine (l30Rows_any _ _ _ _ hx).mono ?_
    rintro e w' ⟨rfl, rfl⟩
    rw [HH.out]
    go_wp2_with fail
    refine (l30Table_any _ rows fp _ hx hlen hsz h12).mono ?_
    rintro e w1 ⟨v1, rfl, hn⟩
    obtain ⟨⟨fpn, hsl, hlo, hnd⟩, _⟩ := id hn
    go_wp2_with fail
    refine (l30Done_any _ (tabF rows) fpn _ hsl).mono ?_
    rintro e w' ⟨rfl, rfl⟩
    go_wp2
    go_ret2
    exact ⟨_, by rw [HCO.out]; rfl, by rw [HFO.out]; exact hn.done⟩
theorem tlF_len {rows : List (List ByteArray)} (h : rows.length ≤ 1048576) : (tlF rows).length ≤ 100000000000 := by
  unfold tlF doneF tabF
  (repeat' split) <;> simp <;> omega
end Go.Proofs.YtjlnjeogaokkoaaDoor
