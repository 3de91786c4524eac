
/- The walk of FnPages. Written by wip/gen/wpg.py. -/
import Derived.Test.YtibihiejpieadaaPy
import Derived.Test.YtibihiejpieadaaPe
import Derived.Test.YtibihiejpieadaaLawS
import Derived.Deep.CutRange
namespace Go.Proofs.Ytibihiejpieadaa
open Go.RowKit
set_option linter.unusedVariables false

theorem eqS_beq {a b : ByteArray} (h : a = b) : (a.toList == b.toList) = true := by rw [h]; simp
set_option maxRecDepth 100000 in
set_option maxHeartbeats 8000000 in
theorem walkPages (v0 : Value) (xs0 : List UInt8) (fp0 : List Nat) (v1 : Value) (xs1 : List UInt8) (fp1 : List Nat) (w : World) (hx0 : Sl fByte.cod w v0 xs0 fp0) (hx1 : Sl fByte.cod w v1 xs1 fp1) (hsh : w.ShapedOpen Try.prog) :
    Calls Try.prog 3 #[v0, v1] w fun e w' => YesR w e w' := by
  obtain ⟨mx, hm⟩ := maxLen_cell hsh
  have hmb := block_lt_of_cell hm
  clear hsh
  go_enter Try.func3, Try.ntmps3
  go_wp2_with fail
  refine (b10Long_any _ _ _ _ hx0).mono ?_
  rintro e w' ⟨rfl, rfl⟩
  cases hl0 : decide (1048576 < xs0.length)
  case true =>
    go_wp2
    go_ret
    exact ⟨rfl, Below.refl _ _⟩
  clear hl0
  go_wp2_with fail
  refine (b10Long_any _ _ _ _ hx1).mono ?_
  rintro e w' ⟨rfl, rfl⟩
  cases hl1 : decide (1048576 < xs1.length)
  case true =>
    go_wp2
    go_ret
    exact ⟨rfl, Below.refl _ _⟩
  clear hl1
  go_wp2_with fail
  refine (DrawPagesOf_any _ _ _ _ hx0).mono ?_
  rintro e w1 ⟨y1, xs, h, hd, rfl, hh, hhd, fl, hsl, _, _, hln, hsz, hb1⟩
  go_wp2_with fail
  refine (implPagesOf_any _ _ _ h hd _ hsl (by omega)).mono ?_
  rintro e w2 ⟨yp, rfl, ⟨fpp, hpg, _, _⟩, hb2⟩
  have hB2 := hb1.trans (hb2.mono hb1.size)
  have hs2 := hsl.below' hb2
  obtain ⟨A1, c1, rfl, _, _⟩ := hs2.form
  obtain ⟨AP, cP, rfl, hPl, hPc⟩ := hpg.form
  clear hsl hb1 hb2
  go_upto_if 44 with fail
  go_cut [8, 9] from 24 (fun _ _ wx => Below w2.heap.size w2 wx)
  case first =>
    by_cases hc : pgC xs h hd = 0
    rotate_left
    · go_wp2
      go_meet
      case rel => exact Below.refl _ _
    obtain ⟨a, hP⟩ := paged_of hc
    rw [hc]
    clear hc
    generalize pgF xs h hd = P at *
    have ha0 := hP.a0
    go_wp2
    go_loopw [10, 11] (fun at_ i wr => ∃ k m : Nat, k ≤ P.length ∧ i = .int .i64 k ∧ at_ = .int .i64 m ∧ a k = m ∧ Below w2.heap.size w2 wr) (fun _ i _ => P.length - (intOf i).toNat)
    case atStart => exact ⟨0, 0, Nat.zero_le _, rfl, rfl, ha0, Below.refl _ _⟩
    case round =>
      obtain ⟨k, m0, hk, rfl, rfl, ham, hb⟩ := hrel
      by_cases hlt : k < P.length
      · obtain ⟨bP, oP, vk, fk, rfl, hcP2, hrow, _⟩ := hpg.elem hlt
        obtain ⟨AK, cK, rfl, hKl, hKc⟩ := hrow.form
        have h2 := hP.two k hlt
        have hfull : k + 1 < P.length → ((P[k]'hlt).length : Int) = h := fun q => hP.full k q
        have hstep := hP.step k hlt
        have hel := fun j hj => hP.el k hlt j hj
        have hhd0 := hP.hd0 k hlt
        generalize hPk : P[k]'hlt = Pk at *
        have hPk' := Lib.hid hPk
        clear hPk
        replace hhd0 := hhd0 (by omega)
        have hcP := (hb.cell (p := ⟨bP, oP + k, none⟩) (block_lt_of_cell hcP2)).trans hcP2
        obtain ⟨bK, oK, rfl, _, _, hc0, _⟩ := (hrow.below' hb).cell1 rfl (show 0 < Pk.length by omega) rfl
        rw [hhd0] at hc0
        replace hc0 : _ = some (Value.string hd) := hc0
        rw [Nat.add_zero] at hc0
        have e0 : (hd.toList == hd.toList) = true := eqS_beq rfl
        clear hhd0
        by_cases hlast : k + 1 < P.length
        · have hf := hfull hlast
          have hf2 : ((Pk.length : Int) != h) = false := by simp [hf]
          clear hfull hf
          go_wp2
          rename World => wo
          go_loopw [10, 12] (fun at_ k_ wr => ∃ m j : Nat, j ≤ Pk.length ∧ k_ = .int .i64 j ∧ at_ = .int .i64 m ∧ (1 ≤ j ∧ m + 1 = m0 + j) ∧ Below w2.heap.size w2 wr) (fun _ k_ _ => Pk.length - (intOf k_).toNat)
          case atStart => exact ⟨m0, 1, by omega, rfl, rfl, by omega, hb⟩
          case round =>
            obtain ⟨m, j, hj, rfl, rfl, hmj, hbi⟩ := hrel
            by_cases hjl : j < Pk.length
            · obtain ⟨jj, rfl⟩ : ∃ jj, j = jj + 1 := ⟨j - 1, by omega⟩
              obtain ⟨hl', he'⟩ := hel jj hjl
              have hidx : a k + jj = m := by omega
              have hml : m < xs.length := by omega
              have he : Pk[jj + 1] = xs[m] := by rw [he']; congr 1
              have hnl : ¬ xs.length ≤ m := by omega
              obtain ⟨bx, ox, rfl, _, hokx, hcx, _⟩ := (hs2.below' hbi).cell1 rfl hml rfl
              obtain ⟨b1, off1, hA1, _, hok1, hck, _⟩ := (hrow.below' hbi).cell1 rfl hjl rfl
              have hcP3 := (hbi.cell (p := ⟨bP, oP + k, none⟩) (block_lt_of_cell hcP2)).trans hcP2
              have e17 := eqS_beq he
              clear he he' hl'
              go_wp2
              have ghcP3 := cell_regrown hcP3
              have ghck := cell_regrown hck
              have ghcx := cell_regrown hcx
              refine wp_region_mix (C := fun w' => ∃ p : Regrown, w' = Go.Sort.grow (redrawn wr p.d) p.os) [true, true, true, true, true, true, true, true, true, true, true, true, true, true, true, true, true, true] (by kernel_rfl) (by kernel_rfl) (by kernel_rfl) (fun _ _ d _ _ h => by cases d <;> exact h) (regrown_of_below (Below.drew (Below.refl _ _))) ?_
              have hS0 : Below (wr.heap.size) wr wr.drew := Below.drew (Below.refl _ _)
              refine wpMix_pure (by kernel_rfl) (fun K hK => ?_)
              go_big_quiet_op
              refine hK _ ?_; clear hK K
              refine wpMix_pure (by kernel_rfl) (fun K hK => ?_)
              go_big_quiet_op
              refine hK _ ?_; clear hK K
              refine wpMix_pure (by kernel_rfl) (fun K hK => ?_)
              go_big_quiet_op
              refine hK _ ?_; clear hK K
              refine wpMix_pure (by kernel_rfl) (fun K hK => ?_)
              go_big_quiet_op
              refine hK _ ?_; clear hK K
              refine wpMix_pure (by kernel_rfl) (fun K hK => ?_)
              go_big_quiet_op
              refine hK _ ?_; clear hK K
              refine wpMix_pure (by kernel_rfl) (fun K hK => ?_)
              go_big_quiet_op
              refine hK _ ?_; clear hK K
              refine wpMix_pure (by kernel_rfl) (fun K hK => ?_)
              go_big_quiet_op
              refine hK _ ?_; clear hK K
              refine wpMix_pure (by kernel_rfl) (fun K hK => ?_)
              go_big_quiet_op
              refine hK _ ?_; clear hK K
              refine wpMix_pure (by kernel_rfl) (fun K hK => ?_)
              go_big_quiet_op
              refine hK _ ?_; clear hK K
              refine wpMix_pure (by kernel_rfl) (fun K hK => ?_)
              go_big_quiet_op
              refine hK _ ?_; clear hK K
              refine wpMix_pure (by kernel_rfl) (fun K hK => ?_)
              go_big_quiet_op
              refine hK _ ?_; clear hK K
              refine wpMix_pure (by kernel_rfl) (fun K hK => ?_)
              go_big_quiet_op
              refine hK _ ?_; clear hK K
              refine wpMix_pure (by kernel_rfl) (fun K hK => ?_)
              go_big_quiet_op
              refine hK _ ?_; clear hK K
              refine wpMix_pure (by kernel_rfl) (fun K hK => ?_)
              go_big_quiet_op
              refine hK _ ?_; clear hK K
              refine wpMix_pure (by kernel_rfl) (fun K hK => ?_)
              go_big_quiet_op
              refine hK _ ?_; clear hK K
              refine wpMix_pure (by kernel_rfl) (fun K hK => ?_)
              go_big_quiet_op
              refine hK _ ?_; clear hK K
              refine wpMix_pure (by kernel_rfl) (fun K hK => ?_)
              go_big_quiet_op
              refine hK _ ?_; clear hK K
              refine wpMix_pure (by kernel_rfl) (fun K hK => ?_)
              go_big_quiet_op
              refine hK _ ?_; clear hK K
              refine wpMix_nil ?_
              go_wp2
              go_roundw
              case rel =>
                exact ⟨m + 1, jj + 1 + 1, by omega, by go_num, by go_num, by omega, hbi.trans (hS0.mono hbi.size)⟩
              case measure => simp [intOf]; omega
            · have hcP3 := (hbi.cell (p := ⟨bP, oP + k, none⟩) (block_lt_of_cell hcP2)).trans hcP2
              go_wp2
              go_roundw
              case rel =>
                (repeat apply Exists.intro)
                exact ⟨⟨k + 1, m, by omega, by go_num, rfl, by omega, hbi⟩, rfl⟩
              case measure => simp [intOf]; omega
        · clear hfull
          go_wp2
          rename World => wo
          go_loopw [10, 12] (fun at_ k_ wr => ∃ m j : Nat, j ≤ Pk.length ∧ k_ = .int .i64 j ∧ at_ = .int .i64 m ∧ (1 ≤ j ∧ m + 1 = m0 + j) ∧ Below w2.heap.size w2 wr) (fun _ k_ _ => Pk.length - (intOf k_).toNat)
          case atStart => exact ⟨m0, 1, by omega, rfl, rfl, by omega, hb⟩
          case round =>
            obtain ⟨m, j, hj, rfl, rfl, hmj, hbi⟩ := hrel
            by_cases hjl : j < Pk.length
            · obtain ⟨jj, rfl⟩ : ∃ jj, j = jj + 1 := ⟨j - 1, by omega⟩
              obtain ⟨hl', he'⟩ := hel jj hjl
              have hidx : a k + jj = m := by omega
              have hml : m < xs.length := by omega
              have he : Pk[jj + 1] = xs[m] := by rw [he']; congr 1
              have hnl : ¬ xs.length ≤ m := by omega
              obtain ⟨bx, ox, rfl, _, hokx, hcx, _⟩ := (hs2.below' hbi).cell1 rfl hml rfl
              obtain ⟨b1, off1, hA1, _, hok1, hck, _⟩ := (hrow.below' hbi).cell1 rfl hjl rfl
              have hcP3 := (hbi.cell (p := ⟨bP, oP + k, none⟩) (block_lt_of_cell hcP2)).trans hcP2
              have e17 := eqS_beq he
              clear he he' hl'
              go_wp2
              have ghcP3 := cell_regrown hcP3
              have ghck := cell_regrown hck
              have ghcx := cell_regrown hcx
              refine wp_region_mix (C := fun w' => ∃ p : Regrown, w' = Go.Sort.grow (redrawn wr p.d) p.os) [true, true, true, true, true, true, true, true, true, true, true, true, true, true, true, true, true, true] (by kernel_rfl) (by kernel_rfl) (by kernel_rfl) (fun _ _ d _ _ h => by cases d <;> exact h) (regrown_of_below (Below.drew (Below.refl _ _))) ?_
              have hS0 : Below (wr.heap.size) wr wr.drew := Below.drew (Below.refl _ _)
              refine wpMix_pure (by kernel_rfl) (fun K hK => ?_)
              go_big_quiet_op
              refine hK _ ?_; clear hK K
              refine wpMix_pure (by kernel_rfl) (fun K hK => ?_)
              go_big_quiet_op
              refine hK _ ?_; clear hK K
              refine wpMix_pure (by kernel_rfl) (fun K hK => ?_)
              go_big_quiet_op
              refine hK _ ?_; clear hK K
              refine wpMix_pure (by kernel_rfl) (fun K hK => ?_)
              go_big_quiet_op
              refine hK _ ?_; clear hK K
              refine wpMix_pure (by kernel_rfl) (fun K hK => ?_)
              go_big_quiet_op
              refine hK _ ?_; clear hK K
              refine wpMix_pure (by kernel_rfl) (fun K hK => ?_)
              go_big_quiet_op
              refine hK _ ?_; clear hK K
              refine wpMix_pure (by kernel_rfl) (fun K hK => ?_)
              go_big_quiet_op
              refine hK _ ?_; clear hK K
              refine wpMix_pure (by kernel_rfl) (fun K hK => ?_)
              go_big_quiet_op
              refine hK _ ?_; clear hK K
              refine wpMix_pure (by kernel_rfl) (fun K hK => ?_)
              go_big_quiet_op
              refine hK _ ?_; clear hK K
              refine wpMix_pure (by kernel_rfl) (fun K hK => ?_)
              go_big_quiet_op
              refine hK _ ?_; clear hK K
              refine wpMix_pure (by kernel_rfl) (fun K hK => ?_)
              go_big_quiet_op
              refine hK _ ?_; clear hK K
              refine wpMix_pure (by kernel_rfl) (fun K hK => ?_)
              go_big_quiet_op
              refine hK _ ?_; clear hK K
              refine wpMix_pure (by kernel_rfl) (fun K hK => ?_)
              go_big_quiet_op
              refine hK _ ?_; clear hK K
              refine wpMix_pure (by kernel_rfl) (fun K hK => ?_)
              go_big_quiet_op
              refine hK _ ?_; clear hK K
              refine wpMix_pure (by kernel_rfl) (fun K hK => ?_)
              go_big_quiet_op
              refine hK _ ?_; clear hK K
              refine wpMix_pure (by kernel_rfl) (fun K hK => ?_)
              go_big_quiet_op
              refine hK _ ?_; clear hK K
              refine wpMix_pure (by kernel_rfl) (fun K hK => ?_)
              go_big_quiet_op
              refine hK _ ?_; clear hK K
              refine wpMix_pure (by kernel_rfl) (fun K hK => ?_)
              go_big_quiet_op
              refine hK _ ?_; clear hK K
              refine wpMix_nil ?_
              go_wp2
              go_roundw
              case rel =>
                exact ⟨m + 1, jj + 1 + 1, by omega, by go_num, by go_num, by omega, hbi.trans (hS0.mono hbi.size)⟩
              case measure => simp [intOf]; omega
            · have hcP3 := (hbi.cell (p := ⟨bP, oP + k, none⟩) (block_lt_of_cell hcP2)).trans hcP2
              go_wp2
              go_roundw
              case rel =>
                (repeat apply Exists.intro)
                exact ⟨⟨k + 1, m, by omega, by go_num, rfl, by omega, hbi⟩, rfl⟩
              case measure => simp [intOf]; omega
      · have hkN : k = P.length := by omega
        have haN := hP.aN
        have hmN : m0 = xs.length := by rw [← ham, hkN, haN]
        subst hmN
        go_wp2
        go_meet
        case rel => exact hb
  case rest =>
    have hB3 := hB2.trans (hcut.mono hB2.size)
    replace hx1 := hx1.below' hB3
    replace hx0 := hx0.below' hB3
    have hm3 := (hB3.cell (p := ⟨0, 0, none⟩) hmb).trans hm
    clear hpg hs2 hcut hB2
    go_wp2_with fail
    refine (DrawFindLines_any _ _ _ _ hx1).mono ?_
    rintro e w4 ⟨y4, ys, word, rfl, hwd, fl4, hsl4, _, _, hln4, hsz4, hb4⟩
    have hm4 := (hb4.cell (p := ⟨0, 0, none⟩) (Nat.lt_of_lt_of_le hmb hB3.size)).trans hm3
    go_wp2_with fail
    refine (implFindLines_any _ _ _ word _ hsl4 (by omega) mx hm4).mono ?_
    rintro e w5 ⟨y5, rfl, ⟨f5, hfd, _, _⟩, hb5⟩
    have hb45 := hb4.trans (hb5.mono hb4.size)
    have hB5 := hB3.trans (hb45.mono hB3.size)
    have hs5 := hsl4.below' hb5
    obtain ⟨A5, c5, rfl, _, _⟩ := hs5.form
    replace hx0 := hx0.below' hb45
    clear hsl4 hb4 hb5 hb45 hB3 hm4 hm3 hx1 hm hmb
    go_upto_if 137 with fail
    go_cut [15, 16] from 24 (fun _ _ wx => Below w5.heap.size w5 wx)
    case first =>
      by_cases hc : flC ys word = 0
      rotate_left
      · go_wp2
        go_meet
        case rel => exact Below.refl _ _
      have hri := flF_rises (xs := ys) (word := word)
      have hha := fun i hi he => flF_has hc (i := i) hi he
      rw [hc]
      clear hc
      generalize flF ys word = Fd at *
      go_wp2_with fail
      refine (b10Rises_any _ _ _ _ _ hfd).mono ?_
      rintro e w6 ⟨rfl, hb6⟩
      rw [hri]
      clear hri
      replace hfd := hfd.below' hb6
      replace hs5 := hs5.below' hb6
      go_wp2
      go_loop [17] (fun i => ∃ k : Nat, k ≤ ys.length ∧ i = .int .i64 k) (fun i => ys.length - (intOf i).toNat)
      case atStart => exact ⟨0, Nat.zero_le _, rfl⟩
      case round =>
        obtain ⟨k, hk, rfl⟩ := hrel
        by_cases hlt : k < ys.length
        · obtain ⟨b, off, rfl, _, hok, hc, _⟩ := hs5.cell1 rfl hlt rfl
          by_cases he : ys[k] = word
          · have hh1 := hha k hlt he
            have e6 := eqS_beq he
            clear he
            go_wp2_with fail
            refine (b10Has_any _ _ _ _ _ hfd).mono ?_
            rintro e w7 ⟨rfl, rfl⟩
            rw [hh1]
            go_wp2
            go_round
            case rel => exact ⟨k + 1, by omega, by go_num⟩
            case measure => simp [intOf]; omega
          · have e6 : (ys[k].toList == word.toList) = false := bytes_beq_false he
            clear he
            go_wp2
            go_round
            case rel => exact ⟨k + 1, by omega, by go_num⟩
            case measure => simp [intOf]; omega
        · go_wp2
          go_meet
          case rel => exact hb6
    case rest =>
      have hB6 := hB5.trans (hcut.mono hB5.size)
      replace hx0 := hx0.below' hcut
      clear hfd hs5 hcut hB5
      go_wp2_with fail
      refine (DrawBarLines_any _ _ _ _ hx0).mono ?_
      rintro e w7 ⟨y7, vs, wd, rfl, hwd2, fl7, hsl7, _, _, hln7, hsz7, hb7⟩
      go_wp2_with fail
      refine (implBarLines_any _ _ _ wd _ hsl7 (by omega)).mono ?_
      rintro e w8 ⟨y8, rfl, ⟨f8, hbr, _, _⟩, hb8⟩
      have hb78 := hb7.trans (hb8.mono hb7.size)
      have hB8 := hB6.trans (hb78.mono hB6.size)
      have hs8 := hsl7.below' hb8
      obtain ⟨A8, c8, rfl, _, _⟩ := hs8.form
      obtain ⟨A9, c9, rfl, _, _⟩ := hbr.form
      clear hsl7 hb7 hb8 hb78 hx0
      by_cases hc : barC vs wd = 0
      rotate_left
      · have hnil := barF_bad hc
        have hnl : (barF vs wd).length = 0 := by rw [hnil]; rfl
        rw [hnl]
        clear hnl hnil hbr hs8
        go_wp2
        go_ret
        exact ⟨rfl, hB8⟩
      have hBS := barF_ok hc
      rw [hc]
      clear hc
      generalize barF vs wd = B at *
      have hBl := hBS.len
      have hBle := hBS.le
      have hBm := hBS.mono
      go_wp2
      go_loopw [22] (fun i wr => ∃ k : Nat, k ≤ vs.length ∧ i = .int .i64 k ∧ Below w8.heap.size w8 wr) (fun i _ => vs.length - (intOf i).toNat)
      case atStart => exact ⟨0, Nat.zero_le _, rfl, Below.refl _ _⟩
      case round =>
        obtain ⟨i, hi, rfl, hbi⟩ := hrel
        rename World => wo
        by_cases hlt : i < vs.length
        · obtain ⟨b, off, rfl, _, hok, hci, _⟩ := hs8.cell1 rfl hlt rfl
          obtain ⟨bb, offb, rfl, _, hokb, hcb, _⟩ := hbr.cell1 rfl (show i < B.length by omega) rfl
          go_wp2
          go_loopw [23] (fun k_ wr => ∃ k : Nat, k ≤ vs.length ∧ k_ = .int .i64 k ∧ Below w8.heap.size w8 wr) (fun k_ _ => vs.length - (intOf k_).toNat)
          case atStart => exact ⟨0, Nat.zero_le _, rfl, hbi⟩
          case round =>
            obtain ⟨k, hk, rfl, hbk⟩ := hrel
            by_cases hltk : k < vs.length
            · obtain ⟨b1, off1, hA1, _, hok1, hck, _⟩ := (hs8.below' hbk).cell1 rfl hltk rfl
              injection hA1 with hA1
              injection hA1 with hA1 hA2 _
              subst hA1 hA2
              obtain ⟨b2, off2, hA2, _, hok2, hcbk, _⟩ := (hbr.below' hbk).cell1 rfl (show k < B.length by omega) rfl
              injection hA2 with hA2
              injection hA2 with hA2 hA3 _
              subst hA2 hA3
              have hci' := (hbk.cell (p := ⟨b, off + i, none⟩) (block_lt_of_cell hci)).trans hci
              have hcb' := (hbk.cell (p := ⟨bb, offb + i, none⟩) (block_lt_of_cell hcb)).trans hcb
              have hmono := hBm i k (by omega) (by omega)
              go_wp2
              have ghci' := cell_regrown hci'
              have ghcb' := cell_regrown hcb'
              have ghck := cell_regrown hck
              have ghcbk := cell_regrown hcbk
              refine wp_region_mix (C := fun w' => ∃ p : Regrown, w' = Go.Sort.grow (redrawn wr p.d) p.os) [true, true, true, true, true, true, true, true, true, true, true, true, true, true, true, true, true, true, true, true, true, true] (by kernel_rfl) (by kernel_rfl) (by kernel_rfl) (fun _ _ d _ _ h => by cases d <;> exact h) (regrown_of_below (Below.drew (Below.refl _ _))) ?_
              have hS0 : Below (wr.heap.size) wr wr.drew := Below.drew (Below.refl _ _)
              refine wpMix_pure (by kernel_rfl) (fun K hK => ?_)
              go_big_quiet_op
              refine hK _ ?_; clear hK K
              refine wpMix_pure (by kernel_rfl) (fun K hK => ?_)
              go_big_quiet_op
              refine hK _ ?_; clear hK K
              refine wpMix_pure (by kernel_rfl) (fun K hK => ?_)
              go_big_quiet_op
              refine hK _ ?_; clear hK K
              refine wpMix_pure (by kernel_rfl) (fun K hK => ?_)
              go_big_quiet_op
              refine hK _ ?_; clear hK K
              refine wpMix_pure (by kernel_rfl) (fun K hK => ?_)
              go_big_quiet_op
              refine hK _ ?_; clear hK K
              refine wpMix_pure (by kernel_rfl) (fun K hK => ?_)
              go_big_quiet_op
              refine hK _ ?_; clear hK K
              refine wpMix_pure (by kernel_rfl) (fun K hK => ?_)
              go_big_quiet_op
              refine hK _ ?_; clear hK K
              refine wpMix_pure (by kernel_rfl) (fun K hK => ?_)
              go_big_quiet_op
              refine hK _ ?_; clear hK K
              by_cases hq8 : vs[i] ≤ vs[k]
              · skip
                have hnm := hmono hq8
                have hnm2 : ¬ B[k].size < B[i].size := by omega
                refine wpMix_pure (by kernel_rfl) (fun K hK => ?_)
                go_big_quiet_op
                refine hK _ ?_; clear hK K
                refine wpMix_pure (by kernel_rfl) (fun K hK => ?_)
                go_big_quiet_op
                refine hK _ ?_; clear hK K
                refine wpMix_pure (by kernel_rfl) (fun K hK => ?_)
                go_big_quiet_op
                refine hK _ ?_; clear hK K
                refine wpMix_pure (by kernel_rfl) (fun K hK => ?_)
                go_big_quiet_op
                refine hK _ ?_; clear hK K
                refine wpMix_pure (by kernel_rfl) (fun K hK => ?_)
                go_big_quiet_op
                refine hK _ ?_; clear hK K
                refine wpMix_pure (by kernel_rfl) (fun K hK => ?_)
                go_big_quiet_op
                refine hK _ ?_; clear hK K
                refine wpMix_pure (by kernel_rfl) (fun K hK => ?_)
                go_big_quiet_op
                refine hK _ ?_; clear hK K
                refine wpMix_pure (by kernel_rfl) (fun K hK => ?_)
                go_big_quiet_op
                refine hK _ ?_; clear hK K
                refine wpMix_pure (by kernel_rfl) (fun K hK => ?_)
                go_big_quiet_op
                refine hK _ ?_; clear hK K
                refine wpMix_pure (by kernel_rfl) (fun K hK => ?_)
                go_big_quiet_op
                refine hK _ ?_; clear hK K
                refine wpMix_pure (by kernel_rfl) (fun K hK => ?_)
                go_big_quiet_op
                refine hK _ ?_; clear hK K
                refine wpMix_pure (by kernel_rfl) (fun K hK => ?_)
                go_big_quiet_op
                refine hK _ ?_; clear hK K
                refine wpMix_pure (by kernel_rfl) (fun K hK => ?_)
                go_big_quiet_op
                refine hK _ ?_; clear hK K
                refine wpMix_pure (by kernel_rfl) (fun K hK => ?_)
                go_big_quiet_op
                refine hK _ ?_; clear hK K
                refine wpMix_nil ?_
                go_wp2
                go_roundw
                case rel => exact ⟨k + 1, by omega, by go_num, hbk.trans (hS0.mono hbk.size)⟩
                case measure => simp [intOf]; omega
              · skip
                refine wpMix_pure (by kernel_rfl) (fun K hK => ?_)
                go_big_quiet_op
                refine hK _ ?_; clear hK K
                refine wpMix_pure (by kernel_rfl) (fun K hK => ?_)
                go_big_quiet_op
                refine hK _ ?_; clear hK K
                refine wpMix_skip (by kernel_rfl) (fun K hK => ?_)
                simp only [Act.put, List.setIfInBounds_toArray, List.set_cons_zero, List.set_cons_succ]
                refine hK _ ?_; clear hK K
                refine wpMix_skip (by kernel_rfl) (fun K hK => ?_)
                simp only [Act.put, List.setIfInBounds_toArray, List.set_cons_zero, List.set_cons_succ]
                refine hK _ ?_; clear hK K
                refine wpMix_skip (by kernel_rfl) (fun K hK => ?_)
                simp only [Act.put, List.setIfInBounds_toArray, List.set_cons_zero, List.set_cons_succ]
                refine hK _ ?_; clear hK K
                refine wpMix_skip (by kernel_rfl) (fun K hK => ?_)
                simp only [Act.put, List.setIfInBounds_toArray, List.set_cons_zero, List.set_cons_succ]
                refine hK _ ?_; clear hK K
                refine wpMix_skip (by kernel_rfl) (fun K hK => ?_)
                simp only [Act.put, List.setIfInBounds_toArray, List.set_cons_zero, List.set_cons_succ]
                refine hK _ ?_; clear hK K
                refine wpMix_skip (by kernel_rfl) (fun K hK => ?_)
                simp only [Act.put, List.setIfInBounds_toArray, List.set_cons_zero, List.set_cons_succ]
                refine hK _ ?_; clear hK K
                refine wpMix_skip (by kernel_rfl) (fun K hK => ?_)
                simp only [Act.put, List.setIfInBounds_toArray, List.set_cons_zero, List.set_cons_succ]
                refine hK _ ?_; clear hK K
                refine wpMix_skip (by kernel_rfl) (fun K hK => ?_)
                simp only [Act.put, List.setIfInBounds_toArray, List.set_cons_zero, List.set_cons_succ]
                refine hK _ ?_; clear hK K
                refine wpMix_skip (by kernel_rfl) (fun K hK => ?_)
                simp only [Act.put, List.setIfInBounds_toArray, List.set_cons_zero, List.set_cons_succ]
                refine hK _ ?_; clear hK K
                refine wpMix_skip (by kernel_rfl) (fun K hK => ?_)
                simp only [Act.put, List.setIfInBounds_toArray, List.set_cons_zero, List.set_cons_succ]
                refine hK _ ?_; clear hK K
                refine wpMix_skip (by kernel_rfl) (fun K hK => ?_)
                simp only [Act.put, List.setIfInBounds_toArray, List.set_cons_zero, List.set_cons_succ]
                refine hK _ ?_; clear hK K
                refine wpMix_pure (by kernel_rfl) (fun K hK => ?_)
                go_big_quiet_op
                refine hK _ ?_; clear hK K
                refine wpMix_nil ?_
                go_wp2
                go_roundw
                case rel => exact ⟨k + 1, by omega, by go_num, hbk.trans (hS0.mono hbk.size)⟩
                case measure => simp [intOf]; omega
            · have hle := hBle i (by omega)
              have hcb' := (hbk.cell (p := ⟨bb, offb + i, none⟩) (block_lt_of_cell hcb)).trans hcb
              go_wp2
              go_roundw
              case rel => exact ⟨i + 1, by omega, by go_num, hbk⟩
              case measure => simp [intOf]; omega
        · go_wp2
          go_ret
          exact ⟨rfl, hB8.trans (hbi.mono hB8.size)⟩
end Go.Proofs.Ytibihiejpieadaa
