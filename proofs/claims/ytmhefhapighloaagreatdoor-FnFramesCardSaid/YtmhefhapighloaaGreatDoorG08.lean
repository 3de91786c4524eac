/- Parts of the proof: Sb, WFrames, LawL, Dr, Open, Ob. -/
import Derived.Test.YtmhefhapighloaaGreatDoorG03
import Derived.Test.YtmhefhapighloaaGreatDoorG06
import Derived.Test.YtmhefhapighloaaGreatDoorG07
import Derived.StillTailTactics
import Derived.LaidMore
import Derived.Stop.Joined
import Derived.Laws.Tables
import GoSem.PinnedTables
import Derived.Deep.Slices
import Derived.Deep.Fields
import Derived.OpenShut
namespace Go.Proofs.YtmhefhapighloaaGreatDoor
open Go.RowKit

theorem listEq_step {α : Type} {xs ys : List α} {k : Nat} (hx : k < xs.length) (hy : k < ys.length) (h0 : xs.take k = ys.take k) (h1 : xs[k] = ys[k]) : xs.take (k + 1) = ys.take (k + 1) := by
  rw [List.take_succ_eq_append_getElem hx, List.take_succ_eq_append_getElem hy, h0, h1]
theorem listEq_bad {α : Type} {xs ys : List α} {k : Nat} (hx : k < xs.length) (hy : k < ys.length) (h1 : ¬ xs[k] = ys[k]) : ¬ xs = ys := by
  intro h; subst h; exact h1 rfl
theorem listEq_full {α : Type} {xs ys : List α} {k : Nat} (hx : xs.length ≤ k) (hy : ys.length ≤ k) (h0 : xs.take k = ys.take k) : xs = ys := by
  rwa [List.take_of_length_le hx, List.take_of_length_le hy] at h0

set_option maxRecDepth 100000 in
set_option maxHeartbeats 2000000 in
theorem l29Same_any (v v' : Value) (xs ys : List DBlock) (fp fp' : List Nat) (w : World) (hx : Sl fBlock.cod w v xs fp) (hy : Sl fBlock.cod w v' ys fp') :
    Calls Tryz.prog 34 #[v, v'] w fun e w' => e = .returned (.bool (decide (xs = ys))) ∧ Below w.heap.size w w' := by
  obtain ⟨A, cap, rfl, hlen, hcap⟩ := hx.form
  obtain ⟨A', cap', rfl, hlen', hcap'⟩ := hy.form
  by_cases hl : xs.length = ys.length
  · have HL := Lib.hid hl
    generalize hn : ys.length = n at *
    subst hl
    have HN := Lib.hid hn
    clear hn
    go_enter Tryz.func34, Tryz.ntmps34
    go_wp2
    go_loopw [5] (fun i wr => ∃ k : Nat, k ≤ xs.length ∧ i = .int .i64 k ∧ Hid (xs.take k = ys.take k) ∧ ∃ n, wr = w.drewN n) (fun i _ => xs.length - (intOf i).toNat)
    case atStart => exact ⟨0, Nat.zero_le _, rfl, rfl, 0, rfl⟩
    case round =>
      obtain ⟨k, hk, rfl, HE, n, rfl⟩ := hrel
      by_cases hlt : k < xs.length
      · have hky : k < ys.length := by have := HN.out; omega
        obtain ⟨b, off, rfl, _, hok, hc, _⟩ := hx.at_ hlt
        obtain ⟨b', off', rfl, _, hok', hd, _⟩ := hy.at_ hky
        have hc0 : w.cell? ⟨b, off + k * 3, none⟩ = some (.string xs[k].kind) := hc 0 (by decide)
        have hd0 : w.cell? ⟨b', off' + k * 3, none⟩ = some (.string ys[k].kind) := hd 0 (by decide)
        have hc1 : w.cell? ⟨b, off + k * 3 + 1, none⟩ = some (.string xs[k].name) := hc 1 (by decide)
        have hd1 : w.cell? ⟨b', off' + k * 3 + 1, none⟩ = some (.string ys[k].name) := hd 1 (by decide)
        have hc2 : w.cell? ⟨b, off + k * 3 + 2, none⟩ = some (.string xs[k].text) := hc 2 (by decide)
        have hd2 : w.cell? ⟨b', off' + k * 3 + 2, none⟩ = some (.string ys[k].text) := hd 2 (by decide)
        clear hc hd hok hok'
        by_cases he : xs[k] = ys[k]
        · rw [← he] at hd0 hd1 hd2
          have HS := Lib.hid (listEq_step hlt hky HE.out he)
          clear he
          go_wp2
          go_quiet (fail)
          go_wp2
          go_roundw
          case rel => exact ⟨k + 1, by omega, by go_num, HS, _, rfl⟩
          case measure => simp [intOf]; omega
        · have HB := Lib.hid (listEq_bad hlt hky he)
          generalize xs[k] = x at *
          generalize ys[k] = y at *
          by_cases e0 : x.kind = y.kind
          · by_cases e1 : x.name = y.name
            · by_cases e2 : x.text = y.text
              · exact absurd (by cases x; cases y; simp_all) he
              · have f2 := bytes_beq_false e2
                rw [← e0] at hd0
                rw [← e1] at hd1
                clear e0 e1 e2 he
                go_wp2
                go_quiet (fail)
                go_wp2
                go_ret
                exact ⟨ret_bool (decide_eq_false HB.out).symm, (by repeat (first | exact Below.refl _ _ | assumption | refine Below.alloc ?_ (by first | omega | (simp <;> omega)) _ | refine Below.setCell ?_ (by first | (show _ ≤ _; omega) | (simp <;> omega)) _ | refine Below.drew ?_ | refine below_drewN ?_ _))⟩
            · have f1 := bytes_beq_false e1
              rw [← e0] at hd0
              clear e0 e1 he
              go_wp2
              go_quiet (fail)
              go_wp2
              go_ret
              exact ⟨ret_bool (decide_eq_false HB.out).symm, (by repeat (first | exact Below.refl _ _ | assumption | refine Below.alloc ?_ (by first | omega | (simp <;> omega)) _ | refine Below.setCell ?_ (by first | (show _ ≤ _; omega) | (simp <;> omega)) _ | refine Below.drew ?_ | refine below_drewN ?_ _))⟩
          · have f0 := bytes_beq_false e0
            clear e0 he
            go_wp2
            go_quiet (fail)
            go_wp2
            go_ret
            exact ⟨ret_bool (decide_eq_false HB.out).symm, (by repeat (first | exact Below.refl _ _ | assumption | refine Below.alloc ?_ (by first | omega | (simp <;> omega)) _ | refine Below.setCell ?_ (by first | (show _ ≤ _; omega) | (simp <;> omega)) _ | refine Below.drew ?_ | refine below_drewN ?_ _))⟩
      · have he : xs = ys := listEq_full (by omega) (by have := HN.out; omega) HE.out
        have HD := Lib.hid he
        clear he
        go_wp2
        go_ret
        exact ⟨ret_bool (decide_eq_true HD.out).symm, below_drewN (Below.refl _ _) _⟩
  · have HB : Hid (¬ xs = ys) := fun h => hl (by rw [h])
    have h2 : (((xs.length : Nat) : Int) == ((ys.length : Nat) : Int)) = false := by rw [beq_eq_false_iff_ne]; omega
    go_enter Tryz.func34, Tryz.ntmps34
    go_wp2
    go_ret
    exact ⟨ret_bool (decide_eq_false HB.out).symm, Below.refl _ _⟩


set_option maxRecDepth 100000 in
set_option maxHeartbeats 400000 in
theorem specSameBlocks_any (v v' : Value) (xs ys : List DBlock) (fp fp' : List Nat) (w : World) (hx : Sl fBlock.cod w v xs fp) (hy : Sl fBlock.cod w v' ys fp') :
    Calls Tryz.prog 10 #[v, v'] w fun e w' => e = .returned (.bool (decide (xs = ys))) ∧ Below w.heap.size w w' := by
  go_enter Tryz.func10, Tryz.ntmps10
  go_wp2_with (go_at_call 34; refine (l29Same_any _ _ _ _ _ _ _ hx hy).mono ?_; rintro e w1 ⟨rfl, hb⟩)
  go_ret
  exact ⟨rfl, hb⟩
end Go.Proofs.YtmhefhapighloaaGreatDoor

namespace Go.Proofs.YtmhefhapighloaaGreatDoor
open Go.RowKit
set_option linter.unusedVariables false

def atF (xs : List UInt8) (k : Nat) (n : Int) : Int := if h : k < xs.length then (xs[k].toNat : Int) % n else 0
def wideF (xs : List UInt8) (k : Nat) (n : Int) : Int := (256 * atF xs k 256 + atF xs (k + 1) 256) % n
theorem atF_in {xs : List UInt8} {k : Nat} {n : Int} (hn : 1 < n) : 0 ≤ atF xs k n ∧ atF xs k n < n := by
  unfold atF
  split
  · exact tmod_nn (by omega) hn
  · omega
theorem wideF_in {xs : List UInt8} {k : Nat} {n : Int} (hn : 1 < n) : 0 ≤ wideF xs k n ∧ wideF xs k n < n := by
  have h1 := atF_in (xs := xs) (k := k) (n := 256) (by omega)
  have h2 := atF_in (xs := xs) (k := k + 1) (n := 256) (by omega)
  exact tmod_nn (by omega) hn
set_option maxRecDepth 100000 in
set_option maxHeartbeats 1000000 in
theorem r8At_val (v : Value) (xs : List UInt8) (fp : List Nat) (k : Nat) (n : Int) (w : World) (hx : Sl fByte.cod w v xs fp) (hn : 1 < n) (hn2 : n ≤ 1000000000) :
    Calls Tryz.prog 13 #[v, .int .i64 k, .int .i64 n] w fun e w' => e = .returned (.int .i64 (atF xs k n)) ∧ w' = w := by
  obtain ⟨A, cap, rfl, hlen, hcap⟩ := hx.form
  have e1 : decide (n ≤ 1) = false := decide_eq_false (by omega)
  by_cases hk : k < xs.length
  · obtain ⟨b, off, rfl, _, _, hc, _⟩ := hx.cell1 rfl hk rfl
    have hb := xs[k].toNat_lt
    have HA : Hid (atF xs k n = (xs[k].toNat : Int) % n) := by show _ = _; unfold atF; rw [dif_pos hk]
    go_enter Tryz.func13, Tryz.ntmps13
    go_wp2
    go_ret
    exact ⟨by rw [HA.out]; rfl, rfl⟩
  · have HA : Hid (atF xs k n = 0) := by show _ = _; unfold atF; rw [dif_neg hk]
    go_enter Tryz.func13, Tryz.ntmps13
    go_wp2
    go_ret
    exact ⟨by rw [HA.out]; rfl, rfl⟩
set_option maxRecDepth 100000 in
set_option maxHeartbeats 1000000 in
theorem r8Wide_val (v : Value) (xs : List UInt8) (fp : List Nat) (k : Nat) (n : Int) (w : World) (hx : Sl fByte.cod w v xs fp) (hk : k ≤ 1000) (hn : 1 < n) (hn2 : n ≤ 1000000000) :
    Calls Tryz.prog 12 #[v, .int .i64 k, .int .i64 n] w fun e w' => e = .returned (.int .i64 (wideF xs k n)) ∧ w' = w := by
  obtain ⟨A, cap, rfl, hlen, hcap⟩ := hx.form
  have HA : Hid (wideF xs k n = (256 * atF xs k 256 + atF xs (k + 1) 256) % n) := rfl
  go_enter Tryz.func12, Tryz.ntmps12
  go_wp2_with fail
  refine (r8At_val _ xs fp k 256 _ hx (by omega) (by omega)).mono ?_
  rintro e w' ⟨rfl, rfl⟩
  go_wp2_with fail
  refine (r8At_val _ xs fp (k + 1) 256 _ hx (by omega) (by omega)).mono ?_
  rintro e w' ⟨rfl, rfl⟩
  have ha := atF_in (xs := xs) (k := k) (n := 256) (by omega)
  have hb := atF_in (xs := xs) (k := k + 1) (n := 256) (by omega)
  generalize atF xs k 256 = a at *
  generalize atF xs (k + 1) 256 = b at *
  have e1 : wrap64 (256 * a) = 256 * a := w64_inD _ (by omega)
  have e2 : wrap64 (256 * a + b) = 256 * a + b := w64_inD _ (by omega)
  have e3 : (256 * a + b).tmod n = (256 * a + b) % n := Int.tmod_eq_emod_of_nonneg (by omega)
  go_wp2
  go_ret
  exact ⟨by rw [HA.out]; rfl, rfl⟩
set_option maxRecDepth 100000 in
set_option maxHeartbeats 2000000 in
theorem specGateText_any (x : DGate) (w : World) (hok : fGate.ok x) (hv : gateB x = true) :
    Calls Tryz.prog 17 #[gAgg x] w fun e w' => e = .returned (.string (gtS x)) ∧ Below w.heap.size w w' := by
  unfold gAgg
  have HV := Lib.hid hv
  have hp := PGate.box w x 43
  go_enter Tryz.func17, Tryz.ntmps17
  go_wp2_with fail
  refine (l21Ok_any _ _ x _ hp hok).mono ?_
  rintro e w1 ⟨rfl, hb1⟩
  have hB1 : Below w.heap.size w w1 := ((Below.refl _ _).alloc (Nat.le_refl _) _).trans (hb1.mono (by simp))
  have hp1 := hp.below' hb1
  rw [HV.out]
  go_wp2_with fail
  refine (l21Text_any _ _ x _ hp1 HV.out).mono ?_
  rintro e w2 ⟨rfl, hb2⟩
  go_wp2
  go_ret
  exact ⟨rfl, hB1.trans (hb2.mono hB1.size)⟩
set_option maxRecDepth 100000 in
set_option maxHeartbeats 8000000 in
theorem walkFrames (v0 : Value) (xs0 : List UInt8) (fp0 : List Nat) (v1 : Value) (xs1 : List UInt8) (fp1 : List Nat) (w : World) (hx0 : Sl fByte.cod w v0 xs0 fp0) (hx1 : Sl fByte.cod w v1 xs1 fp1) (hsh : w.ShapedOpen Tryz.prog) (htab : RdTabs w) :
    Calls Tryz.prog 3 #[v0, v1] w fun e w' => YesR w e w' := by
  obtain ⟨m, hm⟩ := maxLen_cell hsh
  obtain ⟨Av1, cv1, rfl, _, _⟩ := hx1.form
  go_enter Tryz.func3, Tryz.ntmps3
  try simp only [List.append_eq, List.cons_append, List.nil_append]
  go_wp2_with fail
  refine (r8Long_any _ _ _ _ _ _ _ hx0 hx1).mono ?_
  rintro e w' ⟨rfl, rfl⟩
  cases hlong : (decide (1048576 < xs0.length) || decide (1048576 < xs1.length))
  case true =>
    go_wp2
    go_ret
    exact ⟨rfl, Below.refl _ _⟩
  case false =>
    clear hlong
    go_wp2_with fail
    refine (R8Blocks_any _ _ _ _ hx0).mono ?_
    rintro e w1 ⟨y1, L, rfl, hdL, hlL, ⟨⟨f1, hs1, _, _⟩, hb1⟩⟩
    have hv := hdL.1
    have hM := hx1.below' hb1
    have hm1 := cell_below hb1 hm
    have ht1 := htab.below hb1
    clear hx0 hdL
    have hB := hb1
    clear hb1
    go_wp2_with fail
    refine (implSaveBlocks_any _ _ _ _ hs1 ht1.tab).mono ?_
    rintro e w2 ⟨rfl, hb2⟩
    have hCv : saveC L = 0 := by unfold saveC; rw [if_pos hv]
    have hlen : (saveF L).size ≤ 3000 := by
      have := saveL_len hv L.length (Nat.le_refl _)
      unfold saveF; rw [if_pos hv]
      show (mkB (saveL L L.length)).size ≤ _
      rw [mkB_size]; omega
    rw [hCv]
    have HS : Hid (saveF L = mkB (saveL L L.length)) := by show _ = _; unfold saveF mkB; rw [if_pos hv]
    have HLD := Lib.hid (frames_read hv)
    have HDM := Lib.hid (frames_whole hv)
    have HSG := Lib.hid (frames_salvage hv)
    have hpos : 1 < (saveL L L.length).length := by
      unfold saveL headS
      rw [data_append, data_append]
      simp
    have HBE : Hid (∀ (a : Nat) (o c : UInt8), (saveL L L.length)[a]? = some o → o ≠ c → (ldRes (mkB ((saveL L L.length).set a c))).2.2 ≠ 0) := fun a o c h1 h2 => frames_bent hv h1 h2
    have HV := Lib.hid hv
    clear hCv hv
    generalize hF : saveF L = F at *
    replace hF := Lib.hid hF
    replace hm1 := cell_below hb2 hm1
    replace ht1 := ht1.below hb2
    replace hM := hM.below' hb2
    replace hs1 := hs1.below' hb2
    replace hB := hB.trans (hb2.mono hB.size)
    clear hb2
    go_wp2_with fail
    refine (implLoadBlocks_any F m _ (by omega) hm1 ht1).mono ?_
    rintro e w3 ⟨y3, rfl, ⟨f3, hs3, _, _⟩, hb2⟩
    rw [HLD.out] at hs3 ⊢
    simp only at hs3 ⊢
    replace hm1 := cell_below hb2 hm1
    replace ht1 := ht1.below hb2
    replace hM := hM.below' hb2
    replace hs1 := hs1.below' hb2
    replace hB := hB.trans (hb2.mono hB.size)
    clear hb2
    go_wp2_with fail
    refine (implDamagedLines_any F m _ (by omega) hm1 ht1.tab).mono ?_
    rintro e w4 ⟨y4, rfl, ⟨f4, hs4, _, _⟩, hb2⟩
    rw [HDM.out] at hs4
    replace hm1 := cell_below hb2 hm1
    replace ht1 := ht1.below hb2
    replace hM := hM.below' hb2
    replace hs1 := hs1.below' hb2
    replace hs3 := hs3.below' hb2
    replace hB := hB.trans (hb2.mono hB.size)
    clear hb2
    go_wp2_with fail
    refine (implSalvageBlocks_any F m _ (by omega) hm1 ht1.tab).mono ?_
    rintro e w5 ⟨y5, rfl, ⟨f5, hs5, _, _⟩, hb2⟩
    rw [HSG.out] at hs5
    replace hm1 := cell_below hb2 hm1
    replace ht1 := ht1.below hb2
    replace hM := hM.below' hb2
    replace hs1 := hs1.below' hb2
    replace hs3 := hs3.below' hb2
    replace hs4 := hs4.below' hb2
    replace hB := hB.trans (hb2.mono hB.size)
    clear hb2
    obtain ⟨A4, c4, rfl, _, _⟩ := hs4.form
    clear hs4
    go_wp2_with fail
    refine (specSameBlocks_any _ _ _ _ _ _ _ hs3 hs1).mono ?_
    rintro e w6 ⟨rfl, hb2⟩
    rw [decide_eq_true rfl]
    replace hm1 := cell_below hb2 hm1
    replace ht1 := ht1.below hb2
    replace hM := hM.below' hb2
    replace hs1 := hs1.below' hb2
    replace hs3 := hs3.below' hb2
    replace hs5 := hs5.below' hb2
    replace hB := hB.trans (hb2.mono hB.size)
    clear hb2
    go_wp2_with fail
    refine (specSameBlocks_any _ _ _ _ _ _ _ hs5 hs1).mono ?_
    rintro e w7 ⟨rfl, hb2⟩
    rw [decide_eq_true rfl]
    replace hm1 := cell_below hb2 hm1
    replace ht1 := ht1.below hb2
    replace hM := hM.below' hb2
    replace hs1 := hs1.below' hb2
    replace hs3 := hs3.below' hb2
    replace hs5 := hs5.below' hb2
    replace hB := hB.trans (hb2.mono hB.size)
    clear hb2
    clear hs3 hs5
    go_wp2_with fail
    refine (specSaveBlocks_any _ _ _ _ hs1).mono ?_
    rintro e w8 ⟨rfl, hb2⟩
    rw [hF.out, HS.out]
    replace hm1 := cell_below hb2 hm1
    replace ht1 := ht1.below hb2
    replace hM := hM.below' hb2
    replace hs1 := hs1.below' hb2
    replace hB := hB.trans (hb2.mono hB.size)
    clear hb2
    clear HLD HDM HSG hs1
    have hlX : (saveL L L.length).length ≤ 3000 := by
      have := HS.out
      rw [this, mkB_size] at hlen
      exact hlen
    clear HS hF hlen
    generalize saveL L L.length = X at *
    have hXs : (mkB X).size = X.length := mkB_size X
    have hB8 := hB
    obtain ⟨cp, w9, hcv, hsB, hb2⟩ := bytes_made w8 (mkB X) (by omega) (by omega)
    rw [mkB_data, hXs] at hsB
    rw [hXs] at hcv
    replace hm1 := cell_below hb2 hm1
    replace ht1 := ht1.below hb2
    replace hM := hM.below' hb2
    replace hB := hB.trans (hb2.mono hB.size)
    clear hb2
    have hgB : w8.heap.size < w9.heap.size := hsB.lt _ (by simp)
    have hlo : w.heap.size ≤ w8.heap.size := hB8.size
    clear hB8
    go_wp2
    clear hcv
    generalize w8.heap.size = g at *
    obtain ⟨hw0, hw1⟩ := wideF_in (xs := xs1) (k := 0) (n := (X.length : Int)) (by omega)
    obtain ⟨ha0, ha1⟩ := atF_in (xs := xs1) (k := 2) (n := 255) (by omega)
    have cW := r8Wide_val _ xs1 fp1 0 (X.length : Int) w9.drew (hM.below' (Below.drew (Below.refl _ _))) (by omega) (by omega) (by omega)
    have cA := r8At_val _ xs1 fp1 2 255 w9.drew (hM.below' (Below.drew (Below.refl _ _))) (by omega) (by omega)
    obtain ⟨a, hwa⟩ : ∃ a : Nat, wideF xs1 0 (X.length : Int) = a := ⟨(wideF xs1 0 (X.length : Int)).toNat, by omega⟩
    rw [hwa] at hw0 hw1 cW
    clear hwa
    generalize atF xs1 2 255 = r at *
    have ha : a < X.length := by omega
    obtain ⟨cX, fX⟩ := hsB.cellB ha
    have cX : w9.drew.cell? ⟨g, a, none⟩ = some (.int .u8 X[a].toNat) := cX
    have fX : w9.drew.frozen? ⟨g, a, none⟩ = false := fX
    have HBE := HBE.out a X[a]
    have hXa : X[a]? = some X[a] := List.getElem?_eq_getElem ha
    have hBd := hsB.below' (Below.drew (Below.refl _ _))
    generalize X[a] = oo at *
    have hoo2 := oo.toNat_lt
    obtain ⟨d, hd⟩ : ∃ d : UInt8, (1 + r) = (d.toNat : Int) := ⟨UInt8.ofNat (1 + r).toNat, by rw [UInt8.toNat_ofNat']; omega⟩
    have hd0 : d ≠ 0 := by intro e0; subst e0; have : ((0 : UInt8).toNat : Int) = 0 := rfl; omega
    obtain ⟨c, hcd⟩ : ∃ c : UInt8, c = oo ^^^ d := ⟨_, rfl⟩
    have hxor : bits .xor .u8 (oo.toNat : Int) (1 + r) = (c.toNat : Int) := by rw [hd, hcd]; exact xor_u8 oo d
    have hwr : wrap64 (1 + r) = 1 + r := w64_inD _ (by omega)
    have hoc : oo ≠ c := by rw [hcd]; exact xor_ne8 hd0
    have HBE := Lib.hid (HBE c hXa hoc)
    clear hd hcd hd0 hXa hoc hsB
    refine wp_region_still_tail 13 (by kernel_rfl) (by kernel_rfl) ?_
    simp only [List.take_succ_cons, List.take_zero, List.drop_succ_cons, List.drop_zero]
    still_step
    still_step
    still_step
    still_step
    still_call cW
    still_step
    still_step
    still_step
    still_call cA
    still_step
    still_step
    still_step
    still_step
    refine wpStill_nil ?_
    change wpList _ _ _ _ _ (World.drew _)
    have hxor0 := 0
    have hlXs : (X.set a c).length = X.length := List.length_set
    have hsz : (mkB (X.set a c)).size ≤ 1048576 := by rw [mkB_size, hlXs]; omega
    have hsC := hBd.setB ha c
    have hB5 : Below w.heap.size w (w9.drew.setCell ⟨g, a, none⟩ (.int .u8 c.toNat)) := hB.drew.setCell (p := ⟨g, a, none⟩) hlo _
    have hcv2 : (convert 22 9 (.slice (some ⟨g, 0, none⟩) X.length cp)).run Tryz.prog (w9.setCell ⟨g, a, none⟩ (.int .u8 c.toNat)).drew = .ok (.string (mkB (X.set a c))) (w9.setCell ⟨g, a, none⟩ (.int .u8 c.toNat)).drew := by
      have h := hsC
      rw [← hlXs] at h
      have h2 := h.textB
      rw [hlXs] at h2
      exact h2
    clear hm1 ht1 hM hBd hsC cW cA hxor0
    go_wp2_with fail
    clear hcv2 cX fX
    rw [show (w9.setCell ⟨g, a, none⟩ (.int .u8 c.toNat)).drew = w9.drew.setCell ⟨g, a, none⟩ (.int .u8 c.toNat) from rfl]
    generalize w9.drew.setCell ⟨g, a, none⟩ (.int .u8 c.toNat) = w5 at *
    have hm1 := cell_below hB5 hm
    have ht1 := htab.below hB5
    have hM := hx1.below' hB5
    clear hB
    have hB := hB5
    clear hB5
    refine (implLoadBlocks_any (mkB (X.set a c)) m _ hsz hm1 ht1).mono ?_
    rintro e w10 ⟨y10, rfl, ⟨f10, hs10, _, _⟩, hb2⟩
    replace hm1 := cell_below hb2 hm1
    replace ht1 := ht1.below hb2
    replace hM := hM.below' hb2
    replace hB := hB.trans (hb2.mono hB.size)
    clear hb2
    clear hs10
    generalize (ldRes (mkB (X.set a c))).2.2 = cc at *
    generalize (ldRes (mkB (X.set a c))).2.1 = cl at *
    go_wp2_with fail
    refine (R8Gates_any _ _ _ _ hM).mono ?_
    rintro e w11 ⟨y11, G, rfl, hgv, hgl, ⟨⟨f11, hs11, _, _⟩, hb2⟩⟩
    replace hm1 := cell_below hb2 hm1
    replace ht1 := ht1.below hb2
    replace hM := hM.below' hb2
    replace hB := hB.trans (hb2.mono hB.size)
    clear hb2
    go_wp2_with fail
    refine (implBlocksOfGates_any _ _ _ _ hs11 (by omega) ht1.tab).mono ?_
    rintro e w12 ⟨y12, rfl, ⟨f12, hs12, _, _⟩, hb2⟩
    rw [show bgF G = G.map bgB from by unfold bgF; rw [if_pos hgv]] at hs12
    rw [show bgC G = 0 from by unfold bgC; rw [if_pos hgv]]
    replace hs11 := hs11.below' hb2
    replace hm1 := cell_below hb2 hm1
    replace ht1 := ht1.below hb2
    replace hM := hM.below' hb2
    replace hB := hB.trans (hb2.mono hB.size)
    clear hb2
    go_wp2_with fail
    refine (implGatesOfBlocks_any _ _ _ m _ hs12 hm1 ht1).mono ?_
    rintro e w13 ⟨y13, rfl, ⟨f13, hs13, _, _⟩, hb2⟩
    rw [(gates_back hgv).2] at hs13
    rw [(gates_back hgv).1]
    replace hs11 := hs11.below' hb2
    replace hm1 := cell_below hb2 hm1
    replace ht1 := ht1.below hb2
    replace hM := hM.below' hb2
    replace hB := hB.trans (hb2.mono hB.size)
    clear hb2
    clear hs12 hm1 ht1 hM hm htab hx1
    obtain ⟨A11, c11, rfl, _, _⟩ := hs11.form
    obtain ⟨A13, c13, rfl, _, _⟩ := hs13.form
    have ecc : (cc == 0) = false := by rw [beq_eq_false_iff_ne]; exact HBE.out
    have hgk : Hid (∀ k (h : k < G.length), gateB G[k] = true) := fun k h => gatesB_one hgv h
    have hlt11 := hs11.lt
    have hlt13 := hs13.lt
    clear hgv
    go_wp2
    go_loopw [24] (fun i wr => ∃ k : Nat, k ≤ G.length ∧ i = .int .i64 k ∧ Below w13.heap.size w13 wr) (fun i _ => G.length - (intOf i).toNat)
    case atStart => exact ⟨0, Nat.zero_le _, rfl, Below.refl _ _⟩
    case round =>
      obtain ⟨k, hk, rfl, hb⟩ := hrel
      by_cases hlt : k < G.length
      · obtain ⟨b1, o1, rfl, hm1, hok1, hp1⟩ := PGate.elem (hs11.below' hb) hlt
        obtain ⟨b2, o2, rfl, hm2, hok2, hp2⟩ := PGate.elem (hs13.below' hb) hlt
        have hl1 := Nat.lt_of_lt_of_le (hlt11 b1 hm1) hb.size
        have hl2 := Nat.lt_of_lt_of_le (hlt13 b2 hm2) hb.size
        have HGK := Lib.hid (hgk.out k hlt)
        obtain ⟨c0, c1, c2, c3, c4, c5⟩ := hp1
        obtain ⟨d0, d1, d2, d3, d4, d5⟩ := hp2
        clear hm1 hm2
        generalize hgx : G[k] = x at *
        clear hgx
        have hsG : Hid ((gtS x).size ≤ 1000) := by have := gtS_size HGK.out; show _ ≤ _; omega
        go_wp2
        have gc0 := cell_regrown c0
        have gc1 := cell_regrown c1
        have gc2 := cell_regrown c2
        have gc3 := cell_regrown c3
        have gc4 := cell_regrown c4
        have gc5 := cell_regrown c5
        have gd0 := cell_regrown d0
        have gd1 := cell_regrown d1
        have gd2 := cell_regrown d2
        have gd3 := cell_regrown d3
        have gd4 := cell_regrown d4
        have gd5 := cell_regrown d5
        refine wp_region_mixed [0, 1, 2, 3, 5, 6, 7, 8, 4, 9, 10] (C := fun w' => ∃ p : Regrown, w' = Go.Sort.grow (redrawn wr p.d) p.os) [true, true, true, true, true, true, true, true, false, false, true] (by kernel_rfl) (by kernel_rfl) (by kernel_rfl) (fun _ _ d _ _ h => by cases d <;> exact h) (regrown_of_below (Below.drew (Below.refl _ _))) ?_
        simp only [List.map_cons, List.map_nil, List.getD_cons_zero, List.getD_cons_succ]
        have hS0 : Below (wr.heap.size) wr wr.drew := Below.drew (Below.refl _ _)
        refine wpMix_pure (by kernel_rfl) (fun K hK => ?_)
        go_big_quiet_op
        refine hK _ ?_; clear hK K
        refine wpMix_pure (by kernel_rfl) (fun K hK => ?_)
        go_big_quiet_op
        refine hK _ ?_; clear hK K
        refine wpMix_pure (by kernel_rfl) (fun K hK => ?_)
        go_big_quiet_op
        refine hK _ ?_; clear hK K
        refine wpMix_pure (by kernel_rfl) (fun K hK => ?_)
        go_big_quiet_op
        refine hK _ ?_; clear hK K
        refine wpMix_pure (by kernel_rfl) (fun K hK => ?_)
        go_big_quiet_op
        refine hK _ ?_; clear hK K
        refine wpMix_pure (by kernel_rfl) (fun K hK => ?_)
        go_big_quiet_op
        refine hK _ ?_; clear hK K
        refine wpMix_pure (by kernel_rfl) (fun K hK => ?_)
        go_big_quiet_op
        refine hK _ ?_; clear hK K
        refine wpMix_pure (by kernel_rfl) (fun K hK => ?_)
        go_big_quiet_op
        refine hK _ ?_; clear hK K
        refine wpMix_act (by kernel_rfl) (fun K hK => ?_)
        go_big_op
        refine (specGateText_any x wr.drew hok1 HGK.out).mono ?_
        rintro e wr1 ⟨rfl, hbr1⟩
        have hbr1S : Below (wr.heap.size) wr wr1 := hS0.trans (hbr1.mono hS0.size)
        refine hK _ _ (regrown_of_below hbr1S) ?_
        clear hK K
        refine wpMix_act (by kernel_rfl) (fun K hK => ?_)
        go_big_op
        refine (specGateText_any x wr1 hok1 HGK.out).mono ?_
        rintro e wr2 ⟨rfl, hbr2⟩
        have hbr2S : Below (wr.heap.size) wr wr2 := hbr1S.trans (hbr2.mono hbr1S.size)
        refine hK _ _ (regrown_of_below hbr2S) ?_
        clear hK K
        refine wpMix_pure (by kernel_rfl) (fun K hK => ?_)
        go_big_quiet_op
        refine hK _ ?_; clear hK K
        refine wpMix_nil ?_
        clear gc0 gc1 gc2 gc3 gc4 gc5 gd0 gd1 gd2 gd3 gd4 gd5
        go_wp2
        go_roundw
        case rel => exact ⟨k + 1, by omega, by go_num, hb.trans (hbr2S.mono hb.size)⟩
        case measure => simp [intOf]; omega
      · go_wp2
        go_ret
        exact ⟨rfl, hB.trans (hb.mono hB.size)⟩
end Go.Proofs.YtmhefhapighloaaGreatDoor

namespace Go.Proofs.YtmhefhapighloaaGreatDoor
open Go.RowKit Go.WideShapes Go.ChangeShapes Go.ChangeAt

set_option maxRecDepth 100000 in
theorem law_liftedL {F : FuncId} {fn : Func} {s : ChangeSpec} (laid : List (String × DataW Unit)) (os : Os) (started : os.Started) (H : Type) (enc : TypeId × Value → H)
    (hfn : Tryz.checked.prog.funcs[F]? = some fn) (noInit : Tryz.checked.prog.inits.idxOf? F = none)
    (witness : ∃ (w : World) (tape : Tape) (i : Input), w.os = os ∧ (w.forCall tape i).Shaped Tryz.checked.prog ∧ i.vars = [] ∧ Input.okWide Tryz.checked.prog (w.forCall tape i) .any w.heap.size F i ∧
      ((s.pre enc Tryz.checked.prog fn [] false (w.forCall tape i).memory i.args ∧ laidMetH Tryz.checked.prog laid (w.forCall tape i).memory) ∧ sizedMet enc Tryz.checked.prog fn (OpenSpec.ofChange s) false (w.forCall tape i).memory i.args) ∧ ({} : Assume).holds Tryz.checked.prog (lone (Frame.enter Tryz.checked.prog F i.args .normal) [] (w.forCall tape i)))
    (hs : s.vars = []) (hres : fn.resultTypes = #[4]) (hread : ∀ t ∈ fn.params.toList, Tryz.prog.readableRec t = true ∧ t < Tryz.prog.types.size)
    (hspec : ∀ ds : List (DataW H), ds.length = fn.params.toList.length → s.fn H ds = { results := [.lit (.bool true)], args := ds })
    (walk : ∀ (W : World) (args : Array Value) (ds : List (DataW H)) (p : List MemPlace), W.ShapedOpen Tryz.prog → laidMetH Tryz.prog laid W → (∀ (j : Nat) t v, fn.params[j]? = some t → args[j]? = some v → ∃ base, Value.okWide Tryz.prog W .any base t v) →
      DataW.TrodAll enc Tryz.prog W 0 (fun _ => true) true fn.params.toList args.toList ds p → W.noneFrozen p → Calls Tryz.prog F args W fun e W' => e = .returned (.bool true) ∧ Below W.heap.size W W') :
    ReturnsInHanded {} Tryz.checked os F .any (fun w args => (s.pre enc Tryz.checked.prog fn [] false w args ∧ laidMetH Tryz.checked.prog laid w) ∧ sizedMet enc Tryz.checked.prog fn (OpenSpec.ofChange s) false w args) (s.post enc Tryz.checked.prog fn false true false false) := by
  refine returnsInHanded_of_calls (C := Tryz.checked) Tryz.own started noInit witness ?_
  intro w tape i _ hsh _ hok hpre hholds
  obtain ⟨_, _, _, fn', hfn', _, _, _, _, hval⟩ := hok
  have e : fn' = fn := Option.some.inj (hfn'.symm.trans hfn)
  subst e
  obtain ⟨⟨⟨ds, gs, before, hw, hc⟩, hx⟩, hz⟩ := hpre
  have hW := DataW.Whole.of_heap (w' := w.forCall tape i) (by rfl) hw
  have hX : laidMetH Tryz.prog laid (w.forCall tape i) := laidMetH.of_heap (by rfl) hx
  generalize w.forCall tape i = W at *
  have hW' := hW
  obtain ⟨p, q, hA, hV, hpq, hfz, hnd⟩ := hW
  rw [hs] at hV
  obtain ⟨rfl, rfl⟩ := trodVars_none hV
  rw [List.append_nil] at hpq
  subst hpq
  refine (walk W i.args ds _ hsh hX (fun j t v h1 h2 => ⟨w.heap.size, hval j t v h1 h2⟩) hA hfz).mono fun e W' ⟨he, hb⟩ => ?_
  subst he
  have hsp : s.fn H (ds ++ []) = { results := [.lit (.bool true)], args := ds } := by
    rw [List.append_nil]; exact hspec ds (trodAll_len _ _ _ _ hA)
  have hlt := fun x hx => hW'.lt x hx
  refine ChangeSpec.post_blind (W := W) ?_
  refine post_of_below (pa := before) (pv := []) hW' (fun b sp hd => ?_) (fun sp h => ?_) (fun sp h => ?_) (by simp) hb ?_
  · rw [hsp, hres]; exact trodAll_mk1 (shut_bool Tryz.underlying4 _)
  · rw [hsp]; exact trodAll_below Tryz.laidOut hb _ _ _ _ hread hA hlt h
  · rw [hsp, hs]; rfl
  · rw [hres]; exact fun j t r h1 h2 => ok_one (f := fn') hres rfl (okWide_bool_mk Tryz.underlying4 _) j t r (by rw [hres]; exact h1) (by rw [hres]; exact h2)
end Go.Proofs.YtmhefhapighloaaGreatDoor

namespace Go.Proofs.YtmhefhapighloaaGreatDoor
noncomputable def doorWorld (os : Os) : World := (World.doorLaid Tryz.prog 72 os).setRow 4 (Go.Pinned.utf8FirstZ.map (fun z : Nat => Value.int .u8 (z : Int))).toArray
end Go.Proofs.YtmhefhapighloaaGreatDoor

namespace Go.Proofs.YtmhefhapighloaaGreatDoor
open Go.RowKit Go.WideShapes Go.ChangeShapes Go.ChangeAt Go.Deep

/-- Whatever the form's reader reads at type t reads by E. -/
def Opens {α : Type} (t : TypeId) (E : Cod α) : Prop :=
  ∀ {H : Type} {enc : TypeId × Value → H} {w : World} {n : Nat} {cs : List Value} {x : DataW H × List MemPlace},
    DataW.trod enc Tryz.prog w 0 (fun _ => true) true n t cs = some x → w.noneFrozen x.2 → ∃ y fp, E.rd w cs y fp

theorem opens_int {t : TypeId} (ht : Tryz.prog.underlying t = some (.int .i64)) : Opens t fInt.cod := by
  intro H enc w n cs x h _
  obtain ⟨k, rfl, rfl, wk⟩ := DataW.trod_int ht h
  refine ⟨k, [], rfl, ?_, rfl⟩
  exact bounds_i64 wk
theorem opens_str {t : TypeId} (ht : Tryz.prog.underlying t = some .string) : Opens t fStr.cod := by
  intro H enc w n cs x h _
  obtain ⟨s, rfl, rfl, hs⟩ := DataW.trod_string ht h
  exact ⟨s, [], rfl, by unfold maxLen at hs; exact hs, rfl⟩
theorem opens_bool {t : TypeId} (ht : Tryz.prog.underlying t = some .bool) : Opens t fBool.cod := by
  intro H enc w n cs x h _
  obtain ⟨s, rfl, rfl⟩ := DataW.trod_bool ht h
  exact ⟨s, [], rfl, trivial, rfl⟩

theorem add_none (b off x y : Nat) : ((⟨b, off, none⟩ : Addr).add x).add y = ⟨b, off + x + y, none⟩ := by
  unfold Addr.add
  by_cases hx : x = 0 <;> by_cases hy : y = 0 <;> simp [hx, hy]

theorem opens_slice {α : Type} {E : Cod α} {t e : TypeId} (ht : Tryz.prog.underlying t = some (.slice e)) (hn : Tryz.prog.cellsOf e = E.n) (he : Opens e E) : Opens t E.slice := by
  intro H enc w n cs x h hfz
  rcases open_slice ht h with ⟨rfl, rfl⟩ | ⟨a, len, cap, m, n', D, Pl, rfl, hb, hl, hm, hmm, hx, hi⟩
  · exact ⟨[], [], _, rfl, none, 0, rfl, by simp, by simp [maxLen], .inl ⟨rfl, rfl⟩⟩
  · simp only [if_true] at hmm
    subst hmm
    rcases Nat.eq_zero_or_pos len with h0 | h0
    · subst h0
      exact ⟨[], [], _, rfl, some a, m, rfl, by simp, hm, .inl ⟨rfl, rfl⟩⟩
    · rw [hn] at hi
      have hspot : a = ⟨a.block, a.off, none⟩ := by
        obtain ⟨cs', hc, _⟩ := hi 0 (by omega)
        obtain ⟨_, hcl, hat⟩ := World.cells?_some hc
        have h1 := hat 0 E.pos
        have hps := E.pos
        rw [List.getElem?_eq_getElem (by omega)] at h1
        have h2 : w.cell? a = some cs'[0] := by simpa [Addr.add] using h1
        have := World.cell?_spot h2
        cases a; simp_all
      have hel : ∀ i : Fin len, ∃ p : α × List Nat × List Value, (∀ j, j < E.n → w.cell? ⟨a.block, a.off + i.1 * E.n + j, none⟩ = p.2.2[j]?) ∧ (∀ j, j < E.n → w.frozen? ⟨a.block, a.off + i.1 * E.n + j, none⟩ = false) ∧ E.rd w p.2.2 p.1 p.2.1 := by
        intro ⟨i, hil⟩
        obtain ⟨cs', hc, htr⟩ := hi i (by omega)
        obtain ⟨_, hcl, hat⟩ := World.cells?_some hc
        have hsub : ∀ pl ∈ Pl i, pl ∈ x.2 := by
          intro pl hpl
          rw [hx]
          exact List.mem_append_right _ (List.mem_flatMap.2 ⟨i, by simp; omega, hpl⟩)
        obtain ⟨y, fp, hy⟩ := he htr (fun b off hmem => hfz b off (hsub _ hmem))
        refine ⟨⟨y, fp, cs'⟩, fun j hj => ?_, fun j hj => ?_, hy⟩
        · have := hat j hj
          rw [hspot, add_none] at this
          exact this
        · refine hfz _ _ ?_
          rw [hx]
          refine List.mem_append_left _ ?_
          unfold MemPlace.row
          refine List.mem_map.2 ⟨i * E.n + j, ?_, by rw [Nat.add_assoc]⟩
          rw [List.mem_range, hn]
          have : (i + 1) * E.n ≤ m * E.n := Nat.mul_le_mul_right _ (by omega)
          rw [Nat.succ_mul] at this
          omega
      obtain ⟨f, hf⟩ := Classical.axiomOfChoice hel
      have hblk : a.block < w.heap.size := by
        obtain ⟨h1, _, h3⟩ := hf ⟨0, h0⟩
        have h1 := h1 0 E.pos
        have h4 := E.len h3
        have hps := E.pos
        rw [List.getElem?_eq_getElem (by omega)] at h1
        exact block_lt_of_cell (a := ⟨a.block, _, none⟩) h1
      refine ⟨List.ofFn fun i => (f i).1, a.block :: (List.range len).flatMap fun i => if h : i < len then (f ⟨i, h⟩).2.1 else [], _, rfl, some a, m, by simp, by simpa using hl, hm,
        .inr ⟨a.block, a.off, _, by rw [← hspot], hblk, by rw [List.length_ofFn], fun i hil => ?_⟩⟩
      rw [List.length_ofFn] at hil
      obtain ⟨h1, h2, h3⟩ := hf ⟨i, hil⟩
      refine ⟨(f ⟨i, hil⟩).2.2, h1, h2, ?_⟩
      simpa [hil] using h3

/-- A struct of fields of one cell each. -/
theorem opens_fields {t : TypeId} {fs : Array Field} (ht : Tryz.prog.underlying t = some (.struct fs)) (hone : oneCellFields Tryz.prog fs = true) (hC : Tryz.prog.cellsOf t = fs.size)
    {H : Type} {enc : TypeId × Value → H} {w : World} {n : Nat} {cs : List Value} {x : DataW H × List MemPlace} (h : DataW.trod enc Tryz.prog w 0 (fun _ => true) true n t cs = some x) (hfz : w.noneFrozen x.2) :
    cs.length = fs.size ∧ ∀ (j : Nat) (f : Field), fs[j]? = some f → ∃ (v : Value) (m : Nat) (y : DataW H × List MemPlace), cs[j]? = some v ∧ DataW.trod enc Tryz.prog w 0 (fun _ => true) true m f.type [v] = some y ∧ w.noneFrozen y.2 := by
  obtain ⟨xs, n', rfl, hx, hl, hxl, hf⟩ := DataW.trod_struct ht h
  refine ⟨hl.trans hC, fun j f hj => ?_⟩
  have hjl : j < fs.size := (Array.getElem?_eq_some_iff.1 hj).1
  obtain ⟨ho, hk⟩ := hone_of hone j f hj
  have h1 := hf j f hj
  rw [ho, hk] at h1
  have hcl : j < cs.length := by rw [hl, hC]; exact hjl
  have e1 : (cs.drop j).take 1 = [cs[j]] := by
    rw [List.drop_eq_getElem_cons hcl]; rfl
  rw [e1, List.getElem?_eq_getElem (by omega)] at h1
  refine ⟨cs[j], n', xs[j], List.getElem?_eq_getElem hcl, h1, fun b off hm => hfz b off ?_⟩
  rw [hx]
  exact List.mem_flatMap.2 ⟨xs[j], List.getElem_mem _, hm⟩

/-- An argument that came in: its value reads. -/
theorem Opens.arg {α : Type} {t : TypeId} {E : Cod α} (ho : Opens t E) {H : Type} {enc : TypeId × Value → H} {w : World} {v : Value} {d : DataW H} {ps : List MemPlace}
    (h : DataW.Trod enc Tryz.prog w 0 (fun _ => true) true t v d ps) (hfz : w.noneFrozen ps) : ∃ y fp, E.rd w v.cells.toList y fp := by
  obtain ⟨n, hn⟩ := h
  exact ho hn hfz
theorem Opens.sl {α : Type} {t : TypeId} {E : Cod α} (ho : Opens t E.slice) {H : Type} {enc : TypeId × Value → H} {w : World} {v : Value} {d : DataW H} {ps : List MemPlace}
    (h : DataW.Trod enc Tryz.prog w 0 (fun _ => true) true t v d ps) (hfz : w.noneFrozen ps) {A : Option Addr} {len cap : Nat} (hv : v = .slice A len cap) : ∃ y fp, Sl E w v y fp := by
  obtain ⟨y, fp, u, hu, hs⟩ := ho.arg h hfz
  subst hv
  simp [Value.cells] at hu
  subst hu
  exact ⟨y, fp, hs⟩

end Go.Proofs.YtmhefhapighloaaGreatDoor

namespace Go.Proofs.YtmhefhapighloaaGreatDoor
open Go.RowKit Go.WideShapes Go.ChangeShapes Go.ChangeAt Go.Deep

set_option maxRecDepth 100000 in
set_option maxHeartbeats 400000 in
theorem opens_byte {t : TypeId} (ht : Tryz.prog.underlying t = some (.int .u8)) : Opens t fByte.cod := by
  intro H enc w n cs x h _
  obtain ⟨k, rfl, rfl, wk⟩ := DataW.trod_int ht h
  have hk : 0 ≤ k ∧ k ≤ 255 := by
    have h1 : IntKind.u8.min = 0 := by decide
    have h2 : IntKind.u8.max = 255 := by decide
    have := wk
    simp [Lit.wf, h1, h2] at this
    omega
  refine ⟨UInt8.ofNat k.toNat, [], ?_, trivial, rfl⟩
  show _ = [Value.int .u8 _]
  rw [UInt8.toNat_ofNat']
  congr 2
  omega
end Go.Proofs.YtmhefhapighloaaGreatDoor
