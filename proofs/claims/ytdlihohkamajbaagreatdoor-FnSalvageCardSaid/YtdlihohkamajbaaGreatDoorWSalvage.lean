/- The walk of FnSalvage. Written by wip/gen/fv.py. -/
import Derived.Test.YtdlihohkamajbaaGreatDoorFs
import Derived.Test.YtdlihohkamajbaaGreatDoorRe
import Derived.Test.YtdlihohkamajbaaGreatDoorFk
import Derived.Test.YtdlihohkamajbaaGreatDoorSb
namespace Go.Proofs.YtdlihohkamajbaaGreatDoor
open Go.RowKit
set_option linter.unusedVariables false

theorem saveL_pos (xs : List DBlock) : 1 < (saveL xs xs.length).length := by
  unfold saveL headS
  rw [data_append, data_append]
  simp
theorem count_step {X : List UInt8} {k : Nat} (h : k < X.length) : (X.take (k + 1)).count 10 = (X.take k).count 10 + (if X[k] = 10 then 1 else 0) := by
  rw [List.take_succ_eq_append_getElem h, List.count_append]
  congr 1
  rw [List.count_singleton]
  by_cases e : X[k] = 10 <;> simp [e]
theorem count_yes {X : List UInt8} {k : Nat} (h : k < X.length) (h1 : X[k] = 10) : (X.take (k + 1)).count 10 = (X.take k).count 10 + 1 := by rw [count_step h, if_pos h1]
theorem count_no {X : List UInt8} {k : Nat} (h : k < X.length) (h1 : ¬ X[k] = 10) : (X.take (k + 1)).count 10 = (X.take k).count 10 := by rw [count_step h, if_neg h1]; rfl
theorem byte10 {b x : UInt8} (h : b = x) (h1 : x = 10) : ((b.toNat : Int) == 10) = true := by subst h; subst h1; rfl
theorem byteN10 {b x : UInt8} (h : b = x) (h1 : ¬ x = 10) : ((b.toNat : Int) == 10) = false := by
  subst h
  rw [beq_eq_false_iff_ne]; intro e; exact h1 (UInt8.toNat_inj.1 (by have h9 : (10 : UInt8).toNat = 10 := rfl; omega))
set_option maxRecDepth 100000 in
set_option maxHeartbeats 8000000 in
theorem walkSalvage (v0 : Value) (xs0 : List UInt8) (fp0 : List Nat) (v1 : Value) (xs1 : List UInt8) (fp1 : List Nat) (w : World) (hx0 : Sl fByte.cod w v0 xs0 fp0) (hx1 : Sl fByte.cod w v1 xs1 fp1) (hsh : w.ShapedOpen Tryz.prog) (htab : Tab10 w) :
    Calls Tryz.prog 3 #[v0, v1] w fun e w' => YesR w e w' := by
  obtain ⟨m, hm⟩ := maxLen_cell hsh
  obtain ⟨i0, hi, hz0, hz1, hz2⟩ := info_parts infoBlock2
  obtain ⟨Av1, cv1, rfl, _, _⟩ := hx1.form
  go_enter Tryz.func3, Tryz.ntmps3
  go_wp2_with fail
  refine (r8Long_any _ _ _ _ _ _ _ hx0 hx1).mono ?_
  rintro e w' ⟨rfl, rfl⟩
  cases hlong : (decide (1048576 < xs0.length) || decide (1048576 < xs1.length))
  case true =>
    go_wp2
    go_ret
    exact ⟨rfl, Below.refl _ _⟩
  case false =>
    clear hlong
    go_wp2_with fail
    refine (R8Blocks_any _ _ _ _ hx0).mono ?_
    rintro e w1 ⟨y1, L, rfl, hdL, hlL, ⟨⟨f1, hs1, _, _⟩, hb1⟩⟩
    have hM1 := hx1.below' hb1
    go_wp2_with fail
    refine (specSaveBlocks_any _ _ _ _ hs1).mono ?_
    rintro e w2 ⟨rfl, hb2⟩
    have hB2 := hb1.trans (hb2.mono hb1.size)
    have hM2 := hM1.below' hb2
    have hL2 := hs1.below' hb2
    clear hM1 hs1 hx0 hx1
    have hSv : saveF L = mkB (saveL L L.length) := by unfold saveF mkB; rw [if_pos hdL.1]
    have hCv : saveC L = 0 := by unfold saveC; rw [if_pos hdL.1]
    have hlen := saveL_len hdL.1 L.length (Nat.le_refl _)
    have hpos := saveL_pos L
    have hplain : ∀ (a : Nat) (o c : UInt8), (saveL L L.length)[a]? = some o → o ≠ 10 → c ≠ 10 → o ≠ c → _ := fun a o c h1 h2 h3 h4 => salvage_plain hdL hlL h1 h2 h3 h4
    rw [hSv, hCv]
    clear hSv hCv hb1 hb2
    generalize saveL L L.length = X at *
    have hXs : (mkB X).size = X.length := mkB_size X
    obtain ⟨cp, w3, hcv, hsB, hb3⟩ := bytes_made w2 (mkB X) (by omega) (by omega)
    rw [mkB_data, hXs] at hsB
    rw [hXs] at hcv
    have hB3 := hB2.trans (hb3.mono hB2.size)
    have hM3 := hM2.below' hb3
    have hL3 := hL2.below' hb3
    have hgB : w2.heap.size < w3.heap.size := hsB.lt _ (by simp)
    have hlo : w.heap.size ≤ w2.heap.size := hB2.size
    have hL2lt := hL2.lt
    have hM2lt := hM2.lt
    clear hM2 hL2 hb3 hB2
    go_wp2_with fail
    refine (r8Wide_any _ xs1 fp1 0 _ _ hM3 (by omega) (by omega) (by omega)).mono ?_
    rintro e w' ⟨r, rfl, ⟨hr0, hr1⟩, rfl⟩
    obtain ⟨a, rfl⟩ : ∃ a : Nat, r = a := ⟨r.toNat, by omega⟩
    have ha : a < X.length := by omega
    clear hcv
    generalize w2.heap.size = g at *
    obtain ⟨cX, fX⟩ := hsB.cellB ha
    have hplain := hplain a X[a]
    have hXa : X[a]? = some X[a] := List.getElem?_eq_getElem ha
    obtain ⟨oo, hoo⟩ : ∃ oo, oo = X[a] := ⟨_, rfl⟩
    rw [← hoo] at cX hplain hXa
    clear hoo
    have hoo2 := oo.toNat_lt
    go_wp2
    have cXd : w3.drew.cell? ⟨g, a, none⟩ = some (.int .u8 oo.toNat) := cX
    have fXd : w3.drew.frozen? ⟨g, a, none⟩ = false := fX
    have hMd := hM3.below' (Below.drew (Below.refl _ _))
    have hLd := hL3.below' (Below.drew (Below.refl _ _))
    have hBd := hsB.below' (Below.drew (Below.refl _ _))
    have hB4 : Below w.heap.size w w3.drew := hB3.drew
    clear hM3 hL3 cX fX
    refine wp_region_fork (C := fun _ => True) [0, 1, 2, 4] 3 [5, 6, 7, 8, 9, 10] [false, true, true, true, true, false] 5 [6, 7, 3, 8, 9, 10] [true, true, false, true, true, false] (by kernel_rfl) (by kernel_rfl) (by kernel_rfl) (fun _ _ d _ _ h => by cases d <;> exact h) trivial ?_
    simp only [List.map_cons, List.map_nil, List.getD_cons_zero, List.getD_cons_succ]
    have hS0 : Below (w3.heap.size) w3 w3.drew := Below.drew (Below.refl _ _)
    refine wpFork_pure (by kernel_rfl) (fun K hK => ?_)
    go_big_quiet_op
    refine hK _ ?_; clear hK K
    refine wpFork_pure (by kernel_rfl) (fun K hK => ?_)
    go_big_quiet_op
    refine hK _ ?_; clear hK K
    refine wpFork_pure (by kernel_rfl) (fun K hK => ?_)
    go_big_quiet_op
    refine hK _ ?_; clear hK K
    refine wpFork_pure (by kernel_rfl) (fun K hK => ?_)
    go_big_quiet_op
    refine hK _ ?_; clear hK K
    refine wpFork_split ?_ ?_
    · skip
      refine wpMix_act (by kernel_rfl) (fun K hK => ?_)
      go_big_op
      try simp only [Act.put, List.setIfInBounds_toArray, List.set_cons_zero, List.set_cons_succ]
      refine hK _ _ trivial ?_
      clear hK K
      refine wpMix_act (by kernel_rfl) (fun K hK => ?_)
      go_big_op
      refine (r8At_any _ xs1 fp1 2 255 _ hMd (by omega) (by omega)).mono ?_
      rintro e w' ⟨r, rfl, ⟨hr0, hr1⟩, rfl⟩
      obtain ⟨d, hd⟩ : ∃ d : UInt8, (1 + r) = (d.toNat : Int) := ⟨UInt8.ofNat (1 + r).toNat, by rw [UInt8.toNat_ofNat']; omega⟩
      have hd0 : d ≠ 0 := by intro e0; subst e0; have : ((0 : UInt8).toNat : Int) = 0 := rfl; omega
      obtain ⟨c, hcd⟩ : ∃ c : UInt8, c = oo ^^^ d := ⟨_, rfl⟩
      have hxor : bits .xor .u8 (oo.toNat : Int) (1 + r) = (c.toNat : Int) := by rw [hd, hcd]; exact xor_u8 oo d
      have hw1 : wrap64 (1 + r) = 1 + r := w64_inD _ (by omega)
      have hoc : oo ≠ c := by rw [hcd]; exact xor_ne8 hd0
      have HD8 := Lib.hid hd
      clear hd hcd
      try simp only [Act.put, List.setIfInBounds_toArray, List.set_cons_zero, List.set_cons_succ]
      refine hK _ _ trivial ?_
      clear hK K
      refine wpMix_pure (by kernel_rfl) (fun K hK => ?_)
      go_big_quiet_op
      refine hK _ ?_; clear hK K
      refine wpMix_pure (by kernel_rfl) (fun K hK => ?_)
      go_big_quiet_op
      refine hK _ ?_; clear hK K
      refine wpMix_pure (by kernel_rfl) (fun K hK => ?_)
      go_big_quiet_op
      refine hK _ ?_; clear hK K
      refine wpMix_pure (by kernel_rfl) (fun K hK => ?_)
      go_big_quiet_op
      refine hK _ ?_; clear hK K
      refine wpMix_act (by kernel_rfl) (fun K hK => ?_)
      go_big_op
      try simp only [Act.put, List.setIfInBounds_toArray, List.set_cons_zero, List.set_cons_succ]
      refine hK _ _ trivial ?_
      clear hK K
      refine wpMix_nil ?_
      have hoc2 := hoc
      first
        | rw [show (w3.setCell ⟨g, a, none⟩ (.int .u8 (bits .xor .u8 (oo.toNat : Int) (1 + r)))).drew = w3.drew.setCell ⟨g, a, none⟩ (.int .u8 (c.toNat : Int)) from by rw [hxor]; rfl]
        | rw [show (w3.setCell ⟨g, a, none⟩ (.int .u8 (c.toNat : Int))).drew = w3.drew.setCell ⟨g, a, none⟩ (.int .u8 (c.toNat : Int)) from rfl]
        | rw [show w3.drew.setCell ⟨g, a, none⟩ (.int .u8 (bits .xor .u8 (oo.toNat : Int) (1 + r))) = w3.drew.setCell ⟨g, a, none⟩ (.int .u8 (c.toNat : Int)) from by rw [hxor]]
        | skip
      have hsC := hBd.setB ha c
      have hB5 : Below w.heap.size w (w3.drew.setCell ⟨g, a, none⟩ (.int .u8 c.toNat)) := hB4.setCell (p := ⟨g, a, none⟩) hlo _
      have hO5 : Only [g] w3.drew (w3.drew.setCell ⟨g, a, none⟩ (.int .u8 c.toNat)) := (Only.refl _ _).set a _
      have hL5 := hLd.only hO5 (fun b hb => by have := hL2lt b hb; simp; omega)
      obtain ⟨cC, _⟩ := hsC.cellB (k := a) (by simpa using ha)
      rw [List.getElem_set_self] at cC
      clear hO5 hLd hMd hBd hsB cXd fXd hxor hw1 HD8 hB4 hB3 hM2lt
      generalize w3.drew.setCell ⟨g, a, none⟩ (.int .u8 c.toNat) = w5 at *
      have hplain := hplain c hXa
      have hXt : ∀ k (hk : k < X.length), (mkB X)[k]'(by omega) = X[k] := fun k hk => by unfold mkB; rfl
      go_wp2
      go_loopw [11, 12] (fun ln i wr => ∃ k : Nat, k ≤ a ∧ i = .int .i64 k ∧ ln = .int .i64 (1 + (((X.take k).count 10 : Nat) : Int)) ∧ Below w5.heap.size w5 wr) (fun _ i _ => a - (intOf i).toNat)
      case atStart => exact ⟨0, Nat.zero_le _, rfl, by simp, Below.refl _ _⟩
      case round =>
        obtain ⟨k, hk, rfl, rfl, hb⟩ := hrel
        have hcl := List.count_le_length (a := (10 : UInt8)) (l := X.take k)
        rw [List.length_take] at hcl
        by_cases hlt : k < a
        · have hkx : k < X.length := by omega
          have hkm : k < (mkB X).size := by omega
          have hxk := hXt k hkx
          by_cases h10 : X[k] = 10
          · have e1 : ((X[k].toNat : Int) == 10) = true := byte10 rfl h10
            have hst := count_yes hkx h10
            have HST := Lib.hid hst
            clear hst
            go_wp2
            go_roundw
            case rel => exact ⟨k + 1, by omega, by go_num, by rw [HST.out]; first | rfl | (congr 1; push_cast; omega) | go_num, hb⟩
            case measure => simp [intOf]; omega
          · have e1 : ((X[k].toNat : Int) == 10) = false := byteN10 rfl h10
            have hst := count_no hkx h10
            have HST := Lib.hid hst
            clear hst
            go_wp2
            go_roundw
            case rel => exact ⟨k + 1, by omega, by go_num, by rw [HST.out], hb⟩
            case measure => simp [intOf]; omega
        · obtain rfl : k = a := by omega
          have cCr := (hb.cell (p := ⟨g, k, none⟩) (block_lt_of_cell cC)).trans cC
          have hBr := hB5.trans (hb.mono hB5.size)
          have hLr := hL5.below' hb
          have hsr := hsC.below' hb
          have hc2 := c.toNat_lt
          by_cases ho10 : oo = 10
          · have e1 : ((oo.toNat : Int) == 10) = true := by rw [ho10]; rfl
            go_wp2
            go_ret
            exact ⟨rfl, hBr⟩
          · have e1 : ((oo.toNat : Int) == 10) = false := by
              rw [beq_eq_false_iff_ne]; intro e; exact ho10 (UInt8.toNat_inj.1 (by have h9 : (10 : UInt8).toNat = 10 := rfl; omega))
            by_cases hc10 : c = 10
            · have e2 : ((c.toNat : Int) == 10) = true := by rw [hc10]; rfl
              go_wp2
              go_ret
              exact ⟨rfl, hBr⟩
            · have e2 : ((c.toNat : Int) == 10) = false := by
                rw [beq_eq_false_iff_ne]; intro e; exact hc10 (UInt8.toNat_inj.1 (by have h9 : (10 : UInt8).toNat = 10 := rfl; omega))
              obtain ⟨i, hci, hij⟩ := hplain ho10 hc10 hoc2
              rcases hij with h0 | ⟨j, rfl, hj, hdm, hsg⟩
              · have e3 : ((1 : Int) + (((X.take k).count 10 : Nat) : Int)) = 1 := by rw [hci, h0]; rfl
                rw [e3]
                go_wp2
                go_ret
                exact ⟨rfl, hBr⟩
              · have e3 : ((1 : Int) + (((X.take k).count 10 : Nat) : Int)) = (j : Int) + 2 := by rw [hci]; push_cast; omega
                rw [e3]
                have e4 : (((j : Int) + 2) == 1) = false := by rw [beq_eq_false_iff_ne]; omega
                have hlX : (X.set k c).length = X.length := List.length_set
                have hsz : (mkB (X.set k c)).size ≤ 1048576 := by rw [mkB_size, hlX]; omega
                have hcv2 : ∀ {W : World}, Below wr.heap.size wr W → (convert 22 9 (.slice (some ⟨g, 0, none⟩) X.length cp)).run Tryz.prog W = .ok (.string (mkB (X.set k c))) W := fun {W} hW => by
                  have h := (hsr.below' hW)
                  rw [← hlX] at h
                  have h2 := h.textB
                  rw [hlX] at h2
                  exact h2
                have hq0 := hcv2 (Below.refl _ _)
                have hmr := cell_below hBr hm
                have htr := htab.below hBr
                have P1 := implDamagedLines_any (mkB (X.set k c)) m wr hsz hmr htr
                rw [hdm] at P1
                clear hci e3 hcl hsC hplain hdm hXt
                have HSG := Lib.hid hsg
                clear hsg
                go_wp2_with fail
                refine P1.mono ?_
                rintro e w6 ⟨v6, rfl, ⟨⟨f6, hs6, _, _⟩, hb6⟩⟩
                clear P1 hq0
                have hq1 := hcv2 hb6
                have hB6 := hBr.trans (hb6.mono hBr.size)
                have hL6 := hLr.below' hb6
                have P2 := implSalvageBlocks_any (mkB (X.set k c)) m w6 hsz (cell_below hB6 hm) (htab.below hB6)
                rw [HSG.out] at P2
                clear hcv2
                go_wp2_with fail
                refine P2.mono ?_
                rintro e w7 ⟨v7, rfl, ⟨⟨f7, hs7, _, _⟩, hb7⟩⟩
                clear P2 hq1
                have hB7 := hB6.trans (hb7.mono hB6.size)
                have hL7 := hL6.below' hb7
                have hs67 := hs6.below' hb7
                have hbl : Below w7.heap.size w7 (w7.alloc (.cells #[.int .i64 ((j : Int) + 2)] 2)) := (Below.refl _ _).alloc (Nat.le_refl _) _
                have hsl1 : Sl fInt.cod (w7.alloc (.cells #[.int .i64 ((j : Int) + 2)] 2)) (.slice (some ⟨w7.heap.size, 0, none⟩) 1 1) [(j : Int) + 2] [w7.heap.size] := Sl.lit2 (E := fInt) w7 [(j : Int) + 2] 2 _ rfl (by intro x hx; rw [List.mem_singleton] at hx; subst hx; show _ ∧ _; omega) (by show 0 < 1; omega) (by show 1 ≤ _; omega)
                have hs68 := hs67.below' hbl
                have hL8 := hL7.below' hbl
                have hs78 := hs7.below' hbl
                have hB8 := hB7.trans (hbl.mono hB7.size)
                clear hs67 hs6 hL6 hL7 hs7
                go_wp2_with fail
                refine (r8Same_any _ _ _ _ _ _ hs68 hsl1).mono ?_
                rintro e w9 ⟨rfl, hb9⟩
                have hB9 := hB8.trans (hb9.mono hB8.size)
                have hL9 := hL8.below' hb9
                have hs9 := hs78.below' hb9
                clear hs68 hsl1 hL8 hs78
                obtain ⟨b1, o1, cL, rfl⟩ : ∃ b1 o1 cL, y1 = .slice (some ⟨b1, o1, none⟩) L.length cL := by
                  obtain ⟨A9, c9, rfl, _, _⟩ := hL9.form
                  obtain ⟨b1, o1, hA, _, _, _⟩ := PBlock.elem hL9 hj
                  subst hA
                  exact ⟨b1, o1, c9, rfl⟩
                obtain ⟨A9, c9, hvL, hleL, hcapL⟩ := hL9.form
                injection hvL with hvA _ hvc
                subst hvA
                subst hvc
                have e5 : ((j : Int) + 2 - 2) = (j : Int) := by omega
                have e6 : ((j : Int) + 2 - 1) = (j : Int) + 1 := by omega
                by_cases hce : cL = j + 1
                · subst hce
                  have hLl : L.length = j + 1 := by omega
                  have hdrop : L.drop (j + 1) = [] := List.drop_of_length_le (by omega)
                  rw [hLl]
                  go_wp2
                  refine wp_region_mixed [1, 2, 3, 4, 6, 7, 8, 9, 0, 5, 10, 11] (C := fun _ => True) [true, true, true, true, true, true, true, true, false, false, false, true] (by kernel_rfl) (by kernel_rfl) (by kernel_rfl) (fun _ _ d _ _ h => by cases d <;> exact h) trivial ?_
                  simp only [List.map_cons, List.map_nil, List.getD_cons_zero, List.getD_cons_succ]
                  have hS0 : Below (w9.heap.size) w9 w9.drew := Below.drew (Below.refl _ _)
                  refine wpMix_pure (by kernel_rfl) (fun K hK => ?_)
                  go_big_quiet_op
                  refine hK _ ?_; clear hK K
                  refine wpMix_pure (by kernel_rfl) (fun K hK => ?_)
                  go_big_quiet_op
                  refine hK _ ?_; clear hK K
                  refine wpMix_pure (by kernel_rfl) (fun K hK => ?_)
                  go_big_quiet_op
                  refine hK _ ?_; clear hK K
                  refine wpMix_pure (by kernel_rfl) (fun K hK => ?_)
                  go_big_quiet_op
                  refine hK _ ?_; clear hK K
                  refine wpMix_pure (by kernel_rfl) (fun K hK => ?_)
                  go_big_quiet_op
                  refine hK _ ?_; clear hK K
                  refine wpMix_pure (by kernel_rfl) (fun K hK => ?_)
                  go_big_quiet_op
                  refine hK _ ?_; clear hK K
                  refine wpMix_pure (by kernel_rfl) (fun K hK => ?_)
                  go_big_quiet_op
                  refine hK _ ?_; clear hK K
                  refine wpMix_pure (by kernel_rfl) (fun K hK => ?_)
                  go_big_quiet_op
                  refine hK _ ?_; clear hK K
                  refine wpMix_act (by kernel_rfl) (fun K hK => ?_)
                  go_big_op
                  have hoA : Own fBlock (w9.drew.alloc (.cells #[] 52)) w9.heap.size 52 (.slice (some ⟨w9.heap.size, 0, none⟩) 0 0) [] := Own.lit0 fBlock w9.drew 52
                  have hbA : Below w9.heap.size w9 (w9.drew.alloc (.cells #[] 52)) := (Below.drew (Below.refl _ _)).alloc (Nat.le_refl _) _
                  have hLA := hL9.below' hbA
                  have hsrc1 := hLA.src_take (k := j) (c := j + 1) (by omega)
                  try simp only [Act.put, List.setIfInBounds_toArray, List.set_cons_zero, List.set_cons_succ]
                  refine hK _ _ trivial ?_
                  clear hK K
                  refine wpMix_act (by kernel_rfl) (fun K hK => ?_)
                  refine wp_append_src (E := fBlock) _ _ 24 rfl w9.heap.size 52 i0 (.agg #[.string ⟨#[]⟩, .string ⟨#[]⟩, .string ⟨#[]⟩]) 48 Tryz.underlying24 hi hz0 hz1 hz2 rfl (.slice (some ⟨w9.heap.size, 0, none⟩) 0 0) [] rfl hoA _ (L.take j) rfl hsrc1 (by simp; omega) (by decide) hbA.size ?_
                  intro v5 u5 hown5 hbu5
                  rw [List.nil_append] at hown5
                  have hbu5s := hbA.trans hbu5
                  have hL5_ := hL9.below' hbu5s
                  have hsrc2 : Src fBlock u5 (.slice (some ⟨b1, o1, none⟩) 0 0) ([] : List DBlock) := Src.empty
                  try simp only [Act.put, List.setIfInBounds_toArray, List.set_cons_zero, List.set_cons_succ]
                  refine hK _ _ trivial ?_
                  clear hK K
                  refine wpMix_act (by kernel_rfl) (fun K hK => ?_)
                  refine wp_append_src (E := fBlock) _ _ 24 rfl w9.heap.size 52 i0 (.agg #[.string ⟨#[]⟩, .string ⟨#[]⟩, .string ⟨#[]⟩]) 48 Tryz.underlying24 hi hz0 hz1 hz2 rfl v5 (L.take j) rfl hown5 _ [] rfl hsrc2 (by simp; omega) (by decide) hbu5s.size ?_
                  intro v6_ u6_ hown6 hbu6
                  have hbu6s := hbu5s.trans hbu6
                  try simp only [Act.put, List.setIfInBounds_toArray, List.set_cons_zero, List.set_cons_succ]
                  refine hK _ _ trivial ?_
                  clear hK K
                  refine wpMix_pure (by kernel_rfl) (fun K hK => ?_)
                  go_big_quiet_op
                  refine hK _ ?_; clear hK K
                  refine wpMix_nil ?_
                  have hfin : Own fBlock u6_ w9.heap.size 52 v6_ (L.take j ++ L.drop (j + 1)) := by rw [hdrop]; exact hown6
                  have hokL := hL9.oks
                  have hok2 : ∀ x ∈ L.take j ++ L.drop (j + 1), fBlock.ok x := fun x hx => by
                    rcases List.mem_append.1 hx with hx | hx
                    · exact hokL x (List.mem_of_mem_take hx)
                    · exact hokL x (List.mem_of_mem_drop hx)
                  obtain ⟨fq, hsq, _, _⟩ := Sl.of_own (n := (L.take j ++ L.drop (j + 1)).length) rfl hfin hok2
                  have hs10 := hs9.below' hbu6s
                  have hB10 := hB9.trans (hbu6s.mono hB9.size)
                  clear hown5 hown6 hfin
                  go_wp2_with fail
                  refine (specSameBlocks_any _ _ _ _ _ _ _ hs10 hsq).mono ?_
                  rintro e w11 ⟨rfl, hb11⟩
                  rw [decide_eq_true rfl]
                  go_wp2
                  go_ret
                  exact ⟨rfl, hB10.trans (hb11.mono hB10.size)⟩
                · have hcl : j + 1 < cL := by omega
                  go_wp2
                  refine wp_region_mixed [1, 2, 3, 4, 6, 7, 8, 9, 0, 5, 10, 11] (C := fun _ => True) [true, true, true, true, true, true, true, true, false, false, false, true] (by kernel_rfl) (by kernel_rfl) (by kernel_rfl) (fun _ _ d _ _ h => by cases d <;> exact h) trivial ?_
                  simp only [List.map_cons, List.map_nil, List.getD_cons_zero, List.getD_cons_succ]
                  have hS0 : Below (w9.heap.size) w9 w9.drew := Below.drew (Below.refl _ _)
                  refine wpMix_pure (by kernel_rfl) (fun K hK => ?_)
                  go_big_quiet_op
                  refine hK _ ?_; clear hK K
                  refine wpMix_pure (by kernel_rfl) (fun K hK => ?_)
                  go_big_quiet_op
                  refine hK _ ?_; clear hK K
                  refine wpMix_pure (by kernel_rfl) (fun K hK => ?_)
                  go_big_quiet_op
                  refine hK _ ?_; clear hK K
                  refine wpMix_pure (by kernel_rfl) (fun K hK => ?_)
                  go_big_quiet_op
                  refine hK _ ?_; clear hK K
                  refine wpMix_pure (by kernel_rfl) (fun K hK => ?_)
                  go_big_quiet_op
                  refine hK _ ?_; clear hK K
                  refine wpMix_pure (by kernel_rfl) (fun K hK => ?_)
                  go_big_quiet_op
                  refine hK _ ?_; clear hK K
                  refine wpMix_pure (by kernel_rfl) (fun K hK => ?_)
                  go_big_quiet_op
                  refine hK _ ?_; clear hK K
                  refine wpMix_pure (by kernel_rfl) (fun K hK => ?_)
                  go_big_quiet_op
                  refine hK _ ?_; clear hK K
                  refine wpMix_act (by kernel_rfl) (fun K hK => ?_)
                  go_big_op
                  have hoA : Own fBlock (w9.drew.alloc (.cells #[] 52)) w9.heap.size 52 (.slice (some ⟨w9.heap.size, 0, none⟩) 0 0) [] := Own.lit0 fBlock w9.drew 52
                  have hbA : Below w9.heap.size w9 (w9.drew.alloc (.cells #[] 52)) := (Below.drew (Below.refl _ _)).alloc (Nat.le_refl _) _
                  have hLA := hL9.below' hbA
                  have hsrc1 := hLA.src_take (k := j) (c := cL) (by omega)
                  try simp only [Act.put, List.setIfInBounds_toArray, List.set_cons_zero, List.set_cons_succ]
                  refine hK _ _ trivial ?_
                  clear hK K
                  refine wpMix_act (by kernel_rfl) (fun K hK => ?_)
                  refine wp_append_src (E := fBlock) _ _ 24 rfl w9.heap.size 52 i0 (.agg #[.string ⟨#[]⟩, .string ⟨#[]⟩, .string ⟨#[]⟩]) 48 Tryz.underlying24 hi hz0 hz1 hz2 rfl (.slice (some ⟨w9.heap.size, 0, none⟩) 0 0) [] rfl hoA _ (L.take j) rfl hsrc1 (by simp; omega) (by decide) hbA.size ?_
                  intro v5 u5 hown5 hbu5
                  rw [List.nil_append] at hown5
                  have hbu5s := hbA.trans hbu5
                  have hL5_ := hL9.below' hbu5s
                  have hsrc2 := hL5_.src_drop (k := j + 1) (c := cL - (j + 1)) (by omega)
                  try simp only [Act.put, List.setIfInBounds_toArray, List.set_cons_zero, List.set_cons_succ]
                  refine hK _ _ trivial ?_
                  clear hK K
                  refine wpMix_act (by kernel_rfl) (fun K hK => ?_)
                  refine wp_append_src (E := fBlock) _ _ 24 rfl w9.heap.size 52 i0 (.agg #[.string ⟨#[]⟩, .string ⟨#[]⟩, .string ⟨#[]⟩]) 48 Tryz.underlying24 hi hz0 hz1 hz2 rfl v5 (L.take j) rfl hown5 _ (L.drop (j + 1)) rfl hsrc2 (by simp; omega) (by decide) hbu5s.size ?_
                  intro v6_ u6_ hown6 hbu6
                  have hbu6s := hbu5s.trans hbu6
                  try simp only [Act.put, List.setIfInBounds_toArray, List.set_cons_zero, List.set_cons_succ]
                  refine hK _ _ trivial ?_
                  clear hK K
                  refine wpMix_pure (by kernel_rfl) (fun K hK => ?_)
                  go_big_quiet_op
                  refine hK _ ?_; clear hK K
                  refine wpMix_nil ?_
                  have hfin : Own fBlock u6_ w9.heap.size 52 v6_ (L.take j ++ L.drop (j + 1)) := by exact hown6
                  have hokL := hL9.oks
                  have hok2 : ∀ x ∈ L.take j ++ L.drop (j + 1), fBlock.ok x := fun x hx => by
                    rcases List.mem_append.1 hx with hx | hx
                    · exact hokL x (List.mem_of_mem_take hx)
                    · exact hokL x (List.mem_of_mem_drop hx)
                  obtain ⟨fq, hsq, _, _⟩ := Sl.of_own (n := (L.take j ++ L.drop (j + 1)).length) rfl hfin hok2
                  have hs10 := hs9.below' hbu6s
                  have hB10 := hB9.trans (hbu6s.mono hB9.size)
                  clear hown5 hown6 hfin
                  go_wp2_with fail
                  refine (specSameBlocks_any _ _ _ _ _ _ _ hs10 hsq).mono ?_
                  rintro e w11 ⟨rfl, hb11⟩
                  rw [decide_eq_true rfl]
                  go_wp2
                  go_ret
                  exact ⟨rfl, hB10.trans (hb11.mono hB10.size)⟩
    · skip
      refine wpMix_act (by kernel_rfl) (fun K hK => ?_)
      go_big_op
      refine (r8At_any _ xs1 fp1 2 255 _ hMd (by omega) (by omega)).mono ?_
      rintro e w' ⟨r, rfl, ⟨hr0, hr1⟩, rfl⟩
      obtain ⟨d, hd⟩ : ∃ d : UInt8, (1 + r) = (d.toNat : Int) := ⟨UInt8.ofNat (1 + r).toNat, by rw [UInt8.toNat_ofNat']; omega⟩
      have hd0 : d ≠ 0 := by intro e0; subst e0; have : ((0 : UInt8).toNat : Int) = 0 := rfl; omega
      obtain ⟨c, hcd⟩ : ∃ c : UInt8, c = oo ^^^ d := ⟨_, rfl⟩
      have hxor : bits .xor .u8 (oo.toNat : Int) (1 + r) = (c.toNat : Int) := by rw [hd, hcd]; exact xor_u8 oo d
      have hw1 : wrap64 (1 + r) = 1 + r := w64_inD _ (by omega)
      have hoc : oo ≠ c := by rw [hcd]; exact xor_ne8 hd0
      have HD8 := Lib.hid hd
      clear hd hcd
      try simp only [Act.put, List.setIfInBounds_toArray, List.set_cons_zero, List.set_cons_succ]
      refine hK _ _ trivial ?_
      clear hK K
      refine wpMix_pure (by kernel_rfl) (fun K hK => ?_)
      go_big_quiet_op
      refine hK _ ?_; clear hK K
      refine wpMix_pure (by kernel_rfl) (fun K hK => ?_)
      go_big_quiet_op
      refine hK _ ?_; clear hK K
      refine wpMix_act (by kernel_rfl) (fun K hK => ?_)
      go_big_op
      try simp only [Act.put, List.setIfInBounds_toArray, List.set_cons_zero, List.set_cons_succ]
      refine hK _ _ trivial ?_
      clear hK K
      refine wpMix_pure (by kernel_rfl) (fun K hK => ?_)
      go_big_quiet_op
      refine hK _ ?_; clear hK K
      refine wpMix_pure (by kernel_rfl) (fun K hK => ?_)
      go_big_quiet_op
      refine hK _ ?_; clear hK K
      refine wpMix_act (by kernel_rfl) (fun K hK => ?_)
      go_big_op
      try simp only [Act.put, List.setIfInBounds_toArray, List.set_cons_zero, List.set_cons_succ]
      refine hK _ _ trivial ?_
      clear hK K
      refine wpMix_nil ?_
      have hoc2 := hoc
      first
        | rw [show (w3.setCell ⟨g, a, none⟩ (.int .u8 (bits .xor .u8 (oo.toNat : Int) (1 + r)))).drew = w3.drew.setCell ⟨g, a, none⟩ (.int .u8 (c.toNat : Int)) from by rw [hxor]; rfl]
        | rw [show (w3.setCell ⟨g, a, none⟩ (.int .u8 (c.toNat : Int))).drew = w3.drew.setCell ⟨g, a, none⟩ (.int .u8 (c.toNat : Int)) from rfl]
        | rw [show w3.drew.setCell ⟨g, a, none⟩ (.int .u8 (bits .xor .u8 (oo.toNat : Int) (1 + r))) = w3.drew.setCell ⟨g, a, none⟩ (.int .u8 (c.toNat : Int)) from by rw [hxor]]
        | skip
      have hsC := hBd.setB ha c
      have hB5 : Below w.heap.size w (w3.drew.setCell ⟨g, a, none⟩ (.int .u8 c.toNat)) := hB4.setCell (p := ⟨g, a, none⟩) hlo _
      have hO5 : Only [g] w3.drew (w3.drew.setCell ⟨g, a, none⟩ (.int .u8 c.toNat)) := (Only.refl _ _).set a _
      have hL5 := hLd.only hO5 (fun b hb => by have := hL2lt b hb; simp; omega)
      obtain ⟨cC, _⟩ := hsC.cellB (k := a) (by simpa using ha)
      rw [List.getElem_set_self] at cC
      clear hO5 hLd hMd hBd hsB cXd fXd hxor hw1 HD8 hB4 hB3 hM2lt
      generalize w3.drew.setCell ⟨g, a, none⟩ (.int .u8 c.toNat) = w5 at *
      have hplain := hplain c hXa
      have hXt : ∀ k (hk : k < X.length), (mkB X)[k]'(by omega) = X[k] := fun k hk => by unfold mkB; rfl
      go_wp2
      go_loopw [11, 12] (fun ln i wr => ∃ k : Nat, k ≤ a ∧ i = .int .i64 k ∧ ln = .int .i64 (1 + (((X.take k).count 10 : Nat) : Int)) ∧ Below w5.heap.size w5 wr) (fun _ i _ => a - (intOf i).toNat)
      case atStart => exact ⟨0, Nat.zero_le _, rfl, by simp, Below.refl _ _⟩
      case round =>
        obtain ⟨k, hk, rfl, rfl, hb⟩ := hrel
        have hcl := List.count_le_length (a := (10 : UInt8)) (l := X.take k)
        rw [List.length_take] at hcl
        by_cases hlt : k < a
        · have hkx : k < X.length := by omega
          have hkm : k < (mkB X).size := by omega
          have hxk := hXt k hkx
          by_cases h10 : X[k] = 10
          · have e1 : ((X[k].toNat : Int) == 10) = true := byte10 rfl h10
            have hst := count_yes hkx h10
            have HST := Lib.hid hst
            clear hst
            go_wp2
            go_roundw
            case rel => exact ⟨k + 1, by omega, by go_num, by rw [HST.out]; first | rfl | (congr 1; push_cast; omega) | go_num, hb⟩
            case measure => simp [intOf]; omega
          · have e1 : ((X[k].toNat : Int) == 10) = false := byteN10 rfl h10
            have hst := count_no hkx h10
            have HST := Lib.hid hst
            clear hst
            go_wp2
            go_roundw
            case rel => exact ⟨k + 1, by omega, by go_num, by rw [HST.out], hb⟩
            case measure => simp [intOf]; omega
        · obtain rfl : k = a := by omega
          have cCr := (hb.cell (p := ⟨g, k, none⟩) (block_lt_of_cell cC)).trans cC
          have hBr := hB5.trans (hb.mono hB5.size)
          have hLr := hL5.below' hb
          have hsr := hsC.below' hb
          have hc2 := c.toNat_lt
          by_cases ho10 : oo = 10
          · have e1 : ((oo.toNat : Int) == 10) = true := by rw [ho10]; rfl
            go_wp2
            go_ret
            exact ⟨rfl, hBr⟩
          · have e1 : ((oo.toNat : Int) == 10) = false := by
              rw [beq_eq_false_iff_ne]; intro e; exact ho10 (UInt8.toNat_inj.1 (by have h9 : (10 : UInt8).toNat = 10 := rfl; omega))
            by_cases hc10 : c = 10
            · have e2 : ((c.toNat : Int) == 10) = true := by rw [hc10]; rfl
              go_wp2
              go_ret
              exact ⟨rfl, hBr⟩
            · have e2 : ((c.toNat : Int) == 10) = false := by
                rw [beq_eq_false_iff_ne]; intro e; exact hc10 (UInt8.toNat_inj.1 (by have h9 : (10 : UInt8).toNat = 10 := rfl; omega))
              obtain ⟨i, hci, hij⟩ := hplain ho10 hc10 hoc2
              rcases hij with h0 | ⟨j, rfl, hj, hdm, hsg⟩
              · have e3 : ((1 : Int) + (((X.take k).count 10 : Nat) : Int)) = 1 := by rw [hci, h0]; rfl
                rw [e3]
                go_wp2
                go_ret
                exact ⟨rfl, hBr⟩
              · have e3 : ((1 : Int) + (((X.take k).count 10 : Nat) : Int)) = (j : Int) + 2 := by rw [hci]; push_cast; omega
                rw [e3]
                have e4 : (((j : Int) + 2) == 1) = false := by rw [beq_eq_false_iff_ne]; omega
                have hlX : (X.set k c).length = X.length := List.length_set
                have hsz : (mkB (X.set k c)).size ≤ 1048576 := by rw [mkB_size, hlX]; omega
                have hcv2 : ∀ {W : World}, Below wr.heap.size wr W → (convert 22 9 (.slice (some ⟨g, 0, none⟩) X.length cp)).run Tryz.prog W = .ok (.string (mkB (X.set k c))) W := fun {W} hW => by
                  have h := (hsr.below' hW)
                  rw [← hlX] at h
                  have h2 := h.textB
                  rw [hlX] at h2
                  exact h2
                have hq0 := hcv2 (Below.refl _ _)
                have hmr := cell_below hBr hm
                have htr := htab.below hBr
                have P1 := implDamagedLines_any (mkB (X.set k c)) m wr hsz hmr htr
                rw [hdm] at P1
                clear hci e3 hcl hsC hplain hdm hXt
                have HSG := Lib.hid hsg
                clear hsg
                go_wp2_with fail
                refine P1.mono ?_
                rintro e w6 ⟨v6, rfl, ⟨⟨f6, hs6, _, _⟩, hb6⟩⟩
                clear P1 hq0
                have hq1 := hcv2 hb6
                have hB6 := hBr.trans (hb6.mono hBr.size)
                have hL6 := hLr.below' hb6
                have P2 := implSalvageBlocks_any (mkB (X.set k c)) m w6 hsz (cell_below hB6 hm) (htab.below hB6)
                rw [HSG.out] at P2
                clear hcv2
                go_wp2_with fail
                refine P2.mono ?_
                rintro e w7 ⟨v7, rfl, ⟨⟨f7, hs7, _, _⟩, hb7⟩⟩
                clear P2 hq1
                have hB7 := hB6.trans (hb7.mono hB6.size)
                have hL7 := hL6.below' hb7
                have hs67 := hs6.below' hb7
                have hbl : Below w7.heap.size w7 (w7.alloc (.cells #[.int .i64 ((j : Int) + 2)] 2)) := (Below.refl _ _).alloc (Nat.le_refl _) _
                have hsl1 : Sl fInt.cod (w7.alloc (.cells #[.int .i64 ((j : Int) + 2)] 2)) (.slice (some ⟨w7.heap.size, 0, none⟩) 1 1) [(j : Int) + 2] [w7.heap.size] := Sl.lit2 (E := fInt) w7 [(j : Int) + 2] 2 _ rfl (by intro x hx; rw [List.mem_singleton] at hx; subst hx; show _ ∧ _; omega) (by show 0 < 1; omega) (by show 1 ≤ _; omega)
                have hs68 := hs67.below' hbl
                have hL8 := hL7.below' hbl
                have hs78 := hs7.below' hbl
                have hB8 := hB7.trans (hbl.mono hB7.size)
                clear hs67 hs6 hL6 hL7 hs7
                go_wp2_with fail
                refine (r8Same_any _ _ _ _ _ _ hs68 hsl1).mono ?_
                rintro e w9 ⟨rfl, hb9⟩
                have hB9 := hB8.trans (hb9.mono hB8.size)
                have hL9 := hL8.below' hb9
                have hs9 := hs78.below' hb9
                clear hs68 hsl1 hL8 hs78
                obtain ⟨b1, o1, cL, rfl⟩ : ∃ b1 o1 cL, y1 = .slice (some ⟨b1, o1, none⟩) L.length cL := by
                  obtain ⟨A9, c9, rfl, _, _⟩ := hL9.form
                  obtain ⟨b1, o1, hA, _, _, _⟩ := PBlock.elem hL9 hj
                  subst hA
                  exact ⟨b1, o1, c9, rfl⟩
                obtain ⟨A9, c9, hvL, hleL, hcapL⟩ := hL9.form
                injection hvL with hvA _ hvc
                subst hvA
                subst hvc
                have e5 : ((j : Int) + 2 - 2) = (j : Int) := by omega
                have e6 : ((j : Int) + 2 - 1) = (j : Int) + 1 := by omega
                by_cases hce : cL = j + 1
                · subst hce
                  have hLl : L.length = j + 1 := by omega
                  have hdrop : L.drop (j + 1) = [] := List.drop_of_length_le (by omega)
                  rw [hLl]
                  go_wp2
                  refine wp_region_mixed [1, 2, 3, 4, 6, 7, 8, 9, 0, 5, 10, 11] (C := fun _ => True) [true, true, true, true, true, true, true, true, false, false, false, true] (by kernel_rfl) (by kernel_rfl) (by kernel_rfl) (fun _ _ d _ _ h => by cases d <;> exact h) trivial ?_
                  simp only [List.map_cons, List.map_nil, List.getD_cons_zero, List.getD_cons_succ]
                  have hS0 : Below (w9.heap.size) w9 w9.drew := Below.drew (Below.refl _ _)
                  refine wpMix_pure (by kernel_rfl) (fun K hK => ?_)
                  go_big_quiet_op
                  refine hK _ ?_; clear hK K
                  refine wpMix_pure (by kernel_rfl) (fun K hK => ?_)
                  go_big_quiet_op
                  refine hK _ ?_; clear hK K
                  refine wpMix_pure (by kernel_rfl) (fun K hK => ?_)
                  go_big_quiet_op
                  refine hK _ ?_; clear hK K
                  refine wpMix_pure (by kernel_rfl) (fun K hK => ?_)
                  go_big_quiet_op
                  refine hK _ ?_; clear hK K
                  refine wpMix_pure (by kernel_rfl) (fun K hK => ?_)
                  go_big_quiet_op
                  refine hK _ ?_; clear hK K
                  refine wpMix_pure (by kernel_rfl) (fun K hK => ?_)
                  go_big_quiet_op
                  refine hK _ ?_; clear hK K
                  refine wpMix_pure (by kernel_rfl) (fun K hK => ?_)
                  go_big_quiet_op
                  refine hK _ ?_; clear hK K
                  refine wpMix_pure (by kernel_rfl) (fun K hK => ?_)
                  go_big_quiet_op
                  refine hK _ ?_; clear hK K
                  refine wpMix_act (by kernel_rfl) (fun K hK => ?_)
                  go_big_op
                  have hoA : Own fBlock (w9.drew.alloc (.cells #[] 52)) w9.heap.size 52 (.slice (some ⟨w9.heap.size, 0, none⟩) 0 0) [] := Own.lit0 fBlock w9.drew 52
                  have hbA : Below w9.heap.size w9 (w9.drew.alloc (.cells #[] 52)) := (Below.drew (Below.refl _ _)).alloc (Nat.le_refl _) _
                  have hLA := hL9.below' hbA
                  have hsrc1 := hLA.src_take (k := j) (c := j + 1) (by omega)
                  try simp only [Act.put, List.setIfInBounds_toArray, List.set_cons_zero, List.set_cons_succ]
                  refine hK _ _ trivial ?_
                  clear hK K
                  refine wpMix_act (by kernel_rfl) (fun K hK => ?_)
                  refine wp_append_src (E := fBlock) _ _ 24 rfl w9.heap.size 52 i0 (.agg #[.string ⟨#[]⟩, .string ⟨#[]⟩, .string ⟨#[]⟩]) 48 Tryz.underlying24 hi hz0 hz1 hz2 rfl (.slice (some ⟨w9.heap.size, 0, none⟩) 0 0) [] rfl hoA _ (L.take j) rfl hsrc1 (by simp; omega) (by decide) hbA.size ?_
                  intro v5 u5 hown5 hbu5
                  rw [List.nil_append] at hown5
                  have hbu5s := hbA.trans hbu5
                  have hL5_ := hL9.below' hbu5s
                  have hsrc2 : Src fBlock u5 (.slice (some ⟨b1, o1, none⟩) 0 0) ([] : List DBlock) := Src.empty
                  try simp only [Act.put, List.setIfInBounds_toArray, List.set_cons_zero, List.set_cons_succ]
                  refine hK _ _ trivial ?_
                  clear hK K
                  refine wpMix_act (by kernel_rfl) (fun K hK => ?_)
                  refine wp_append_src (E := fBlock) _ _ 24 rfl w9.heap.size 52 i0 (.agg #[.string ⟨#[]⟩, .string ⟨#[]⟩, .string ⟨#[]⟩]) 48 Tryz.underlying24 hi hz0 hz1 hz2 rfl v5 (L.take j) rfl hown5 _ [] rfl hsrc2 (by simp; omega) (by decide) hbu5s.size ?_
                  intro v6_ u6_ hown6 hbu6
                  have hbu6s := hbu5s.trans hbu6
                  try simp only [Act.put, List.setIfInBounds_toArray, List.set_cons_zero, List.set_cons_succ]
                  refine hK _ _ trivial ?_
                  clear hK K
                  refine wpMix_pure (by kernel_rfl) (fun K hK => ?_)
                  go_big_quiet_op
                  refine hK _ ?_; clear hK K
                  refine wpMix_nil ?_
                  have hfin : Own fBlock u6_ w9.heap.size 52 v6_ (L.take j ++ L.drop (j + 1)) := by rw [hdrop]; exact hown6
                  have hokL := hL9.oks
                  have hok2 : ∀ x ∈ L.take j ++ L.drop (j + 1), fBlock.ok x := fun x hx => by
                    rcases List.mem_append.1 hx with hx | hx
                    · exact hokL x (List.mem_of_mem_take hx)
                    · exact hokL x (List.mem_of_mem_drop hx)
                  obtain ⟨fq, hsq, _, _⟩ := Sl.of_own (n := (L.take j ++ L.drop (j + 1)).length) rfl hfin hok2
                  have hs10 := hs9.below' hbu6s
                  have hB10 := hB9.trans (hbu6s.mono hB9.size)
                  clear hown5 hown6 hfin
                  go_wp2_with fail
                  refine (specSameBlocks_any _ _ _ _ _ _ _ hs10 hsq).mono ?_
                  rintro e w11 ⟨rfl, hb11⟩
                  rw [decide_eq_true rfl]
                  go_wp2
                  go_ret
                  exact ⟨rfl, hB10.trans (hb11.mono hB10.size)⟩
                · have hcl : j + 1 < cL := by omega
                  go_wp2
                  refine wp_region_mixed [1, 2, 3, 4, 6, 7, 8, 9, 0, 5, 10, 11] (C := fun _ => True) [true, true, true, true, true, true, true, true, false, false, false, true] (by kernel_rfl) (by kernel_rfl) (by kernel_rfl) (fun _ _ d _ _ h => by cases d <;> exact h) trivial ?_
                  simp only [List.map_cons, List.map_nil, List.getD_cons_zero, List.getD_cons_succ]
                  have hS0 : Below (w9.heap.size) w9 w9.drew := Below.drew (Below.refl _ _)
                  refine wpMix_pure (by kernel_rfl) (fun K hK => ?_)
                  go_big_quiet_op
                  refine hK _ ?_; clear hK K
                  refine wpMix_pure (by kernel_rfl) (fun K hK => ?_)
                  go_big_quiet_op
                  refine hK _ ?_; clear hK K
                  refine wpMix_pure (by kernel_rfl) (fun K hK => ?_)
                  go_big_quiet_op
                  refine hK _ ?_; clear hK K
                  refine wpMix_pure (by kernel_rfl) (fun K hK => ?_)
                  go_big_quiet_op
                  refine hK _ ?_; clear hK K
                  refine wpMix_pure (by kernel_rfl) (fun K hK => ?_)
                  go_big_quiet_op
                  refine hK _ ?_; clear hK K
                  refine wpMix_pure (by kernel_rfl) (fun K hK => ?_)
                  go_big_quiet_op
                  refine hK _ ?_; clear hK K
                  refine wpMix_pure (by kernel_rfl) (fun K hK => ?_)
                  go_big_quiet_op
                  refine hK _ ?_; clear hK K
                  refine wpMix_pure (by kernel_rfl) (fun K hK => ?_)
                  go_big_quiet_op
                  refine hK _ ?_; clear hK K
                  refine wpMix_act (by kernel_rfl) (fun K hK => ?_)
                  go_big_op
                  have hoA : Own fBlock (w9.drew.alloc (.cells #[] 52)) w9.heap.size 52 (.slice (some ⟨w9.heap.size, 0, none⟩) 0 0) [] := Own.lit0 fBlock w9.drew 52
                  have hbA : Below w9.heap.size w9 (w9.drew.alloc (.cells #[] 52)) := (Below.drew (Below.refl _ _)).alloc (Nat.le_refl _) _
                  have hLA := hL9.below' hbA
                  have hsrc1 := hLA.src_take (k := j) (c := cL) (by omega)
                  try simp only [Act.put, List.setIfInBounds_toArray, List.set_cons_zero, List.set_cons_succ]
                  refine hK _ _ trivial ?_
                  clear hK K
                  refine wpMix_act (by kernel_rfl) (fun K hK => ?_)
                  refine wp_append_src (E := fBlock) _ _ 24 rfl w9.heap.size 52 i0 (.agg #[.string ⟨#[]⟩, .string ⟨#[]⟩, .string ⟨#[]⟩]) 48 Tryz.underlying24 hi hz0 hz1 hz2 rfl (.slice (some ⟨w9.heap.size, 0, none⟩) 0 0) [] rfl hoA _ (L.take j) rfl hsrc1 (by simp; omega) (by decide) hbA.size ?_
                  intro v5 u5 hown5 hbu5
                  rw [List.nil_append] at hown5
                  have hbu5s := hbA.trans hbu5
                  have hL5_ := hL9.below' hbu5s
                  have hsrc2 := hL5_.src_drop (k := j + 1) (c := cL - (j + 1)) (by omega)
                  try simp only [Act.put, List.setIfInBounds_toArray, List.set_cons_zero, List.set_cons_succ]
                  refine hK _ _ trivial ?_
                  clear hK K
                  refine wpMix_act (by kernel_rfl) (fun K hK => ?_)
                  refine wp_append_src (E := fBlock) _ _ 24 rfl w9.heap.size 52 i0 (.agg #[.string ⟨#[]⟩, .string ⟨#[]⟩, .string ⟨#[]⟩]) 48 Tryz.underlying24 hi hz0 hz1 hz2 rfl v5 (L.take j) rfl hown5 _ (L.drop (j + 1)) rfl hsrc2 (by simp; omega) (by decide) hbu5s.size ?_
                  intro v6_ u6_ hown6 hbu6
                  have hbu6s := hbu5s.trans hbu6
                  try simp only [Act.put, List.setIfInBounds_toArray, List.set_cons_zero, List.set_cons_succ]
                  refine hK _ _ trivial ?_
                  clear hK K
                  refine wpMix_pure (by kernel_rfl) (fun K hK => ?_)
                  go_big_quiet_op
                  refine hK _ ?_; clear hK K
                  refine wpMix_nil ?_
                  have hfin : Own fBlock u6_ w9.heap.size 52 v6_ (L.take j ++ L.drop (j + 1)) := by exact hown6
                  have hokL := hL9.oks
                  have hok2 : ∀ x ∈ L.take j ++ L.drop (j + 1), fBlock.ok x := fun x hx => by
                    rcases List.mem_append.1 hx with hx | hx
                    · exact hokL x (List.mem_of_mem_take hx)
                    · exact hokL x (List.mem_of_mem_drop hx)
                  obtain ⟨fq, hsq, _, _⟩ := Sl.of_own (n := (L.take j ++ L.drop (j + 1)).length) rfl hfin hok2
                  have hs10 := hs9.below' hbu6s
                  have hB10 := hB9.trans (hbu6s.mono hB9.size)
                  clear hown5 hown6 hfin
                  go_wp2_with fail
                  refine (specSameBlocks_any _ _ _ _ _ _ _ hs10 hsq).mono ?_
                  rintro e w11 ⟨rfl, hb11⟩
                  rw [decide_eq_true rfl]
                  go_wp2
                  go_ret
                  exact ⟨rfl, hB10.trans (hb11.mono hB10.size)⟩

end Go.Proofs.YtdlihohkamajbaaGreatDoor
