/- Reports on incidents. Written by wip/gen/ip.py. -/
import Derived.Test.YtjlnjeogaokkoaaGreatDoorIv
import Derived.Test.YtjlnjeogaokkoaaGreatDoorDd
import Derived.Test.YtjlnjeogaokkoaaGreatDoorRa
import Derived.Test.YtjlnjeogaokkoaaGreatDoorTw
namespace Go.Proofs.YtjlnjeogaokkoaaGreatDoor
open Go.RowKit
set_option linter.unusedVariables false

/-- The text of a day that is in range. -/
noncomputable def dayP (n : Int) : Int × Int × Int := Classical.epsilon (fun p : Int × Int × Int => dateOk p.1 p.2.1 p.2.2 ∧ n = numD p.1 p.2.1 p.2.2)
noncomputable def dayT (n : Int) : ByteArray := dayS (dayP n).1 (dayP n).2.1 (dayP n).2.2
theorem dayP_ok {n : Int} (h0 : 0 ≤ n) (h1 : n ≤ 36524) : dateOk (dayP n).1 (dayP n).2.1 (dayP n).2.2 ∧ n = numD (dayP n).1 (dayP n).2.1 (dayP n).2.2 := by
  have h : ∃ p : Int × Int × Int, dateOk p.1 p.2.1 p.2.2 ∧ n = numD p.1 p.2.1 p.2.2 := by
    obtain ⟨y, m, d, h2, h3⟩ := day_has h0 h1
    exact ⟨(y, m, d), h2, h3⟩
  exact Classical.epsilon_spec h
def hdI : List ByteArray := [⟨#[100, 97, 121]⟩, ⟨#[112, 108, 97, 99, 101]⟩, ⟨#[108, 101, 118, 101, 108]⟩, ⟨#[99, 97, 117, 103, 104, 116]⟩, ⟨#[98, 117, 114, 105, 101, 100]⟩]
noncomputable def rowI (x : DIncident) : List ByteArray := [dayT x.day, x.place, decS x.level, decS x.caught, decS x.buried]
noncomputable def rowsI (xs : List DIncident) (k : Nat) : List (List ByteArray) := hdI :: (xs.take k).map rowI
theorem rowsI_zero (xs : List DIncident) : rowsI xs 0 = [hdI] := rfl
theorem rowsI_step {xs : List DIncident} {k : Nat} (h : k < xs.length) : rowsI xs (k + 1) = rowsI xs k ++ [rowI xs[k]] := by
  unfold rowsI; rw [List.take_succ_eq_append_getElem h, List.map_append]; rfl
theorem rowsI_len {xs : List DIncident} {k : Nat} (h : k ≤ xs.length) : (rowsI xs k).length = k + 1 := by unfold rowsI; simp; omega
noncomputable def irF (xs : List DIncident) : List ByteArray := if incsB xs then doneF (tabF (rowsI xs xs.length)) else []
noncomputable def irC (xs : List DIncident) : Int := if incsB xs then doneC (tabF (rowsI xs xs.length)) else 1
structure IncP (x : DIncident) : Prop where
  day : 0 ≤ x.day ∧ x.day ≤ 36524
  place : nameB x.place = true
  level : 1 ≤ x.level ∧ x.level ≤ 5
  caught : 0 ≤ x.caught ∧ x.caught ≤ 20
  buried : 0 ≤ x.buried ∧ x.buried ≤ 20
theorem incP_of {x : DIncident} (h : incB x = true) : IncP x := by
  unfold incB at h
  simp only [Bool.and_eq_true, inB_true] at h
  obtain ⟨⟨⟨⟨⟨h1, h2⟩, h3⟩, h4⟩, h5⟩, h6⟩ := h
  exact ⟨h1, h2, h4, h5, by omega⟩
theorem nameB_sizeP {s : ByteArray} (h : nameB s = true) : s.size ≤ 10 := by
  by_cases h1 : 10 < s.size
  · rw [nameB_long h1] at h; cases h
  · omega
theorem dec_cell : ∀ k : Fin 21, cellOk (decS (k.1 : Int)) = true := by decide +kernel
theorem dec_cellOk {n : Int} (h0 : 0 ≤ n) (h1 : n ≤ 20) : cellOk (decS n) = true := by
  have := dec_cell ⟨n.toNat, by omega⟩
  simp only [Int.toNat_of_nonneg h0] at this
  exact this
theorem dig_okB {k : Nat} (h : k < 10) : okByte 33 126 (UInt8.ofNat (48 + k)) = true := by
  have e : (UInt8.ofNat (48 + k)).toNat = 48 + k := by rw [UInt8.toNat_ofNat']; omega
  unfold okByte
  rw [e]; simp; omega
theorem day_cellOk {y m d : Int} (h : dateOk y m d) : cellOk (dayS y m d) = true := by
  obtain ⟨⟨hy0, hy1⟩, ⟨hm0, hm1⟩, hd0, hd1⟩ := id h
  have hl := lenM_pos y hm0 hm1
  unfold cellOk bwAll
  show (dayL y m d).all _ = true
  unfold dayL
  rw [yearL hy0 hy1]
  unfold two
  have e45 : okByte 33 126 45 = true := by decide
  simp only [List.cons_append, List.nil_append, List.all_cons, List.all_nil, e45]
  rw [dig_okB (k := y.toNat / 1000) (by omega), dig_okB (k := y.toNat / 100 % 10) (by omega), dig_okB (k := y.toNat / 10 % 10) (by omega), dig_okB (k := y.toNat % 10) (by omega), dig_okB (k := m.toNat / 10) (by omega), dig_okB (k := m.toNat % 10) (by omega), dig_okB (k := d.toNat / 10) (by omega), dig_okB (k := d.toNat % 10) (by omega)]
  rfl
theorem name_cellOk {s : ByteArray} (h : nameB s = true) : cellOk s = true := by
  unfold nameB at h
  simp only [Bool.and_eq_true] at h
  have ha : allNm s.data.toList = true := by first | exact h.2 | exact h.1.2 | exact h.1.1.2 | exact h.1.1.1
  unfold cellOk bwAll
  refine List.all_eq_true.2 fun b hb => ?_
  unfold allNm at ha
  have := List.all_eq_true.1 ha b hb
  simp only [okNm, smallB, digitB, Bool.or_eq_true, inB_true] at this
  unfold okByte
  simp only [Bool.and_eq_true, decide_eq_true_eq]
  omega
theorem hd_ok : rowOk hdI = true := by decide
theorem row_ok {x : DIncident} (h : incB x = true) : rowOk (rowI x) = true := by
  have p := incP_of h
  unfold rowOk rowI
  have h1 : cellOk (dayT x.day) = true := day_cellOk (dayP_ok p.day.1 p.day.2).1
  simp only [List.all_cons, List.all_nil, h1, name_cellOk p.place, dec_cellOk (n := x.level) (by have := p.level; omega) (by have := p.level; omega), dec_cellOk p.caught.1 p.caught.2, dec_cellOk p.buried.1 p.buried.2]
  rfl
theorem rows_ok {xs : List DIncident} (h : incsB xs = true) (k : Nat) : rowsOk (rowsI xs k) = true := by
  unfold rowsOk rowsI
  rw [List.all_cons, hd_ok, Bool.true_and]
  refine List.all_eq_true.2 fun r hr => ?_
  obtain ⟨x, hx, rfl⟩ := List.mem_map.1 hr
  obtain ⟨m, hm, rfl⟩ := List.getElem_of_mem (List.mem_of_mem_take hx)
  exact row_ok (incsB_one h hm)
theorem row_size {x : DIncident} (h : incB x = true) : ∀ c ∈ rowI x, c.size ≤ 1048576 := by
  have p := incP_of h
  have h1 : (dayT x.day).size = 10 := dayS_size (dayP_ok p.day.1 p.day.2).1
  have h2 := nameB_sizeP p.place
  have hd : ∀ n : Int, 0 ≤ n → n ≤ 20 → (decS n).size ≤ 30 := fun n a b => by rw [decS_size]; have := itoa_len20 (n := n) (by omega) (by omega); omega
  intro c hc
  unfold rowI at hc
  simp only [List.mem_cons, List.not_mem_nil, or_false] at hc
  rcases hc with rfl | rfl | rfl | rfl | rfl
  · omega
  · omega
  · have := hd x.level (by have := p.level; omega) (by have := p.level; omega); omega
  · have := hd x.caught p.caught.1 p.caught.2; omega
  · have := hd x.buried p.buried.1 p.buried.2; omega
theorem rows_size {xs : List DIncident} (h : incsB xs = true) (k : Nat) : ∀ r ∈ rowsI xs k, ∀ c ∈ r, c.size ≤ 1048576 := by
  intro r hr
  unfold rowsI at hr
  rcases List.mem_cons.1 hr with rfl | hr
  · decide
  · obtain ⟨x, hx, rfl⟩ := List.mem_map.1 hr
    obtain ⟨m, hm, rfl⟩ := List.getElem_of_mem (List.mem_of_mem_take hx)
    exact row_size (incsB_one h hm)
theorem irF_len {xs : List DIncident} (h : xs.length ≤ 1048576) : (irF xs).length ≤ 100000000000 := by
  unfold irF doneF tabF rowsI
  (repeat' split) <;> simp <;> omega
theorem rowI_oks {x : DIncident} (h : incB x = true) : ∀ c ∈ rowI x, fStr.ok c := fun c hc => by have := row_size h c hc; show _ ≤ _; omega
theorem hd_oks : ∀ c ∈ hdI, fStr.ok c := by
  intro c hc
  have : c.size ≤ 10 := by revert c; decide
  show _ ≤ _; omega
theorem PIncident.keptI {w w' : World} {g off : Nat} {x : DIncident} (h : PIncident w g off x) (hb : ∀ j, w'.cell? ⟨g, j, none⟩ = w.cell? ⟨g, j, none⟩) : PIncident w' g off x :=
  ⟨(hb _).trans h.c0, (hb _).trans h.c1, (hb _).trans h.c2, (hb _).trans h.c3, (hb _).trans h.c4, (hb _).trans h.c5⟩
theorem W_le {B : Nat} {a b : World} (h : Below B a b) : a.heap.size ≤ b.heap.size := h.size
set_option maxRecDepth 100000 in
set_option maxHeartbeats 8000000 in
theorem specIncidentReport_any (v : Value) (xs : List DIncident) (fp : List Nat) (w : World) (hx : Sl fIncident.cod w v xs fp) :
    Calls Tryz.prog 5 #[v] w fun e w' => NewR2 fStr.cod w (irF xs) (irC xs) e w' := by
  obtain ⟨A, cap, rfl, hle, hca⟩ := hx.form
  obtain ⟨i0, hi, hz0, hz1, hz2⟩ := info_parts infoSliceR
  have hlt0 := hx.lt
  go_enter Tryz.func5, Tryz.ntmps5
  go_wp2_with fail
  refine (l28Ok_any _ xs fp _ hx).mono ?_
  rintro e w1 ⟨rfl, hb1⟩
  cases h0 : incsB xs
  · go_wp2
    go_ret2
    exact ⟨_, by rw [irC, h0]; rfl, by rw [irF, h0]; exact New.nil hb1⟩
  · have HC := Lib.hid (show irC xs = doneC (tabF (rowsI xs xs.length)) from by rw [irC, h0]; rfl)
    have HF := Lib.hid (show irF xs = doneF (tabF (rowsI xs xs.length)) from by rw [irF, h0]; rfl)
    have hBa : Below w.heap.size w (w1.alloc (.cells #[.string ⟨#[100, 97, 121]⟩, .string ⟨#[112, 108, 97, 99, 101]⟩, .string ⟨#[108, 101, 118, 101, 108]⟩, .string ⟨#[99, 97, 117, 103, 104, 116]⟩, .string ⟨#[98, 117, 114, 105, 101, 100]⟩] 9)) := hb1.alloc hb1.size _
    have hB0 : Below w.heap.size w ((w1.alloc (.cells #[.string ⟨#[100, 97, 121]⟩, .string ⟨#[112, 108, 97, 99, 101]⟩, .string ⟨#[108, 101, 118, 101, 108]⟩, .string ⟨#[99, 97, 117, 103, 104, 116]⟩, .string ⟨#[98, 117, 114, 105, 101, 100]⟩] 9)).alloc (.cells #[.slice (some ⟨w1.heap.size, 0, none⟩) 5 5] 24)) := hBa.alloc hBa.size _
    have hs0 : Sl fStr.cod (w1.alloc (.cells #[.string ⟨#[100, 97, 121]⟩, .string ⟨#[112, 108, 97, 99, 101]⟩, .string ⟨#[108, 101, 118, 101, 108]⟩, .string ⟨#[99, 97, 117, 103, 104, 116]⟩, .string ⟨#[98, 117, 114, 105, 101, 100]⟩] 9)) (.slice (some ⟨w1.heap.size, 0, none⟩) 5 5) hdI [w1.heap.size] := Sl.lit2 (E := fStr) w1 hdI _ _ rfl hd_oks (by show 0 < 5; decide) (by show 5 ≤ _; decide)
    have hr0 := RowsV.first (B := w.heap.size) hBa.size hs0 (fun b hb => by rw [List.mem_singleton] at hb; subst hb; exact hb1.size)
    rw [← rowsI_zero xs, World.size_alloc] at hr0
    have H0 := Lib.hid h0
    have hl48 := incsB_len h0
    clear h0 hs0 hBa
    go_wp2
    go_loopw [4, 5] (fun v i wr => ∃ k : Nat, k ≤ xs.length ∧ i = .int .i64 k ∧ (∃ V F, RowsV wr w.heap.size v (rowsI xs k) V F) ∧ Below w.heap.size w wr) (fun _ i _ => xs.length - (intOf i).toNat)
    case atStart => exact ⟨0, Nat.zero_le _, rfl, ⟨_, _, hr0⟩, hB0⟩
    case round =>
      clear hr0 hB0
      obtain ⟨k, hk, rfl, ⟨V, F, hrw⟩, hb⟩ := hrel
      by_cases hlt : k < xs.length
      · obtain ⟨b, off, rfl, hbm0, hok, hp⟩ := PIncident.elem (hx.below' hb) hlt
        have hbm := hlt0 b hbm0
        have hv := incsB_one H0.out hlt
        have hpp := incP_of hv
        have HDO := Lib.hid (dayP_ok hpp.day.1 hpp.day.2)
        have HRO := Lib.hid (rowI_oks hv)
        have HST : Hid (rowsI xs (k + 1) = rowsI xs k ++ [rowI xs[k]]) := rowsI_step hlt
        obtain ⟨_, _, hlv, hcg, hbd⟩ := hpp
        have hrow : u4.ownBlock ≠ some b := fun e => by have := (World.ownsRow.lt hrw.own _ e).1; omega
        go_wp2
        have hrowne : some b = u4.ownBlock → False := fun e => hrow e.symm
        rename World => W
        have hBW := hb
        have hpW := hp
        have hrW := hrw
        have hbW := hBW.size
        clear hb hp hrw hbm0
        have gk0 : ∀ p : KeptW (w.heap.size) W (fun N => PIncident N b (off + k * 6) xs[k]), p.v.cell? ⟨b, off + k * 6, none⟩ = some (.int .i64 xs[k].day) := fun p => p.x.c0
        have gk1 : ∀ p : KeptW (w.heap.size) W (fun N => PIncident N b (off + k * 6) xs[k]), p.v.cell? ⟨b, off + k * 6 + 1, none⟩ = some (.string xs[k].place) := fun p => p.x.c1
        have gk3 : ∀ p : KeptW (w.heap.size) W (fun N => PIncident N b (off + k * 6) xs[k]), p.v.cell? ⟨b, off + k * 6 + 3, none⟩ = some (.int .i64 xs[k].level) := fun p => p.x.c3
        have gk4 : ∀ p : KeptW (w.heap.size) W (fun N => PIncident N b (off + k * 6) xs[k]), p.v.cell? ⟨b, off + k * 6 + 4, none⟩ = some (.int .i64 xs[k].caught) := fun p => p.x.c4
        have gk5 : ∀ p : KeptW (w.heap.size) W (fun N => PIncident N b (off + k * 6) xs[k]), p.v.cell? ⟨b, off + k * 6 + 5, none⟩ = some (.int .i64 xs[k].buried) := fun p => p.x.c5
        haveI hKne : Nonempty (KeptW (w.heap.size) W (fun N => PIncident N b (off + k * 6) xs[k])) := ⟨⟨_, Below.drew (Below.refl _ _), (hpW.below' (Below.drew (Below.refl _ _)))⟩⟩
        refine wp_region_mixed [0, 1, 2, 3, 4, 6, 7, 8, 9, 10, 11, 12, 13, 15, 16, 17, 18, 20, 21, 22, 23, 5, 14, 19, 24, 25, 26, 27, 28] (C := fun w' => ∃ p : KeptW (w.heap.size) W (fun N => PIncident N b (off + k * 6) xs[k]), w' = p.v) [true, true, true, true, true, true, true, true, true, true, true, true, true, true, true, true, true, true, true, true, true, false, false, false, false, false, false, false, true] (by kernel_rfl) (by kernel_rfl) (by kernel_rfl) (fun _ _ d _ _ h => by cases d <;> exact h) ⟨⟨_, Below.drew (Below.refl _ _), (hpW.below' (Below.drew (Below.refl _ _)))⟩, rfl⟩ ?_
        simp only [List.map_cons, List.map_nil, List.getD_cons_zero, List.getD_cons_succ]
        have hS0 : Below (w.heap.size) W W.drew := Below.drew (Below.refl _ _)
        refine wpMix_pure (by kernel_rfl) (fun K hK => ?_)
        go_big_quiet_op
        refine hK _ ?_; clear hK K
        refine wpMix_pure (by kernel_rfl) (fun K hK => ?_)
        go_big_quiet_op
        refine hK _ ?_; clear hK K
        refine wpMix_pure (by kernel_rfl) (fun K hK => ?_)
        go_big_quiet_op
        refine hK _ ?_; clear hK K
        refine wpMix_pure (by kernel_rfl) (fun K hK => ?_)
        go_big_quiet_op
        refine hK _ ?_; clear hK K
        refine wpMix_pure (by kernel_rfl) (fun K hK => ?_)
        go_big_quiet_op
        refine hK _ ?_; clear hK K
        refine wpMix_pure (by kernel_rfl) (fun K hK => ?_)
        go_big_quiet_op
        refine hK _ ?_; clear hK K
        refine wpMix_pure (by kernel_rfl) (fun K hK => ?_)
        go_big_quiet_op
        refine hK _ ?_; clear hK K
        refine wpMix_pure (by kernel_rfl) (fun K hK => ?_)
        go_big_quiet_op
        refine hK _ ?_; clear hK K
        refine wpMix_pure (by kernel_rfl) (fun K hK => ?_)
        go_big_quiet_op
        refine hK _ ?_; clear hK K
        refine wpMix_pure (by kernel_rfl) (fun K hK => ?_)
        go_big_quiet_op
        refine hK _ ?_; clear hK K
        refine wpMix_pure (by kernel_rfl) (fun K hK => ?_)
        go_big_quiet_op
        refine hK _ ?_; clear hK K
        refine wpMix_pure (by kernel_rfl) (fun K hK => ?_)
        go_big_quiet_op
        refine hK _ ?_; clear hK K
        refine wpMix_pure (by kernel_rfl) (fun K hK => ?_)
        go_big_quiet_op
        refine hK _ ?_; clear hK K
        refine wpMix_pure (by kernel_rfl) (fun K hK => ?_)
        go_big_quiet_op
        refine hK _ ?_; clear hK K
        refine wpMix_pure (by kernel_rfl) (fun K hK => ?_)
        go_big_quiet_op
        refine hK _ ?_; clear hK K
        refine wpMix_pure (by kernel_rfl) (fun K hK => ?_)
        go_big_quiet_op
        refine hK _ ?_; clear hK K
        refine wpMix_pure (by kernel_rfl) (fun K hK => ?_)
        go_big_quiet_op
        refine hK _ ?_; clear hK K
        refine wpMix_pure (by kernel_rfl) (fun K hK => ?_)
        go_big_quiet_op
        refine hK _ ?_; clear hK K
        refine wpMix_pure (by kernel_rfl) (fun K hK => ?_)
        go_big_quiet_op
        refine hK _ ?_; clear hK K
        refine wpMix_pure (by kernel_rfl) (fun K hK => ?_)
        go_big_quiet_op
        refine hK _ ?_; clear hK K
        refine wpMix_pure (by kernel_rfl) (fun K hK => ?_)
        go_big_quiet_op
        refine hK _ ?_; clear hK K
        refine wpMix_act (by kernel_rfl) (fun K hK => ?_)
        go_big_op
        refine (l02Text_any (dayP xs[k].day).1 (dayP xs[k].day).2.1 (dayP xs[k].day).2.2 xs[k].day _ HDO.out.1 HDO.out.2).mono ?_
        rintro e wr1 ⟨rfl, hbr1⟩
        have hbr1S : Below (w.heap.size) W wr1 := hS0.trans (hbr1.mono (Nat.le_trans hbW hS0.size))
        refine hK _ _ ⟨⟨_, hbr1S, (((hpW.below' (Below.drew (Below.refl _ _)))).below' hbr1)⟩, rfl⟩ ?_
        clear hK K
        refine wpMix_act (by kernel_rfl) (fun K hK => ?_)
        go_big_op
        refine (l01Dec_any xs[k].level _ (by omega) (by omega)).mono ?_
        rintro e wr2 ⟨rfl, hbr2⟩
        have hbr2S : Below (w.heap.size) W wr2 := hbr1S.trans (hbr2.mono (Nat.le_trans hbW hbr1S.size))
        refine hK _ _ ⟨⟨_, hbr2S, (((((hpW.below' (Below.drew (Below.refl _ _)))).below' hbr1)).below' hbr2)⟩, rfl⟩ ?_
        clear hK K
        refine wpMix_act (by kernel_rfl) (fun K hK => ?_)
        go_big_op
        refine (l01Dec_any xs[k].caught _ (by omega) (by omega)).mono ?_
        rintro e wr3 ⟨rfl, hbr3⟩
        have hbr3S : Below (w.heap.size) W wr3 := hbr2S.trans (hbr3.mono (Nat.le_trans hbW hbr2S.size))
        refine hK _ _ ⟨⟨_, hbr3S, (((((((hpW.below' (Below.drew (Below.refl _ _)))).below' hbr1)).below' hbr2)).below' hbr3)⟩, rfl⟩ ?_
        clear hK K
        refine wpMix_act (by kernel_rfl) (fun K hK => ?_)
        go_big_op
        refine (l01Dec_any xs[k].buried _ (by omega) (by omega)).mono ?_
        rintro e wr4 ⟨rfl, hbr4⟩
        have hbr4S : Below (w.heap.size) W wr4 := hbr3S.trans (hbr4.mono (Nat.le_trans hbW hbr3S.size))
        refine hK _ _ ⟨⟨_, hbr4S, (((((((((hpW.below' (Below.drew (Below.refl _ _)))).below' hbr1)).below' hbr2)).below' hbr3)).below' hbr4)⟩, rfl⟩ ?_
        clear hK K
        refine wpMix_act (by kernel_rfl) (fun K hK => ?_)
        go_big_op
        refine hK _ _ ⟨⟨_, (hbr4S.alloc (Nat.le_trans hbW hbr4S.size) _), (((((((((((hpW.below' (Below.drew (Below.refl _ _)))).below' hbr1)).below' hbr2)).below' hbr3)).below' hbr4)).below' ((Below.refl _ _).alloc (Nat.le_refl _) _))⟩, rfl⟩ ?_
        clear hK K
        refine mix_world (fun N => Below (w.heap.size) W N ∧ PIncident N b (off + k * 6) xs[k] ∧ RowsV N w.heap.size u4 (rowsI xs k) V F ∧ Sl fStr.cod N (.slice (some ⟨wr4.heap.size, 0, none⟩) 5 5) (rowI xs[k]) [wr4.heap.size] ∧ wr4.heap.size < N.heap.size) ⟨hbr4S.alloc (Nat.le_trans hbW hbr4S.size) _, ⟨(((((hpW.below' (Below.drew (Below.refl _ _))).below' hbr1).below' hbr2).below' hbr3).below' hbr4).below' ((Below.refl _ _).alloc (Nat.le_refl _) _), (((((hrW.below (Below.drew (Below.refl _ _))).below hbr1).below hbr2).below hbr3).below hbr4).below ((Below.refl _ _).alloc (Nat.le_refl _) _), Sl.lit2 (E := fStr) wr4 (rowI xs[k]) _ _ rfl HRO.out (by show 0 < 5; decide) (by show 5 ≤ _; decide), by simp⟩⟩ ?_
        rintro wr5 ⟨hbr5S, hbr5F⟩
        refine wpMix_act (by kernel_rfl) (fun K hK => ?_)
        go_big_op
        refine hK _ _ ⟨⟨_, (hbr5S.alloc (Nat.le_trans hbW hbr5S.size) _), ((hbr5F.1).below' ((Below.refl _ _).alloc (Nat.le_refl _) _))⟩, rfl⟩ ?_
        clear hK K
        refine mix_world (fun N => Below (w.heap.size) W N ∧ PIncident N b (off + k * 6) xs[k] ∧ RowsV N w.heap.size u4 (rowsI xs k) V F ∧ Sl fStr.cod N (.slice (some ⟨wr4.heap.size, 0, none⟩) 5 5) (rowI xs[k]) [wr4.heap.size] ∧ wr4.heap.size < N.heap.size ∧ N.cell? ⟨wr5.heap.size, 0, none⟩ = some (.slice (some ⟨wr4.heap.size, 0, none⟩) 5 5)) ⟨hbr5S.alloc (Nat.le_trans hbW hbr5S.size) _, ⟨hbr5F.1.below' ((Below.refl _ _).alloc (Nat.le_refl _) _), hbr5F.2.1.below ((Below.refl _ _).alloc (Nat.le_refl _) _), hbr5F.2.2.1.below' ((Below.refl _ _).alloc (Nat.le_refl _) _), by have := hbr5F.2.2.2; simp; omega, by simp⟩⟩ ?_
        rintro wr6 ⟨hbr6S, hbr6F⟩
        refine wpMix_act (by kernel_rfl) (fun K hK => ?_)
        obtain ⟨hp6, hr6, hs6, hlt6, hc6⟩ := hbr6F
        refine wp_append_at2 _ _ _ 38 rfl w.heap.size 24 i0 (.slice none 0 0) 1 24 Tryz.underlying38 hi hz0 hz1 hz2 rfl (by decide) u4 (rowsI xs k).length _ rfl hr6.own [.slice (some ⟨wr4.heap.size, 0, none⟩) 5 5] rfl (by intro u hu; rw [List.mem_singleton] at hu; subst hu; rfl) wr5.heap.size rfl (by intro j u hj; match j, hj with | 0, hj => (injection hj with hj; subst hj; exact hc6) | j + 1, hj => (simp at hj)) (by rw [rowsI_len hk]; omega) (by decide) (Nat.le_trans hbW hbr6S.size) ?_
        intro v' u hown hbu hgr hli
        have hr7 := hr6.push hs6 (fun b hb => by rw [List.mem_singleton] at hb; subst hb; exact ⟨Nat.le_trans hbW hbr4S.size, fun e => by have := hrW.lt _ e; have := hbr4S.size; have h5 := hS0.size; exact Nat.lt_irrefl _ (Nat.lt_of_lt_of_le (hrW.lt _ e) (W_le hbr4S))⟩) hown hgr hli
        rw [← HST.out] at hr7
        clear hown
        have hpu : PIncident u b (off + k * 6) xs[k] := hp6.keptI (fun j => World.cell?_of_block (a := ⟨b, j, none⟩) (hgr.block b hp6.lt (fun e => hrowne e)))
        have hbuS : Below (w.heap.size) W u := hbr6S.trans hbu
        try simp only [Act.put, List.setIfInBounds_toArray, List.set_cons_zero, List.set_cons_succ]
        refine hK _ _ ⟨⟨_, hbuS, hpu⟩, rfl⟩ ?_
        clear hK K
        refine wpMix_pure (by kernel_rfl) (fun K hK => ?_)
        go_big_quiet_op
        refine hK _ ?_; clear hK K
        refine wpMix_nil ?_
        have hb9 := hBW.trans hbuS
        go_wp2
        go_roundw
        case rel => exact ⟨k + 1, by omega, by go_num, ⟨_, _, hr7⟩, hb9⟩
        case measure => simp [intOf]; omega
      · have hke : k = xs.length := by omega
        subst hke
        have hrl : (rowsI xs xs.length).length = xs.length + 1 := rowsI_len (Nat.le_refl _)
        obtain ⟨fpr, hsl⟩ := hrw.sl (by omega)
        have hrs := rows_size H0.out xs.length
        have hro := rows_ok H0.out xs.length
        have h12 := rowsOk_12 hro
        have HTC := Lib.hid (show tlC (rowsI xs xs.length) = doneC (tabF (rowsI xs xs.length)) from by rw [tlC, hro]; rfl)
        have HTF := Lib.hid (show tlF (rowsI xs xs.length) = doneF (tabF (rowsI xs xs.length)) from by rw [tlF, hro]; rfl)
        have hlen7 : (rowsI xs xs.length).length ≤ 1048577 := by omega
        clear hro hrw
        generalize rowsI xs xs.length = R at *
        clear hrl
        go_wp2_with fail
        refine (l30Table_any _ R fpr _ hsl hlen7 hrs h12).mono ?_
        rintro e w2 ⟨v2, rfl, hn⟩
        have hn2 := hn.later hb
        obtain ⟨⟨fpn, hsn, hlo, hnd⟩, _⟩ := id hn2
        go_wp2_with fail
        refine (l30Done_any _ (tabF R) fpn _ hsn).mono ?_
        rintro e w' ⟨rfl, rfl⟩
        go_wp2
        go_ret2
        exact ⟨_, by rw [HC.out]; rfl, by rw [HF.out]; exact hn2.done⟩
set_option maxRecDepth 100000 in
set_option maxHeartbeats 8000000 in
theorem implIncidentReport_any (v : Value) (xs : List DIncident) (fp : List Nat) (w : World) (hx : Sl fIncident.cod w v xs fp) (ht : Tab10 w) :
    Calls Tryz.prog 7 #[v] w fun e w' => NewR2 fStr.cod w (irF xs) (irC xs) e w' := by
  obtain ⟨A, cap, rfl, hle, hca⟩ := hx.form
  obtain ⟨i0, hi, hz0, hz1, hz2⟩ := info_parts infoSliceR
  have hlt0 := hx.lt
  go_enter Tryz.func7, Tryz.ntmps7
  go_wp2_with fail
  refine (ValidIncidents_any _ xs fp _ hx).mono ?_
  rintro e w1 ⟨rfl, hb1⟩
  cases h0 : incsB xs
  · go_wp2
    go_ret2
    exact ⟨_, by rw [irC, h0]; rfl, by rw [irF, h0]; exact New.nil hb1⟩
  · have HC := Lib.hid (show irC xs = doneC (tabF (rowsI xs xs.length)) from by rw [irC, h0]; rfl)
    have HF := Lib.hid (show irF xs = doneF (tabF (rowsI xs xs.length)) from by rw [irF, h0]; rfl)
    have hBa : Below w.heap.size w (w1.alloc (.cells #[.string ⟨#[100, 97, 121]⟩, .string ⟨#[112, 108, 97, 99, 101]⟩, .string ⟨#[108, 101, 118, 101, 108]⟩, .string ⟨#[99, 97, 117, 103, 104, 116]⟩, .string ⟨#[98, 117, 114, 105, 101, 100]⟩] 9)) := hb1.alloc hb1.size _
    have hB0 : Below w.heap.size w ((w1.alloc (.cells #[.string ⟨#[100, 97, 121]⟩, .string ⟨#[112, 108, 97, 99, 101]⟩, .string ⟨#[108, 101, 118, 101, 108]⟩, .string ⟨#[99, 97, 117, 103, 104, 116]⟩, .string ⟨#[98, 117, 114, 105, 101, 100]⟩] 9)).alloc (.cells #[.slice (some ⟨w1.heap.size, 0, none⟩) 5 5] 24)) := hBa.alloc hBa.size _
    have hs0 : Sl fStr.cod (w1.alloc (.cells #[.string ⟨#[100, 97, 121]⟩, .string ⟨#[112, 108, 97, 99, 101]⟩, .string ⟨#[108, 101, 118, 101, 108]⟩, .string ⟨#[99, 97, 117, 103, 104, 116]⟩, .string ⟨#[98, 117, 114, 105, 101, 100]⟩] 9)) (.slice (some ⟨w1.heap.size, 0, none⟩) 5 5) hdI [w1.heap.size] := Sl.lit2 (E := fStr) w1 hdI _ _ rfl hd_oks (by show 0 < 5; decide) (by show 5 ≤ _; decide)
    have hr0 := RowsV.first (B := w.heap.size) hBa.size hs0 (fun b hb => by rw [List.mem_singleton] at hb; subst hb; exact hb1.size)
    rw [← rowsI_zero xs, World.size_alloc] at hr0
    have H0 := Lib.hid h0
    have hl48 := incsB_len h0
    clear h0 hs0 hBa
    go_wp2
    go_loopw [4, 14] (fun v i wr => ∃ k : Nat, k ≤ xs.length ∧ i = .int .i64 k ∧ (∃ V F, RowsV wr w.heap.size v (rowsI xs k) V F) ∧ Below w.heap.size w wr) (fun _ i _ => xs.length - (intOf i).toNat)
    case atStart => exact ⟨0, Nat.zero_le _, rfl, ⟨_, _, hr0⟩, hB0⟩
    case round =>
      clear hr0 hB0
      obtain ⟨k, hk, rfl, ⟨V, F, hrw⟩, hb⟩ := hrel
      by_cases hlt : k < xs.length
      · obtain ⟨b, off, rfl, hbm0, hok, hp⟩ := PIncident.elem (hx.below' hb) hlt
        have hbm := hlt0 b hbm0
        have hv := incsB_one H0.out hlt
        have hpp := incP_of hv
        have HDO := Lib.hid (dayP_ok hpp.day.1 hpp.day.2)
        have HRO := Lib.hid (rowI_oks hv)
        have HST : Hid (rowsI xs (k + 1) = rowsI xs k ++ [rowI xs[k]]) := rowsI_step hlt
        obtain ⟨_, _, hlv, hcg, hbd⟩ := hpp
        obtain ⟨c0, c1, c2, c3, c4, c5⟩ := id hp
        have hrow : u4.ownBlock ≠ some wr.heap.size := fun e => by have := (World.ownsRow.lt hrw.own _ e).2; omega
        go_wp2
        refine at_world (fun W => Below w.heap.size w W ∧ PIncident W wr.heap.size 0 xs[k] ∧ RowsV W w.heap.size u4 (rowsI xs k) V F) ⟨hb.alloc hb.size _, PIncident.box wr xs[k] _, hrw.below ((Below.refl _ _).alloc (Nat.le_refl _) _)⟩ ?_
        clear c0 c1 c2 c3 c4 c5 hp hrw
        generalize wr.heap.size = wq at *
        rintro W ⟨hBW, hpW, hrW⟩
        have hbW := hBW.size
        have hrowne : some wq = u4.ownBlock → False := fun e => hrow e.symm
        have gk0 : ∀ p : KeptW (w.heap.size) W (fun N => PIncident N wq 0 xs[k]), p.v.cell? ⟨wq, 0, none⟩ = some (.int .i64 xs[k].day) := fun p => p.x.c0
        have gk1 : ∀ p : KeptW (w.heap.size) W (fun N => PIncident N wq 0 xs[k]), p.v.cell? ⟨wq, 1, none⟩ = some (.string xs[k].place) := fun p => p.x.c1
        have gk3 : ∀ p : KeptW (w.heap.size) W (fun N => PIncident N wq 0 xs[k]), p.v.cell? ⟨wq, 3, none⟩ = some (.int .i64 xs[k].level) := fun p => p.x.c3
        have gk4 : ∀ p : KeptW (w.heap.size) W (fun N => PIncident N wq 0 xs[k]), p.v.cell? ⟨wq, 4, none⟩ = some (.int .i64 xs[k].caught) := fun p => p.x.c4
        have gk5 : ∀ p : KeptW (w.heap.size) W (fun N => PIncident N wq 0 xs[k]), p.v.cell? ⟨wq, 5, none⟩ = some (.int .i64 xs[k].buried) := fun p => p.x.c5
        haveI hKne : Nonempty (KeptW (w.heap.size) W (fun N => PIncident N wq 0 xs[k])) := ⟨⟨_, Below.drew (Below.refl _ _), (hpW.below' (Below.drew (Below.refl _ _)))⟩⟩
        refine wp_region_mixed [0, 1, 2, 4, 5, 6, 7, 9, 10, 12, 13, 3, 8, 11, 14, 15, 16, 17, 18] (C := fun w' => ∃ p : KeptW (w.heap.size) W (fun N => PIncident N wq 0 xs[k]), w' = p.v) [true, true, true, true, true, true, true, true, true, true, true, false, false, false, false, false, false, false, true] (by kernel_rfl) (by kernel_rfl) (by kernel_rfl) (fun _ _ d _ _ h => by cases d <;> exact h) ⟨⟨_, Below.drew (Below.refl _ _), (hpW.below' (Below.drew (Below.refl _ _)))⟩, rfl⟩ ?_
        simp only [List.map_cons, List.map_nil, List.getD_cons_zero, List.getD_cons_succ]
        have hS0 : Below (w.heap.size) W W.drew := Below.drew (Below.refl _ _)
        refine wpMix_pure (by kernel_rfl) (fun K hK => ?_)
        go_big_quiet_op
        refine hK _ ?_; clear hK K
        refine wpMix_pure (by kernel_rfl) (fun K hK => ?_)
        go_big_quiet_op
        refine hK _ ?_; clear hK K
        refine wpMix_pure (by kernel_rfl) (fun K hK => ?_)
        go_big_quiet_op
        refine hK _ ?_; clear hK K
        refine wpMix_pure (by kernel_rfl) (fun K hK => ?_)
        go_big_quiet_op
        refine hK _ ?_; clear hK K
        refine wpMix_pure (by kernel_rfl) (fun K hK => ?_)
        go_big_quiet_op
        refine hK _ ?_; clear hK K
        refine wpMix_pure (by kernel_rfl) (fun K hK => ?_)
        go_big_quiet_op
        refine hK _ ?_; clear hK K
        refine wpMix_pure (by kernel_rfl) (fun K hK => ?_)
        go_big_quiet_op
        refine hK _ ?_; clear hK K
        refine wpMix_pure (by kernel_rfl) (fun K hK => ?_)
        go_big_quiet_op
        refine hK _ ?_; clear hK K
        refine wpMix_pure (by kernel_rfl) (fun K hK => ?_)
        go_big_quiet_op
        refine hK _ ?_; clear hK K
        refine wpMix_pure (by kernel_rfl) (fun K hK => ?_)
        go_big_quiet_op
        refine hK _ ?_; clear hK K
        refine wpMix_pure (by kernel_rfl) (fun K hK => ?_)
        go_big_quiet_op
        refine hK _ ?_; clear hK K
        refine wpMix_act (by kernel_rfl) (fun K hK => ?_)
        go_big_op
        refine (DateText_any (dayP xs[k].day).1 (dayP xs[k].day).2.1 (dayP xs[k].day).2.2 xs[k].day _ HDO.out.1 HDO.out.2 (ht.below (hBW.trans hS0))).mono ?_
        rintro e wr1 ⟨rfl, hbr1⟩
        have hbr1S : Below (w.heap.size) W wr1 := hS0.trans (hbr1.mono (Nat.le_trans hbW hS0.size))
        refine hK _ _ ⟨⟨_, hbr1S, (((hpW.below' (Below.drew (Below.refl _ _)))).below' hbr1)⟩, rfl⟩ ?_
        clear hK K
        refine wpMix_act (by kernel_rfl) (fun K hK => ?_)
        go_big_op
        refine (Decimal_any xs[k].level _ (by omega) (by omega) (ht.below (hBW.trans hbr1S))).mono ?_
        rintro e wr2 ⟨rfl, hbr2⟩
        have hbr2S : Below (w.heap.size) W wr2 := hbr1S.trans (hbr2.mono (Nat.le_trans hbW hbr1S.size))
        refine hK _ _ ⟨⟨_, hbr2S, (((((hpW.below' (Below.drew (Below.refl _ _)))).below' hbr1)).below' hbr2)⟩, rfl⟩ ?_
        clear hK K
        refine wpMix_act (by kernel_rfl) (fun K hK => ?_)
        go_big_op
        refine (Decimal_any xs[k].caught _ (by omega) (by omega) (ht.below (hBW.trans hbr2S))).mono ?_
        rintro e wr3 ⟨rfl, hbr3⟩
        have hbr3S : Below (w.heap.size) W wr3 := hbr2S.trans (hbr3.mono (Nat.le_trans hbW hbr2S.size))
        refine hK _ _ ⟨⟨_, hbr3S, (((((((hpW.below' (Below.drew (Below.refl _ _)))).below' hbr1)).below' hbr2)).below' hbr3)⟩, rfl⟩ ?_
        clear hK K
        refine wpMix_act (by kernel_rfl) (fun K hK => ?_)
        go_big_op
        refine (Decimal_any xs[k].buried _ (by omega) (by omega) (ht.below (hBW.trans hbr3S))).mono ?_
        rintro e wr4 ⟨rfl, hbr4⟩
        have hbr4S : Below (w.heap.size) W wr4 := hbr3S.trans (hbr4.mono (Nat.le_trans hbW hbr3S.size))
        refine hK _ _ ⟨⟨_, hbr4S, (((((((((hpW.below' (Below.drew (Below.refl _ _)))).below' hbr1)).below' hbr2)).below' hbr3)).below' hbr4)⟩, rfl⟩ ?_
        clear hK K
        refine wpMix_act (by kernel_rfl) (fun K hK => ?_)
        go_big_op
        refine hK _ _ ⟨⟨_, (hbr4S.alloc (Nat.le_trans hbW hbr4S.size) _), (((((((((((hpW.below' (Below.drew (Below.refl _ _)))).below' hbr1)).below' hbr2)).below' hbr3)).below' hbr4)).below' ((Below.refl _ _).alloc (Nat.le_refl _) _))⟩, rfl⟩ ?_
        clear hK K
        refine mix_world (fun N => Below (w.heap.size) W N ∧ PIncident N wq 0 xs[k] ∧ RowsV N w.heap.size u4 (rowsI xs k) V F ∧ Sl fStr.cod N (.slice (some ⟨wr4.heap.size, 0, none⟩) 5 5) (rowI xs[k]) [wr4.heap.size] ∧ wr4.heap.size < N.heap.size) ⟨hbr4S.alloc (Nat.le_trans hbW hbr4S.size) _, ⟨(((((hpW.below' (Below.drew (Below.refl _ _))).below' hbr1).below' hbr2).below' hbr3).below' hbr4).below' ((Below.refl _ _).alloc (Nat.le_refl _) _), (((((hrW.below (Below.drew (Below.refl _ _))).below hbr1).below hbr2).below hbr3).below hbr4).below ((Below.refl _ _).alloc (Nat.le_refl _) _), Sl.lit2 (E := fStr) wr4 (rowI xs[k]) _ _ rfl HRO.out (by show 0 < 5; decide) (by show 5 ≤ _; decide), by simp⟩⟩ ?_
        rintro wr5 ⟨hbr5S, hbr5F⟩
        refine wpMix_act (by kernel_rfl) (fun K hK => ?_)
        go_big_op
        refine hK _ _ ⟨⟨_, (hbr5S.alloc (Nat.le_trans hbW hbr5S.size) _), ((hbr5F.1).below' ((Below.refl _ _).alloc (Nat.le_refl _) _))⟩, rfl⟩ ?_
        clear hK K
        refine mix_world (fun N => Below (w.heap.size) W N ∧ PIncident N wq 0 xs[k] ∧ RowsV N w.heap.size u4 (rowsI xs k) V F ∧ Sl fStr.cod N (.slice (some ⟨wr4.heap.size, 0, none⟩) 5 5) (rowI xs[k]) [wr4.heap.size] ∧ wr4.heap.size < N.heap.size ∧ N.cell? ⟨wr5.heap.size, 0, none⟩ = some (.slice (some ⟨wr4.heap.size, 0, none⟩) 5 5)) ⟨hbr5S.alloc (Nat.le_trans hbW hbr5S.size) _, ⟨hbr5F.1.below' ((Below.refl _ _).alloc (Nat.le_refl _) _), hbr5F.2.1.below ((Below.refl _ _).alloc (Nat.le_refl _) _), hbr5F.2.2.1.below' ((Below.refl _ _).alloc (Nat.le_refl _) _), by have := hbr5F.2.2.2; simp; omega, by simp⟩⟩ ?_
        rintro wr6 ⟨hbr6S, hbr6F⟩
        refine wpMix_act (by kernel_rfl) (fun K hK => ?_)
        obtain ⟨hp6, hr6, hs6, hlt6, hc6⟩ := hbr6F
        refine wp_append_at2 _ _ _ 38 rfl w.heap.size 24 i0 (.slice none 0 0) 1 24 Tryz.underlying38 hi hz0 hz1 hz2 rfl (by decide) u4 (rowsI xs k).length _ rfl hr6.own [.slice (some ⟨wr4.heap.size, 0, none⟩) 5 5] rfl (by intro u hu; rw [List.mem_singleton] at hu; subst hu; rfl) wr5.heap.size rfl (by intro j u hj; match j, hj with | 0, hj => (injection hj with hj; subst hj; exact hc6) | j + 1, hj => (simp at hj)) (by rw [rowsI_len hk]; omega) (by decide) (Nat.le_trans hbW hbr6S.size) ?_
        intro v' u hown hbu hgr hli
        have hr7 := hr6.push hs6 (fun b hb => by rw [List.mem_singleton] at hb; subst hb; exact ⟨Nat.le_trans hbW hbr4S.size, fun e => by have := hrW.lt _ e; have := hbr4S.size; have h5 := hS0.size; exact Nat.lt_irrefl _ (Nat.lt_of_lt_of_le (hrW.lt _ e) (W_le hbr4S))⟩) hown hgr hli
        rw [← HST.out] at hr7
        clear hown
        have hpu : PIncident u wq 0 xs[k] := hp6.keptI (fun j => World.cell?_of_block (a := ⟨wq, j, none⟩) (hgr.block wq hp6.lt (fun e => hrowne e)))
        have hbuS : Below (w.heap.size) W u := hbr6S.trans hbu
        try simp only [Act.put, List.setIfInBounds_toArray, List.set_cons_zero, List.set_cons_succ]
        refine hK _ _ ⟨⟨_, hbuS, hpu⟩, rfl⟩ ?_
        clear hK K
        refine wpMix_pure (by kernel_rfl) (fun K hK => ?_)
        go_big_quiet_op
        refine hK _ ?_; clear hK K
        refine wpMix_nil ?_
        have hb9 := hBW.trans hbuS
        go_wp2
        go_roundw
        case rel => exact ⟨k + 1, by omega, by go_num, ⟨_, _, hr7⟩, hb9⟩
        case measure => simp [intOf]; omega
      · have hke : k = xs.length := by omega
        subst hke
        have hrl : (rowsI xs xs.length).length = xs.length + 1 := rowsI_len (Nat.le_refl _)
        obtain ⟨fpr, hsl⟩ := hrw.sl (by omega)
        have hrs := rows_size H0.out xs.length
        have hro := rows_ok H0.out xs.length
        have h12 := rowsOk_12 hro
        have HTC := Lib.hid (show tlC (rowsI xs xs.length) = doneC (tabF (rowsI xs xs.length)) from by rw [tlC, hro]; rfl)
        have HTF := Lib.hid (show tlF (rowsI xs xs.length) = doneF (tabF (rowsI xs xs.length)) from by rw [tlF, hro]; rfl)
        have hlen7 : (rowsI xs xs.length).length ≤ 1048577 := by omega
        clear hro hrw
        generalize rowsI xs xs.length = R at *
        clear hrl
        go_wp2_with fail
        refine (implTableLines_any _ R fpr _ hsl hlen7 hrs).mono ?_
        rintro e w2 ⟨v2, rfl, hn⟩
        have hn2 := hn.later hb
        rw [HTF.out] at hn2
        go_wp2
        go_ret2
        exact ⟨_, by rw [HC.out, ← HTC.out]; rfl, by rw [HF.out]; exact hn2⟩

end Go.Proofs.YtjlnjeogaokkoaaGreatDoor
