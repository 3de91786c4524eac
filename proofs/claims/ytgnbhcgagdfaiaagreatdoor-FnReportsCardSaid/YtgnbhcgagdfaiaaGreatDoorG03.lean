/- Parts of the proof: Dc, Lv, TIncident, PIncident, Io, Cq, Iv, Dd, Nest, Ra, Ln, Tl, TGroup. -/
import Derived.Test.YtgnbhcgagdfaiaaGreatDoorG01
import Derived.Test.YtgnbhcgagdfaiaaGreatDoorG02
import Derived.Lib.TrimByte
namespace Go.Proofs.YtgnbhcgagdfaiaaGreatDoor
open Go.RowKit
set_option linter.unusedVariables false

theorem rem4 {y : Int} (h : 0 ≤ y) : (y % 4 == 0) = (leapI y == 1) := by
  unfold leapI
  by_cases e : y % 4 = 0
  · rw [if_pos e, e]; rfl
  · rw [if_neg e, beq_eq_false_iff_ne.2 e]; rfl
/-- The days of a month of a year without a day more. -/
def lenT (m : Int) : Int := if m = 0 then 365 else if m = 2 then 28 else if m = 4 ∨ m = 6 ∨ m = 9 ∨ m = 11 then 30 else 31
theorem monthC0 {m : Int} (h1 : 0 ≤ m) (h2 : m ≤ 12) : m = 0 ∨ m = 1 ∨ m = 2 ∨ m = 3 ∨ m = 4 ∨ m = 5 ∨ m = 6 ∨ m = 7 ∨ m = 8 ∨ m = 9 ∨ m = 10 ∨ m = 11 ∨ m = 12 := by omega
theorem lenM_plain {y m : Int} (h : ¬ (leapI y = 1 ∧ (m = 0 ∨ m = 2))) : lenM y m = lenT m := by
  have := leapI_01 y
  unfold lenM lenT
  repeat' split
  all_goals omega
theorem lenM_more {y m : Int} (h : leapI y = 1 ∧ (m = 0 ∨ m = 2)) : lenM y m = lenT m + 1 := by
  unfold lenM lenT
  repeat' split
  all_goals omega
theorem lenT_range (m : Int) : 28 ≤ lenT m ∧ lenT m ≤ 365 := by
  unfold lenT
  repeat' split
  all_goals omega
theorem daysTab (m : Int) (h1 : 0 ≤ m) (h2 : m ≤ 12) (W : World) : (Instr.index 181 (.agg #[.int .i64 365, .int .i64 31, .int .i64 28, .int .i64 31, .int .i64 30, .int .i64 31, .int .i64 30, .int .i64 31, .int .i64 31, .int .i64 30, .int .i64 31, .int .i64 30, .int .i64 31]) (.int .i64 m)).run Tryz.prog W = .ok (.int .i64 (lenT m)) W := by
  rcases monthC0 h1 h2 with h | h | h | h | h | h | h | h | h | h | h | h | h <;> subst h <;> simp [Instr.index, run_underlying Tryz.underlying181, asIntOf, go_sem, lenT]
set_option maxRecDepth 100000 in
set_option maxHeartbeats 2000000 in
theorem daysIn_any (y m : Int) (w : World) (hy : 0 ≤ y) (hm : 0 ≤ m) (hm2 : m ≤ 12) :
    Calls Tryz.prog 124 #[.int .i64 y, .int .i64 m] w fun e w' => e = .returned (.int .i64 (lenM y m)) ∧ w = w' := by
  have hix := daysTab m hm hm2
  have hr := lenT_range m
  have h4 := rem4 hy
  by_cases hl : leapI y = 1
  · by_cases hc : m = 0 ∨ m = 2
    · have HR := Lib.hid (lenM_more ⟨hl, hc⟩)
      have e4 : (y % 4 == 0) = true := by rw [h4, hl]; rfl
      have e1 : wrap64 (lenT m + 1) = lenT m + 1 := by unfold wrap64; omega
      rcases hc with hc | hc
      · have e0 : (m == 0) = true := by rw [hc]; rfl
        clear h4 hl hc
        generalize lenT m = t at *
        go_enter Tryz.func124, Tryz.ntmps124
        go_wp2
        go_ret
        exact ⟨ret_int HR.out.symm, rfl⟩
      · have e0 : (m == 0) = false := by rw [hc]; rfl
        have e2 : (m == 2) = true := by rw [hc]; rfl
        clear h4 hl hc
        generalize lenT m = t at *
        go_enter Tryz.func124, Tryz.ntmps124
        go_wp2
        go_ret
        exact ⟨ret_int HR.out.symm, rfl⟩
    · have HR := Lib.hid (lenM_plain (y := y) (m := m) (fun h => hc h.2))
      have e4 : (y % 4 == 0) = true := by rw [h4, hl]; rfl
      have e0 : (m == 0) = false := by rw [beq_eq_false_iff_ne]; omega
      have e2 : (m == 2) = false := by rw [beq_eq_false_iff_ne]; omega
      clear h4 hl hc
      generalize lenT m = t at *
      go_enter Tryz.func124, Tryz.ntmps124
      go_wp2
      go_ret
      exact ⟨ret_int HR.out.symm, rfl⟩
  · have HR := Lib.hid (lenM_plain (y := y) (m := m) (fun h => hl h.1))
    have hl0 : leapI y = 0 := by rcases leapI_01 y with h | h; exact h; exact absurd h hl
    have e4 : (y % 4 == 0) = false := by rw [h4, hl0]; rfl
    clear h4 hl hl0
    generalize lenT m = t at *
    go_enter Tryz.func124, Tryz.ntmps124
    go_wp2
    go_ret
    exact ⟨ret_int HR.out.symm, rfl⟩
theorem two_cell {n : Int} (h0 : 0 ≤ n) (h1 : n < 100) : ((UInt8.ofNat (48 + n.toNat / 10)).toNat : Int) = 48 + n / 10 ∧ ((UInt8.ofNat (48 + n.toNat % 10)).toNat : Int) = 48 + n % 10 := by
  rw [UInt8.toNat_ofNat', UInt8.toNat_ofNat']
  omega
set_option maxRecDepth 100000 in
set_option maxHeartbeats 1000000 in
theorem twoDigits_any (n : Int) (w : World) (h0 : 0 ≤ n) (h1 : n < 100) :
    Calls Tryz.prog 83 #[.int .i64 n] w fun e w' => e = .returned (.string ⟨(two n).toArray⟩) ∧ Below w.heap.size w w' := by
  obtain ⟨e1, e2⟩ := two_cell h0 h1
  have hown : Own fByte (w.alloc (.cells #[.int .u8 ((UInt8.ofNat (48 + n.toNat / 10)).toNat : Int), .int .u8 ((UInt8.ofNat (48 + n.toNat % 10)).toNat : Int)] 5)) w.heap.size 5 (.slice (some ⟨w.heap.size, 0, none⟩) 2 2) (two n) := World.ownsRow_lit w _ 2 (Nat.le_refl _) (by unfold maxLen; omega) rfl
  have hcv := hown.text
  rw [e1, e2] at hcv
  clear hown e1 e2
  generalize two n = t at *
  go_enter Tryz.func83, Tryz.ntmps83
  go_wp2
  go_ret
  exact ⟨rfl, (Below.refl _ _).alloc (Nat.le_refl _) _⟩
set_option maxRecDepth 100000 in
set_option maxHeartbeats 2000000 in
theorem dayValid_any (n : Int) (w : World) : Calls Tryz.prog 120 #[.int .i64 n] w fun e w' => e = .returned (.bool (inB n 0 36524)) ∧ w = w' := by
  go_enter Tryz.func120, Tryz.ntmps120
  go_wp2_with (go_at_call 101; refine (withinB_any _ _ _ _).mono ?_; rintro e w' ⟨rfl, rfl⟩)
  go_ret
  exact ⟨rfl, rfl⟩
set_option maxRecDepth 100000 in
set_option maxHeartbeats 2000000 in
theorem DateOf_any (y m d n : Int) (w : World) (h : dateOk y m d) (hn : n = numD y m d) :
    Calls Tryz.prog 82 #[.int .i64 n] w fun e w' => e = .returned (.tuple #[.int .i64 y, .int .i64 m, .int .i64 d, .int .i64 0]) ∧ w = w' := by
  have hb := numD_bounds h
  have hin : inB n 0 36524 = true := inB_true.2 (by omega)
  have hyl := year_le h
  have HY := Lib.hid (fun (t r : Int) (ht : t ≤ y) (hr : r = numD y m d - yB t) => year_go h ht hr)
  have HM := Lib.hid (fun (t r : Int) (h0 : 1 ≤ t) (ht : t ≤ m) (hr : r = cumM y m + d - 1 - cumM y t) => month_go h h0 ht hr)
  have HR := Lib.hid (yB_rest n)
  obtain ⟨⟨hy0, hy1⟩, ⟨hm0, hm1⟩, hd0, hd1⟩ := h
  have hst : Hid (∀ t : Int, yB (t + 1) = yB t + lenM t 0) := yB_step
  have hcs : Hid (∀ t : Int, 1 ≤ t → t ≤ 12 → cumM y (t + 1) = cumM y t + lenM y t) := fun t h1 h2 => cumM_step y h1 h2
  have hl0b : Hid (∀ t : Int, 365 ≤ lenM t 0 ∧ lenM t 0 ≤ 366) := fun t => by rw [lenM_zero]; have := leapI_01 t; omega
  have hlb : Hid (∀ t : Int, 1 ≤ t → t ≤ 12 → 28 ≤ lenM y t ∧ lenM y t ≤ 31) := fun t h1 h2 => lenM_pos y h1 h2
  have hlen := lenM_pos y hm0 hm1
  have HD := Lib.hid (show numD y m d = yB y + cumM y m + d - 1 from rfl)
  have HN := Lib.hid hn
  rw [← hn] at hb hyl
  clear hn
  go_enter Tryz.func82, Tryz.ntmps82
  go_wp2_with first | (go_at_call 120; refine (dayValid_any _ _).mono ?_; rintro e w' ⟨rfl, rfl⟩) | (go_at_call 124; refine (daysIn_any _ _ _ (by omega) (by omega) (by omega)).mono ?_; rintro e w' ⟨rfl, rfl⟩)
  go_loop [6, 7] (fun a b => ∃ t : Int, a = .int .i64 t ∧ 2000 ≤ t ∧ t ≤ y ∧ ∃ r : Int, b = .int .i64 r ∧ 0 ≤ r ∧ r ≤ 40000 ∧ Hid (r = numD y m d - yB t)) (fun a _ => (y - intOf a).toNat)
  case atStart => exact ⟨_, rfl, by omega, by omega, _, rfl, by omega, by omega, by have := HR.out; have := HN.out; show _ = _; omega⟩
  case round =>
    obtain ⟨t, rfl, ht0, ht1, r, rfl, hr0, hr1, HQ⟩ := hrel
    have hg := (HY.out t r ht1 HQ.out).2
    have hl := hl0b.out t
    by_cases hlt : t < y
    · have hge : lenM t 0 ≤ r := hg.2 hlt
      clear hg
      go_wp2_with (go_at_call 124; refine (daysIn_any _ _ _ (by omega) (by omega) (by omega)).mono ?_; rintro e w' ⟨rfl, rfl⟩)
      go_round
      case rel => exact ⟨t + 1, by go_num, by omega, by omega, r - lenM t 0, by go_num, by omega, by omega, by have := HQ.out; have := hst.out t; show _ = _; omega⟩
      case measure => simp [intOf]; omega
    · have hge : ¬ lenM t 0 ≤ r := fun e => hlt (hg.1 e)
      clear hg
      obtain rfl : t = y := by omega
      have HQ1 : Hid (r = cumM t m + d - 1 - cumM t 1) := by have := HQ.out; have := HD.out; have := cumM_one t; show _ = _; omega
      go_wp2_with (go_at_call 124; refine (daysIn_any _ _ _ (by omega) (by omega) (by omega)).mono ?_; rintro e w' ⟨rfl, rfl⟩)
      go_loop [7, 8] (fun b a => ∃ u : Int, a = .int .i64 u ∧ 1 ≤ u ∧ u ≤ m ∧ ∃ r : Int, b = .int .i64 r ∧ 0 ≤ r ∧ r ≤ 40000 ∧ Hid (r = cumM t m + d - 1 - cumM t u)) (fun _ a => (m - intOf a).toNat)
      case atStart => exact ⟨1, rfl, by omega, by omega, _, rfl, by omega, by omega, HQ1⟩
      case round =>
        obtain ⟨u, rfl, hu0, hu1, r2, rfl, hr20, hr21, HQ2⟩ := hrel
        have hg := (HM.out u r2 hu0 hu1 HQ2.out).2
        have hl2 := hlb.out u (by omega) (by omega)
        by_cases hlt : u < m
        · have hge : lenM t u ≤ r2 := hg.2 hlt
          clear hg
          go_wp2_with (go_at_call 124; refine (daysIn_any _ _ _ (by omega) (by omega) (by omega)).mono ?_; rintro e w' ⟨rfl, rfl⟩)
          go_round
          case rel => exact ⟨u + 1, by go_num, by omega, by omega, r2 - lenM t u, by go_num, by omega, by omega, by have := HQ2.out; have := hcs.out u (by omega) (by omega); show _ = _; omega⟩
          case measure => simp [intOf]; omega
        · have hge : ¬ lenM t u ≤ r2 := fun e => hlt (hg.1 e)
          clear hg
          obtain rfl : u = m := by omega
          obtain rfl : r2 = d - 1 := by have := HQ2.out; omega
          have e1 : wrap64 (d - 1 + 1) = d := by unfold wrap64; omega
          have e2 : d - 1 + 1 = d := by omega
          go_wp2_with (go_at_call 124; refine (daysIn_any _ _ _ (by omega) (by omega) (by omega)).mono ?_; rintro e w' ⟨rfl, rfl⟩)
          exact bodyPost_ret (v := .tuple #[.int .i64 t, .int .i64 u, .int .i64 d, .int .i64 0]) (by simp [results, *, Tryz.results82, go_sem]) rfl ⟨rfl, rfl⟩
def dayS (y m d : Int) : ByteArray := ⟨(dayL y m d).toArray⟩
theorem dayS_size {y m d : Int} (h : dateOk y m d) : (dayS y m d).size = 10 := by unfold dayS; rw [mkL_size, dayL_len h]
theorem dayS_cat (y m d : Int) : decS y ++ ⟨#[45]⟩ ++ ⟨(two m).toArray⟩ ++ ⟨#[45]⟩ ++ ⟨(two d).toArray⟩ = dayS y m d := by
  have e45 : (⟨#[45]⟩ : ByteArray) = ⟨([45] : List UInt8).toArray⟩ := rfl
  unfold dayS dayL decS
  rw [e45, bytesL_append, bytesL_append, bytesL_append, bytesL_append]
theorem two_size (n : Int) : (⟨(two n).toArray⟩ : ByteArray).size = 2 := rfl
set_option maxRecDepth 100000 in
set_option maxHeartbeats 2000000 in
theorem DateText_any (y m d n : Int) (w : World) (h : dateOk y m d) (hn : n = numD y m d) (ht : Tab10 w) :
    Calls Tryz.prog 44 #[.int .i64 n] w fun e w' => e = .returned (.string (dayS y m d)) ∧ Below w.heap.size w w' := by
  have hy := h.1
  have hm := h.2.1
  have hd := h.2.2
  have hl := lenM_pos y hm.1 hm.2
  have HC := Lib.hid (dayS_cat y m d)
  generalize dayS y m d = RES at *
  have hs4 : (decS y).size = 4 := by rw [decS_size, yearL hy.1 hy.2]; rfl
  have hsm := two_size m
  have hsd := two_size d
  have hDO := fun w => DateOf_any y m d n w h hn
  obtain ⟨hy1, hy2⟩ := hy
  obtain ⟨hm1, hm2⟩ := hm
  obtain ⟨hd1, hd2⟩ := hd
  have hd3 : d ≤ 31 := by omega
  clear h hn hd2 hl
  go_enter Tryz.func44, Tryz.ntmps44
  go_wp2_with fail
  refine (hDO _).mono ?_
  rintro e w' ⟨rfl, rfl⟩
  go_wp2_with fail
  refine (Decimal_any y _ (by omega) (by omega) ht).mono ?_
  rintro e w1 ⟨rfl, hb1⟩
  generalize decS y = Y at *
  go_wp2_with fail
  refine (twoDigits_any m _ (by omega) (by omega)).mono ?_
  rintro e w2 ⟨rfl, hb2⟩
  generalize (⟨(two m).toArray⟩ : ByteArray) = M at *
  go_wp2_with fail
  refine (twoDigits_any d _ (by omega) (by omega)).mono ?_
  rintro e w3 ⟨rfl, hb3⟩
  generalize (⟨(two d).toArray⟩ : ByteArray) = Z at *
  go_wp2
  go_ret
  exact ⟨ret_str HC.out, hb1.trans ((hb2.mono hb1.size).trans (hb3.mono (Nat.le_trans hb1.size hb2.size)))⟩
theorem fN_range {l : List UInt8} (h : l.length ≤ 4) : -1 ≤ fN l ∧ fN l ≤ 1000000 := by
  cases hd : l.all digB
  · rw [fN_bad hd]; omega
  · rw [fN_ok hd]
    have := valL_lt l 0 0 hd (by decide)
    have h2 : 10 ^ (0 + l.length) ≤ 10 ^ 4 := Nat.pow_le_pow_right (by decide) (by omega)
    have h3 : (10 : Nat) ^ 4 = 10000 := by decide
    omega
theorem ex_y (s : ByteArray) : (s.extract 0 4).data.toList = s.data.toList.take 4 := by rw [extract_toList, List.drop_zero]
theorem ex_m (s : ByteArray) : (s.extract 5 7).data.toList = (s.data.toList.take 7).drop 5 := by rw [extract_toList]
theorem ex_d (s : ByteArray) : (s.extract 8 s.size).data.toList = s.data.toList.drop 8 := by rw [extract_toList, List.take_of_length_le (by simp)]
theorem f_range (s : ByteArray) (h : s.size = 10) : (-1 ≤ yF s.data.toList ∧ yF s.data.toList ≤ 1000000) ∧ (-1 ≤ mF s.data.toList ∧ mF s.data.toList ≤ 1000000) ∧ (-1 ≤ dF s.data.toList ∧ dF s.data.toList ≤ 1000000) := by
  have hl : s.data.toList.length = 10 := by simpa using h
  unfold yF mF dF
  exact ⟨fN_range (by rw [List.length_take]; omega), fN_range (by rw [List.length_drop, List.length_take]; omega), fN_range (by rw [List.length_drop]; omega)⟩
theorem lenCell (w : World) (T : TypeId) (k : Nat) (h : k < 12) : (w.alloc (.cells #[.int .i64 31, .int .i64 28, .int .i64 31, .int .i64 30, .int .i64 31, .int .i64 30, .int .i64 31, .int .i64 31, .int .i64 30, .int .i64 31, .int .i64 30, .int .i64 31] T)).cell? ⟨w.heap.size, k, none⟩ = some (.int .i64 (lenT ((k : Int) + 1))) := by
  rw [World.cell?_alloc_at _ _ _ _ rfl]
  have : k = 0 ∨ k = 1 ∨ k = 2 ∨ k = 3 ∨ k = 4 ∨ k = 5 ∨ k = 6 ∨ k = 7 ∨ k = 8 ∨ k = 9 ∨ k = 10 ∨ k = 11 := by omega
  rcases this with h | h | h | h | h | h | h | h | h | h | h | h <;> subst h <;> rfl
set_option maxRecDepth 100000 in
set_option maxHeartbeats 2000000 in
theorem l02Length_any (y m : Int) (w : World) (hy : 0 ≤ y) (h1 : 1 ≤ m) (h2 : m ≤ 12) :
    Calls Tryz.prog 125 #[.int .i64 y, .int .i64 m] w fun e w' => e = .returned (.int .i64 (lenM y m)) ∧ Below w.heap.size w w' := by
  have h4 := rem4 hy
  by_cases hc : leapI y = 1 ∧ m = 2
  · have e4 : (y % 4 == 0) = true := by rw [h4, hc.1]; rfl
    have e2 : (m == 2) = true := by rw [hc.2]; rfl
    have HR : Hid (lenM y m = 29) := by show _ = _; rw [lenM_more ⟨hc.1, .inr hc.2⟩, hc.2]; rfl
    clear h4 hc
    go_enter Tryz.func125, Tryz.ntmps125
    go_wp2
    go_ret
    exact ⟨ret_int HR.out.symm, (Below.refl _ _).alloc (Nat.le_refl _) _⟩
  · have HR := Lib.hid (lenM_plain (y := y) (m := m) (fun h => by rcases h.2 with e | e; omega; exact hc ⟨h.1, e⟩))
    obtain ⟨k, rfl⟩ : ∃ k : Nat, m = (k : Int) + 1 := ⟨(m - 1).toNat, by omega⟩
    have hk : k < 12 := by omega
    have hcell := fun W T => lenCell W T k hk
    have e5 : (k : Int) + 1 - 1 = k := by omega
    have hlr := lenT_range ((k : Int) + 1)
    generalize lenT ((k : Int) + 1) = t at *
    by_cases hm2 : (k : Int) + 1 = 2
    · have e2 : ((k : Int) + 1 == 2) = true := by rw [hm2]; rfl
      have e4 : (y % 4 == 0) = false := by
        rw [h4]
        rcases leapI_01 y with e | e
        · rw [e]; rfl
        · exact absurd ⟨e, hm2⟩ hc
      clear h4 hc hm2
      go_enter Tryz.func125, Tryz.ntmps125
      go_wp2
      go_ret
      exact ⟨ret_int HR.out.symm, (Below.refl _ _).alloc (Nat.le_refl _) _⟩
    · have e2 : ((k : Int) + 1 == 2) = false := by rw [beq_eq_false_iff_ne]; exact hm2
      clear h4 hc hm2
      go_enter Tryz.func125, Tryz.ntmps125
      go_wp2
      go_ret
      exact ⟨ret_int HR.out.symm, (Below.refl _ _).alloc (Nat.le_refl _) _⟩

end Go.Proofs.YtgnbhcgagdfaiaaGreatDoor

namespace Go.Proofs.YtgnbhcgagdfaiaaGreatDoor
open Go.RowKit
set_option linter.unusedVariables false

set_option maxRecDepth 100000 in
set_option maxHeartbeats 2000000 in
theorem l02DayV_any (n : Int) (w : World) : Calls Tryz.prog 46 #[.int .i64 n] w fun e w' => e = .returned (.bool (inB n 0 36524)) ∧ w = w' := by
  go_enter Tryz.func46, Tryz.ntmps46
  go_wp2_with (go_at_call 85; refine (l00InB_any _ _ _ _).mono ?_; rintro e w' ⟨rfl, rfl⟩)
  go_ret
  exact ⟨rfl, rfl⟩
set_option maxRecDepth 100000 in
set_option maxHeartbeats 2000000 in
theorem l17IsV_any (n : Int) (w : World) : Calls Tryz.prog 60 #[.int .i64 n] w fun e w' => e = .returned (.bool (inB n 1 5)) ∧ w = w' := by
  go_enter Tryz.func60, Tryz.ntmps60
  go_wp2_with (go_at_call 85; refine (l00InB_any _ _ _ _).mono ?_; rintro e w' ⟨rfl, rfl⟩)
  go_ret
  exact ⟨rfl, rfl⟩
set_option maxRecDepth 100000 in
set_option maxHeartbeats 2000000 in
theorem levelOkV_any (n : Int) (w : World) : Calls Tryz.prog 66 #[.int .i64 n] w fun e w' => e = .returned (.bool (inB n 1 5)) ∧ w = w' := by
  go_enter Tryz.func66, Tryz.ntmps66
  go_wp2_with (go_at_call 101; refine (withinB_any _ _ _ _).mono ?_; rintro e w' ⟨rfl, rfl⟩)
  go_ret
  exact ⟨rfl, rfl⟩
end Go.Proofs.YtgnbhcgagdfaiaaGreatDoor

namespace Go.Proofs.YtgnbhcgagdfaiaaGreatDoor
open Go.RowKit
set_option linter.unusedVariables false

structure DIncident where
  day : Int
  place : ByteArray
  cause : ByteArray
  level : Int
  caught : Int
  buried : Int
  deriving DecidableEq

def fIncident : Flat DIncident where
  n := 6
  enc := fun x => [.int .i64 x.day, .string x.place, .string x.cause, .int .i64 x.level, .int .i64 x.caught, .int .i64 x.buried]
  ok := fun x => fInt.ok x.day ∧ fStr.ok x.place ∧ fStr.ok x.cause ∧ fInt.ok x.level ∧ fInt.ok x.caught ∧ fInt.ok x.buried
  pos := by omega
  len := fun _ => rfl
  one := by intro x v hv; simp at hv; rcases hv with rfl | rfl | rfl | rfl | rfl | rfl <;> rfl

def totIncident (x : DIncident) : Nat := x.place.size + x.cause.size
def totIncidentS (xs : List DIncident) : Nat := xs.length + (xs.map totIncident).sum






def mkIncident (k : Int) : DIncident := ⟨k, mt (k + 1), mt (k + 1 + 1), k + 1 + 1 + 1, k + 1 + 1 + 1 + 1, k + 1 + 1 + 1 + 1 + 1⟩
def marksIncident (k : Int) (n : Nat) : List DIncident := (List.range n).map fun (i : Nat) => mkIncident (k + 6 * (i : Int))

theorem marksIncident_get (k0 : Int) (n i : Nat) (h : i < (marksIncident k0 n).length) : (marksIncident k0 n)[i] = mkIncident (k0 + 6 * (i : Int)) := by
  simp [marksIncident]
theorem marksIncident_len (k0 : Int) (n : Nat) : (marksIncident k0 n).length = n := by simp [marksIncident]



end Go.Proofs.YtgnbhcgagdfaiaaGreatDoor

namespace Go.Proofs.YtgnbhcgagdfaiaaGreatDoor
open Go.RowKit
set_option linter.unusedVariables false

/-- A pointer to a Incident that lies somewhere. -/
structure PIncident (w : World) (pb po : Nat) (x : DIncident) : Prop where
  c0 : w.cell? ⟨pb, po, none⟩ = some (.int .i64 x.day)
  c1 : w.cell? ⟨pb, po + 1, none⟩ = some (.string x.place)
  c2 : w.cell? ⟨pb, po + 2, none⟩ = some (.string x.cause)
  c3 : w.cell? ⟨pb, po + 3, none⟩ = some (.int .i64 x.level)
  c4 : w.cell? ⟨pb, po + 4, none⟩ = some (.int .i64 x.caught)
  c5 : w.cell? ⟨pb, po + 5, none⟩ = some (.int .i64 x.buried)
theorem PIncident.below {w w' : World} {pb po : Nat} {x : DIncident} {B : Nat} (h : PIncident w pb po x) (hb : Below B w w') (hB : pb < B) : PIncident w' pb po x :=
  ⟨(hb.cell (p := ⟨pb, _, none⟩) hB).trans h.c0, (hb.cell (p := ⟨pb, _, none⟩) hB).trans h.c1, (hb.cell (p := ⟨pb, _, none⟩) hB).trans h.c2, (hb.cell (p := ⟨pb, _, none⟩) hB).trans h.c3, (hb.cell (p := ⟨pb, _, none⟩) hB).trans h.c4, (hb.cell (p := ⟨pb, _, none⟩) hB).trans h.c5⟩
theorem PIncident.drewN {w : World} {pb po : Nat} {x : DIncident} (h : PIncident w pb po x) (n : Nat) : PIncident (w.drewN n) pb po x :=
  ⟨h.c0, h.c1, h.c2, h.c3, h.c4, h.c5⟩
theorem PIncident.lt {w : World} {pb po : Nat} {x : DIncident} (h : PIncident w pb po x) : pb < w.heap.size := block_lt_of_cell h.c0
theorem PIncident.below' {w w' : World} {pb po : Nat} {x : DIncident} (h : PIncident w pb po x) (hb : Below w.heap.size w w') : PIncident w' pb po x := h.below hb h.lt
theorem PIncident.box (w : World) (x : DIncident) (T : TypeId) : PIncident (w.alloc (.cells #[.int .i64 x.day, .string x.place, .string x.cause, .int .i64 x.level, .int .i64 x.caught, .int .i64 x.buried] T)) w.heap.size 0 x := by
  constructor <;> simp
theorem PIncident.elem {w : World} {A : Option Addr} {len cap : Nat} {xs : List DIncident} {fp : List Nat} (h : Sl fIncident.cod w (.slice A len cap) xs fp) {k : Nat} (hk : k < xs.length) :
    ∃ b off, A = some ⟨b, off, none⟩ ∧ b ∈ fp ∧ fIncident.ok xs[k] ∧ PIncident w b (off + k * 6) xs[k] := by
  obtain ⟨b, off, hA, hm, hok, hc, _⟩ := h.at_ hk
  exact ⟨b, off, hA, hm, hok, ⟨hc 0 (by decide), hc 1 (by decide), hc 2 (by decide), hc 3 (by decide), hc 4 (by decide), hc 5 (by decide)⟩⟩
end Go.Proofs.YtgnbhcgagdfaiaaGreatDoor

namespace Go.Proofs.YtgnbhcgagdfaiaaGreatDoor
open Go.RowKit
set_option linter.unusedVariables false

def incB (x : DIncident) : Bool := inB x.day 0 36524 && nameB x.place && nameB x.cause && inB x.level 1 5 && inB x.caught 0 20 && inB x.buried 0 x.caught
def n00 : DIncident := ⟨0, ⟨#[]⟩, ⟨#[]⟩, 0, 0, 0⟩
def iAg (x : DIncident) : Value := .agg #[.int .i64 x.day, .string x.place, .string x.cause, .int .i64 x.level, .int .i64 x.caught, .int .i64 x.buried]
theorem incV (x : DIncident) : incB x = (inB x.day 0 36524 && (nameB x.place && (nameB x.cause && (inB x.level 1 5 && (inB x.caught 0 20 && inB x.buried 0 x.caught))))) := by
  unfold incB; simp only [Bool.and_assoc]
set_option maxRecDepth 100000 in
set_option maxHeartbeats 4000000 in
theorem l28One_any (pb po : Nat) (x : DIncident) (w : World) (hp : PIncident w pb po x) (hok : fIncident.ok x) :
    Calls Tryz.prog 118 #[.pointer (some ⟨pb, po, none⟩)] w fun e w' => e = .returned (.bool (incB x)) ∧ Below w.heap.size w w' := by
  obtain ⟨c0, c1, c2, c3, c4, c5⟩ := id hp
  obtain ⟨_, k1, k2, _⟩ := id hok
  have k1' : x.place.size ≤ 9223372036854775807 := k1
  have k2' : x.cause.size ≤ 9223372036854775807 := k2
  clear k1 k2 hok hp
  go_enter Tryz.func118, Tryz.ntmps118
  go_wp2
  have gc0 := cell_regrown c0
  have gc1 := cell_regrown c1
  have gc2 := cell_regrown c2
  have gc3 := cell_regrown c3
  have gc4 := cell_regrown c4
  have gc5 := cell_regrown c5
  refine wp_region_mix (C := fun w' => ∃ p : Regrown, w' = Go.Sort.grow (redrawn w p.d) p.os) [true, true, true, true, false, true, true, true, true, true, false, true, true, true, true, true, true, false, true, true, true, true, true, true, false, true, true, true, true, true, true, false, true, true, true, true, true, true, true, true, true, true, false, true, true] (by kernel_rfl) (by kernel_rfl) (by kernel_rfl) (fun _ _ d _ _ h => by cases d <;> exact h) (regrown_of_below (Below.drew (Below.refl _ _))) ?_
  have hS0 : Below (w.heap.size) w w.drew := Below.drew (Below.refl _ _)
  refine wpMix_pure (by kernel_rfl) (fun K hK => ?_); go_big_quiet_op; refine hK _ ?_; clear hK K
  refine wpMix_pure (by kernel_rfl) (fun K hK => ?_); go_big_quiet_op; refine hK _ ?_; clear hK K
  refine wpMix_pure (by kernel_rfl) (fun K hK => ?_); go_big_quiet_op; refine hK _ ?_; clear hK K
  refine wpMix_pure (by kernel_rfl) (fun K hK => ?_); go_big_quiet_op; refine hK _ ?_; clear hK K
  refine wpMix_act (by kernel_rfl) (fun K hK => ?_)
  go_big_op
  refine (l02DayV_any _ _).mono ?_
  rintro e w' ⟨rfl, rfl⟩
  refine hK _ _ (regrown_of_below hS0) ?_
  clear hK K
  cases hq4 : inB x.day 0 36524
  · skip
    refine wpMix_pure (by kernel_rfl) (fun K hK => ?_); go_big_quiet_op; refine hK _ ?_; clear hK K
    refine wpMix_skip (by kernel_rfl) (fun K hK => ?_)
    simp only [Act.put, List.setIfInBounds_toArray, List.set_cons_zero, List.set_cons_succ]
    refine hK _ ?_; clear hK K
    refine wpMix_skip (by kernel_rfl) (fun K hK => ?_)
    simp only [Act.put, List.setIfInBounds_toArray, List.set_cons_zero, List.set_cons_succ]
    refine hK _ ?_; clear hK K
    refine wpMix_skip (by kernel_rfl) (fun K hK => ?_)
    simp only [Act.put, List.setIfInBounds_toArray, List.set_cons_zero, List.set_cons_succ]
    refine hK _ ?_; clear hK K
    refine wpMix_skip (by kernel_rfl) (fun K hK => ?_)
    simp only [Act.put, List.setIfInBounds_toArray, List.set_cons_zero, List.set_cons_succ]
    refine hK _ ?_; clear hK K
    refine wpMix_skip (by kernel_rfl) (fun K hK => ?_)
    simp only [Act.put, List.setIfInBounds_toArray, List.set_cons_zero, List.set_cons_succ]
    refine hK _ ?_; clear hK K
    refine wpMix_pure (by kernel_rfl) (fun K hK => ?_); go_big_quiet_op; refine hK _ ?_; clear hK K
    refine wpMix_pure (by kernel_rfl) (fun K hK => ?_); go_big_quiet_op; refine hK _ ?_; clear hK K
    refine wpMix_skip (by kernel_rfl) (fun K hK => ?_)
    simp only [Act.put, List.setIfInBounds_toArray, List.set_cons_zero, List.set_cons_succ]
    refine hK _ ?_; clear hK K
    refine wpMix_skip (by kernel_rfl) (fun K hK => ?_)
    simp only [Act.put, List.setIfInBounds_toArray, List.set_cons_zero, List.set_cons_succ]
    refine hK _ ?_; clear hK K
    refine wpMix_skip (by kernel_rfl) (fun K hK => ?_)
    simp only [Act.put, List.setIfInBounds_toArray, List.set_cons_zero, List.set_cons_succ]
    refine hK _ ?_; clear hK K
    refine wpMix_skip (by kernel_rfl) (fun K hK => ?_)
    simp only [Act.put, List.setIfInBounds_toArray, List.set_cons_zero, List.set_cons_succ]
    refine hK _ ?_; clear hK K
    refine wpMix_skip (by kernel_rfl) (fun K hK => ?_)
    simp only [Act.put, List.setIfInBounds_toArray, List.set_cons_zero, List.set_cons_succ]
    refine hK _ ?_; clear hK K
    refine wpMix_pure (by kernel_rfl) (fun K hK => ?_); go_big_quiet_op; refine hK _ ?_; clear hK K
    refine wpMix_pure (by kernel_rfl) (fun K hK => ?_); go_big_quiet_op; refine hK _ ?_; clear hK K
    refine wpMix_skip (by kernel_rfl) (fun K hK => ?_)
    simp only [Act.put, List.setIfInBounds_toArray, List.set_cons_zero, List.set_cons_succ]
    refine hK _ ?_; clear hK K
    refine wpMix_skip (by kernel_rfl) (fun K hK => ?_)
    simp only [Act.put, List.setIfInBounds_toArray, List.set_cons_zero, List.set_cons_succ]
    refine hK _ ?_; clear hK K
    refine wpMix_skip (by kernel_rfl) (fun K hK => ?_)
    simp only [Act.put, List.setIfInBounds_toArray, List.set_cons_zero, List.set_cons_succ]
    refine hK _ ?_; clear hK K
    refine wpMix_skip (by kernel_rfl) (fun K hK => ?_)
    simp only [Act.put, List.setIfInBounds_toArray, List.set_cons_zero, List.set_cons_succ]
    refine hK _ ?_; clear hK K
    refine wpMix_skip (by kernel_rfl) (fun K hK => ?_)
    simp only [Act.put, List.setIfInBounds_toArray, List.set_cons_zero, List.set_cons_succ]
    refine hK _ ?_; clear hK K
    refine wpMix_pure (by kernel_rfl) (fun K hK => ?_); go_big_quiet_op; refine hK _ ?_; clear hK K
    refine wpMix_pure (by kernel_rfl) (fun K hK => ?_); go_big_quiet_op; refine hK _ ?_; clear hK K
    refine wpMix_skip (by kernel_rfl) (fun K hK => ?_)
    simp only [Act.put, List.setIfInBounds_toArray, List.set_cons_zero, List.set_cons_succ]
    refine hK _ ?_; clear hK K
    refine wpMix_skip (by kernel_rfl) (fun K hK => ?_)
    simp only [Act.put, List.setIfInBounds_toArray, List.set_cons_zero, List.set_cons_succ]
    refine hK _ ?_; clear hK K
    refine wpMix_skip (by kernel_rfl) (fun K hK => ?_)
    simp only [Act.put, List.setIfInBounds_toArray, List.set_cons_zero, List.set_cons_succ]
    refine hK _ ?_; clear hK K
    refine wpMix_skip (by kernel_rfl) (fun K hK => ?_)
    simp only [Act.put, List.setIfInBounds_toArray, List.set_cons_zero, List.set_cons_succ]
    refine hK _ ?_; clear hK K
    refine wpMix_skip (by kernel_rfl) (fun K hK => ?_)
    simp only [Act.put, List.setIfInBounds_toArray, List.set_cons_zero, List.set_cons_succ]
    refine hK _ ?_; clear hK K
    refine wpMix_pure (by kernel_rfl) (fun K hK => ?_); go_big_quiet_op; refine hK _ ?_; clear hK K
    refine wpMix_pure (by kernel_rfl) (fun K hK => ?_); go_big_quiet_op; refine hK _ ?_; clear hK K
    refine wpMix_skip (by kernel_rfl) (fun K hK => ?_)
    simp only [Act.put, List.setIfInBounds_toArray, List.set_cons_zero, List.set_cons_succ]
    refine hK _ ?_; clear hK K
    refine wpMix_skip (by kernel_rfl) (fun K hK => ?_)
    simp only [Act.put, List.setIfInBounds_toArray, List.set_cons_zero, List.set_cons_succ]
    refine hK _ ?_; clear hK K
    refine wpMix_skip (by kernel_rfl) (fun K hK => ?_)
    simp only [Act.put, List.setIfInBounds_toArray, List.set_cons_zero, List.set_cons_succ]
    refine hK _ ?_; clear hK K
    refine wpMix_skip (by kernel_rfl) (fun K hK => ?_)
    simp only [Act.put, List.setIfInBounds_toArray, List.set_cons_zero, List.set_cons_succ]
    refine hK _ ?_; clear hK K
    refine wpMix_skip (by kernel_rfl) (fun K hK => ?_)
    simp only [Act.put, List.setIfInBounds_toArray, List.set_cons_zero, List.set_cons_succ]
    refine hK _ ?_; clear hK K
    refine wpMix_skip (by kernel_rfl) (fun K hK => ?_)
    simp only [Act.put, List.setIfInBounds_toArray, List.set_cons_zero, List.set_cons_succ]
    refine hK _ ?_; clear hK K
    refine wpMix_skip (by kernel_rfl) (fun K hK => ?_)
    simp only [Act.put, List.setIfInBounds_toArray, List.set_cons_zero, List.set_cons_succ]
    refine hK _ ?_; clear hK K
    refine wpMix_skip (by kernel_rfl) (fun K hK => ?_)
    simp only [Act.put, List.setIfInBounds_toArray, List.set_cons_zero, List.set_cons_succ]
    refine hK _ ?_; clear hK K
    refine wpMix_skip (by kernel_rfl) (fun K hK => ?_)
    simp only [Act.put, List.setIfInBounds_toArray, List.set_cons_zero, List.set_cons_succ]
    refine hK _ ?_; clear hK K
    refine wpMix_pure (by kernel_rfl) (fun K hK => ?_); go_big_quiet_op; refine hK _ ?_; clear hK K
    refine wpMix_pure (by kernel_rfl) (fun K hK => ?_); go_big_quiet_op; refine hK _ ?_; clear hK K
    refine wpMix_nil ?_
    go_wp2
    go_ret
    exact ⟨ret_bool (by simp [incB, *]), hS0⟩
  · skip
    refine wpMix_pure (by kernel_rfl) (fun K hK => ?_); go_big_quiet_op; refine hK _ ?_; clear hK K
    refine wpMix_pure (by kernel_rfl) (fun K hK => ?_); go_big_quiet_op; refine hK _ ?_; clear hK K
    refine wpMix_pure (by kernel_rfl) (fun K hK => ?_); go_big_quiet_op; refine hK _ ?_; clear hK K
    refine wpMix_pure (by kernel_rfl) (fun K hK => ?_); go_big_quiet_op; refine hK _ ?_; clear hK K
    refine wpMix_pure (by kernel_rfl) (fun K hK => ?_); go_big_quiet_op; refine hK _ ?_; clear hK K
    refine wpMix_act (by kernel_rfl) (fun K hK => ?_)
    go_big_op
    refine (l01Name_any _ _ k1').mono ?_
    rintro e w' ⟨rfl, rfl⟩
    refine hK _ _ (regrown_of_below hS0) ?_
    clear hK K
    cases hq10 : nameB x.place
    · skip
      refine wpMix_pure (by kernel_rfl) (fun K hK => ?_); go_big_quiet_op; refine hK _ ?_; clear hK K
      refine wpMix_pure (by kernel_rfl) (fun K hK => ?_); go_big_quiet_op; refine hK _ ?_; clear hK K
      refine wpMix_skip (by kernel_rfl) (fun K hK => ?_)
      simp only [Act.put, List.setIfInBounds_toArray, List.set_cons_zero, List.set_cons_succ]
      refine hK _ ?_; clear hK K
      refine wpMix_skip (by kernel_rfl) (fun K hK => ?_)
      simp only [Act.put, List.setIfInBounds_toArray, List.set_cons_zero, List.set_cons_succ]
      refine hK _ ?_; clear hK K
      refine wpMix_skip (by kernel_rfl) (fun K hK => ?_)
      simp only [Act.put, List.setIfInBounds_toArray, List.set_cons_zero, List.set_cons_succ]
      refine hK _ ?_; clear hK K
      refine wpMix_skip (by kernel_rfl) (fun K hK => ?_)
      simp only [Act.put, List.setIfInBounds_toArray, List.set_cons_zero, List.set_cons_succ]
      refine hK _ ?_; clear hK K
      refine wpMix_skip (by kernel_rfl) (fun K hK => ?_)
      simp only [Act.put, List.setIfInBounds_toArray, List.set_cons_zero, List.set_cons_succ]
      refine hK _ ?_; clear hK K
      refine wpMix_pure (by kernel_rfl) (fun K hK => ?_); go_big_quiet_op; refine hK _ ?_; clear hK K
      refine wpMix_pure (by kernel_rfl) (fun K hK => ?_); go_big_quiet_op; refine hK _ ?_; clear hK K
      refine wpMix_skip (by kernel_rfl) (fun K hK => ?_)
      simp only [Act.put, List.setIfInBounds_toArray, List.set_cons_zero, List.set_cons_succ]
      refine hK _ ?_; clear hK K
      refine wpMix_skip (by kernel_rfl) (fun K hK => ?_)
      simp only [Act.put, List.setIfInBounds_toArray, List.set_cons_zero, List.set_cons_succ]
      refine hK _ ?_; clear hK K
      refine wpMix_skip (by kernel_rfl) (fun K hK => ?_)
      simp only [Act.put, List.setIfInBounds_toArray, List.set_cons_zero, List.set_cons_succ]
      refine hK _ ?_; clear hK K
      refine wpMix_skip (by kernel_rfl) (fun K hK => ?_)
      simp only [Act.put, List.setIfInBounds_toArray, List.set_cons_zero, List.set_cons_succ]
      refine hK _ ?_; clear hK K
      refine wpMix_skip (by kernel_rfl) (fun K hK => ?_)
      simp only [Act.put, List.setIfInBounds_toArray, List.set_cons_zero, List.set_cons_succ]
      refine hK _ ?_; clear hK K
      refine wpMix_pure (by kernel_rfl) (fun K hK => ?_); go_big_quiet_op; refine hK _ ?_; clear hK K
      refine wpMix_pure (by kernel_rfl) (fun K hK => ?_); go_big_quiet_op; refine hK _ ?_; clear hK K
      refine wpMix_skip (by kernel_rfl) (fun K hK => ?_)
      simp only [Act.put, List.setIfInBounds_toArray, List.set_cons_zero, List.set_cons_succ]
      refine hK _ ?_; clear hK K
      refine wpMix_skip (by kernel_rfl) (fun K hK => ?_)
      simp only [Act.put, List.setIfInBounds_toArray, List.set_cons_zero, List.set_cons_succ]
      refine hK _ ?_; clear hK K
      refine wpMix_skip (by kernel_rfl) (fun K hK => ?_)
      simp only [Act.put, List.setIfInBounds_toArray, List.set_cons_zero, List.set_cons_succ]
      refine hK _ ?_; clear hK K
      refine wpMix_skip (by kernel_rfl) (fun K hK => ?_)
      simp only [Act.put, List.setIfInBounds_toArray, List.set_cons_zero, List.set_cons_succ]
      refine hK _ ?_; clear hK K
      refine wpMix_skip (by kernel_rfl) (fun K hK => ?_)
      simp only [Act.put, List.setIfInBounds_toArray, List.set_cons_zero, List.set_cons_succ]
      refine hK _ ?_; clear hK K
      refine wpMix_pure (by kernel_rfl) (fun K hK => ?_); go_big_quiet_op; refine hK _ ?_; clear hK K
      refine wpMix_pure (by kernel_rfl) (fun K hK => ?_); go_big_quiet_op; refine hK _ ?_; clear hK K
      refine wpMix_skip (by kernel_rfl) (fun K hK => ?_)
      simp only [Act.put, List.setIfInBounds_toArray, List.set_cons_zero, List.set_cons_succ]
      refine hK _ ?_; clear hK K
      refine wpMix_skip (by kernel_rfl) (fun K hK => ?_)
      simp only [Act.put, List.setIfInBounds_toArray, List.set_cons_zero, List.set_cons_succ]
      refine hK _ ?_; clear hK K
      refine wpMix_skip (by kernel_rfl) (fun K hK => ?_)
      simp only [Act.put, List.setIfInBounds_toArray, List.set_cons_zero, List.set_cons_succ]
      refine hK _ ?_; clear hK K
      refine wpMix_skip (by kernel_rfl) (fun K hK => ?_)
      simp only [Act.put, List.setIfInBounds_toArray, List.set_cons_zero, List.set_cons_succ]
      refine hK _ ?_; clear hK K
      refine wpMix_skip (by kernel_rfl) (fun K hK => ?_)
      simp only [Act.put, List.setIfInBounds_toArray, List.set_cons_zero, List.set_cons_succ]
      refine hK _ ?_; clear hK K
      refine wpMix_skip (by kernel_rfl) (fun K hK => ?_)
      simp only [Act.put, List.setIfInBounds_toArray, List.set_cons_zero, List.set_cons_succ]
      refine hK _ ?_; clear hK K
      refine wpMix_skip (by kernel_rfl) (fun K hK => ?_)
      simp only [Act.put, List.setIfInBounds_toArray, List.set_cons_zero, List.set_cons_succ]
      refine hK _ ?_; clear hK K
      refine wpMix_skip (by kernel_rfl) (fun K hK => ?_)
      simp only [Act.put, List.setIfInBounds_toArray, List.set_cons_zero, List.set_cons_succ]
      refine hK _ ?_; clear hK K
      refine wpMix_skip (by kernel_rfl) (fun K hK => ?_)
      simp only [Act.put, List.setIfInBounds_toArray, List.set_cons_zero, List.set_cons_succ]
      refine hK _ ?_; clear hK K
      refine wpMix_pure (by kernel_rfl) (fun K hK => ?_); go_big_quiet_op; refine hK _ ?_; clear hK K
      refine wpMix_pure (by kernel_rfl) (fun K hK => ?_); go_big_quiet_op; refine hK _ ?_; clear hK K
      refine wpMix_nil ?_
      go_wp2
      go_ret
      exact ⟨ret_bool (by simp [incB, *]), hS0⟩
    · skip
      refine wpMix_pure (by kernel_rfl) (fun K hK => ?_); go_big_quiet_op; refine hK _ ?_; clear hK K
      refine wpMix_pure (by kernel_rfl) (fun K hK => ?_); go_big_quiet_op; refine hK _ ?_; clear hK K
      refine wpMix_pure (by kernel_rfl) (fun K hK => ?_); go_big_quiet_op; refine hK _ ?_; clear hK K
      refine wpMix_pure (by kernel_rfl) (fun K hK => ?_); go_big_quiet_op; refine hK _ ?_; clear hK K
      refine wpMix_pure (by kernel_rfl) (fun K hK => ?_); go_big_quiet_op; refine hK _ ?_; clear hK K
      refine wpMix_pure (by kernel_rfl) (fun K hK => ?_); go_big_quiet_op; refine hK _ ?_; clear hK K
      refine wpMix_act (by kernel_rfl) (fun K hK => ?_)
      go_big_op
      refine (l01Name_any _ _ k2').mono ?_
      rintro e w' ⟨rfl, rfl⟩
      refine hK _ _ (regrown_of_below hS0) ?_
      clear hK K
      cases hq17 : nameB x.cause
      · skip
        refine wpMix_pure (by kernel_rfl) (fun K hK => ?_); go_big_quiet_op; refine hK _ ?_; clear hK K
        refine wpMix_pure (by kernel_rfl) (fun K hK => ?_); go_big_quiet_op; refine hK _ ?_; clear hK K
        refine wpMix_skip (by kernel_rfl) (fun K hK => ?_)
        simp only [Act.put, List.setIfInBounds_toArray, List.set_cons_zero, List.set_cons_succ]
        refine hK _ ?_; clear hK K
        refine wpMix_skip (by kernel_rfl) (fun K hK => ?_)
        simp only [Act.put, List.setIfInBounds_toArray, List.set_cons_zero, List.set_cons_succ]
        refine hK _ ?_; clear hK K
        refine wpMix_skip (by kernel_rfl) (fun K hK => ?_)
        simp only [Act.put, List.setIfInBounds_toArray, List.set_cons_zero, List.set_cons_succ]
        refine hK _ ?_; clear hK K
        refine wpMix_skip (by kernel_rfl) (fun K hK => ?_)
        simp only [Act.put, List.setIfInBounds_toArray, List.set_cons_zero, List.set_cons_succ]
        refine hK _ ?_; clear hK K
        refine wpMix_skip (by kernel_rfl) (fun K hK => ?_)
        simp only [Act.put, List.setIfInBounds_toArray, List.set_cons_zero, List.set_cons_succ]
        refine hK _ ?_; clear hK K
        refine wpMix_pure (by kernel_rfl) (fun K hK => ?_); go_big_quiet_op; refine hK _ ?_; clear hK K
        refine wpMix_pure (by kernel_rfl) (fun K hK => ?_); go_big_quiet_op; refine hK _ ?_; clear hK K
        refine wpMix_skip (by kernel_rfl) (fun K hK => ?_)
        simp only [Act.put, List.setIfInBounds_toArray, List.set_cons_zero, List.set_cons_succ]
        refine hK _ ?_; clear hK K
        refine wpMix_skip (by kernel_rfl) (fun K hK => ?_)
        simp only [Act.put, List.setIfInBounds_toArray, List.set_cons_zero, List.set_cons_succ]
        refine hK _ ?_; clear hK K
        refine wpMix_skip (by kernel_rfl) (fun K hK => ?_)
        simp only [Act.put, List.setIfInBounds_toArray, List.set_cons_zero, List.set_cons_succ]
        refine hK _ ?_; clear hK K
        refine wpMix_skip (by kernel_rfl) (fun K hK => ?_)
        simp only [Act.put, List.setIfInBounds_toArray, List.set_cons_zero, List.set_cons_succ]
        refine hK _ ?_; clear hK K
        refine wpMix_skip (by kernel_rfl) (fun K hK => ?_)
        simp only [Act.put, List.setIfInBounds_toArray, List.set_cons_zero, List.set_cons_succ]
        refine hK _ ?_; clear hK K
        refine wpMix_pure (by kernel_rfl) (fun K hK => ?_); go_big_quiet_op; refine hK _ ?_; clear hK K
        refine wpMix_pure (by kernel_rfl) (fun K hK => ?_); go_big_quiet_op; refine hK _ ?_; clear hK K
        refine wpMix_skip (by kernel_rfl) (fun K hK => ?_)
        simp only [Act.put, List.setIfInBounds_toArray, List.set_cons_zero, List.set_cons_succ]
        refine hK _ ?_; clear hK K
        refine wpMix_skip (by kernel_rfl) (fun K hK => ?_)
        simp only [Act.put, List.setIfInBounds_toArray, List.set_cons_zero, List.set_cons_succ]
        refine hK _ ?_; clear hK K
        refine wpMix_skip (by kernel_rfl) (fun K hK => ?_)
        simp only [Act.put, List.setIfInBounds_toArray, List.set_cons_zero, List.set_cons_succ]
        refine hK _ ?_; clear hK K
        refine wpMix_skip (by kernel_rfl) (fun K hK => ?_)
        simp only [Act.put, List.setIfInBounds_toArray, List.set_cons_zero, List.set_cons_succ]
        refine hK _ ?_; clear hK K
        refine wpMix_skip (by kernel_rfl) (fun K hK => ?_)
        simp only [Act.put, List.setIfInBounds_toArray, List.set_cons_zero, List.set_cons_succ]
        refine hK _ ?_; clear hK K
        refine wpMix_skip (by kernel_rfl) (fun K hK => ?_)
        simp only [Act.put, List.setIfInBounds_toArray, List.set_cons_zero, List.set_cons_succ]
        refine hK _ ?_; clear hK K
        refine wpMix_skip (by kernel_rfl) (fun K hK => ?_)
        simp only [Act.put, List.setIfInBounds_toArray, List.set_cons_zero, List.set_cons_succ]
        refine hK _ ?_; clear hK K
        refine wpMix_skip (by kernel_rfl) (fun K hK => ?_)
        simp only [Act.put, List.setIfInBounds_toArray, List.set_cons_zero, List.set_cons_succ]
        refine hK _ ?_; clear hK K
        refine wpMix_skip (by kernel_rfl) (fun K hK => ?_)
        simp only [Act.put, List.setIfInBounds_toArray, List.set_cons_zero, List.set_cons_succ]
        refine hK _ ?_; clear hK K
        refine wpMix_pure (by kernel_rfl) (fun K hK => ?_); go_big_quiet_op; refine hK _ ?_; clear hK K
        refine wpMix_pure (by kernel_rfl) (fun K hK => ?_); go_big_quiet_op; refine hK _ ?_; clear hK K
        refine wpMix_nil ?_
        go_wp2
        go_ret
        exact ⟨ret_bool (by simp [incB, *]), hS0⟩
      · skip
        refine wpMix_pure (by kernel_rfl) (fun K hK => ?_); go_big_quiet_op; refine hK _ ?_; clear hK K
        refine wpMix_pure (by kernel_rfl) (fun K hK => ?_); go_big_quiet_op; refine hK _ ?_; clear hK K
        refine wpMix_pure (by kernel_rfl) (fun K hK => ?_); go_big_quiet_op; refine hK _ ?_; clear hK K
        refine wpMix_pure (by kernel_rfl) (fun K hK => ?_); go_big_quiet_op; refine hK _ ?_; clear hK K
        refine wpMix_pure (by kernel_rfl) (fun K hK => ?_); go_big_quiet_op; refine hK _ ?_; clear hK K
        refine wpMix_pure (by kernel_rfl) (fun K hK => ?_); go_big_quiet_op; refine hK _ ?_; clear hK K
        refine wpMix_act (by kernel_rfl) (fun K hK => ?_)
        go_big_op
        refine (l17IsV_any _ _).mono ?_
        rintro e w' ⟨rfl, rfl⟩
        refine hK _ _ (regrown_of_below hS0) ?_
        clear hK K
        cases hq24 : inB x.level 1 5
        · skip
          refine wpMix_pure (by kernel_rfl) (fun K hK => ?_); go_big_quiet_op; refine hK _ ?_; clear hK K
          refine wpMix_pure (by kernel_rfl) (fun K hK => ?_); go_big_quiet_op; refine hK _ ?_; clear hK K
          refine wpMix_skip (by kernel_rfl) (fun K hK => ?_)
          simp only [Act.put, List.setIfInBounds_toArray, List.set_cons_zero, List.set_cons_succ]
          refine hK _ ?_; clear hK K
          refine wpMix_skip (by kernel_rfl) (fun K hK => ?_)
          simp only [Act.put, List.setIfInBounds_toArray, List.set_cons_zero, List.set_cons_succ]
          refine hK _ ?_; clear hK K
          refine wpMix_skip (by kernel_rfl) (fun K hK => ?_)
          simp only [Act.put, List.setIfInBounds_toArray, List.set_cons_zero, List.set_cons_succ]
          refine hK _ ?_; clear hK K
          refine wpMix_skip (by kernel_rfl) (fun K hK => ?_)
          simp only [Act.put, List.setIfInBounds_toArray, List.set_cons_zero, List.set_cons_succ]
          refine hK _ ?_; clear hK K
          refine wpMix_skip (by kernel_rfl) (fun K hK => ?_)
          simp only [Act.put, List.setIfInBounds_toArray, List.set_cons_zero, List.set_cons_succ]
          refine hK _ ?_; clear hK K
          refine wpMix_pure (by kernel_rfl) (fun K hK => ?_); go_big_quiet_op; refine hK _ ?_; clear hK K
          refine wpMix_pure (by kernel_rfl) (fun K hK => ?_); go_big_quiet_op; refine hK _ ?_; clear hK K
          refine wpMix_skip (by kernel_rfl) (fun K hK => ?_)
          simp only [Act.put, List.setIfInBounds_toArray, List.set_cons_zero, List.set_cons_succ]
          refine hK _ ?_; clear hK K
          refine wpMix_skip (by kernel_rfl) (fun K hK => ?_)
          simp only [Act.put, List.setIfInBounds_toArray, List.set_cons_zero, List.set_cons_succ]
          refine hK _ ?_; clear hK K
          refine wpMix_skip (by kernel_rfl) (fun K hK => ?_)
          simp only [Act.put, List.setIfInBounds_toArray, List.set_cons_zero, List.set_cons_succ]
          refine hK _ ?_; clear hK K
          refine wpMix_skip (by kernel_rfl) (fun K hK => ?_)
          simp only [Act.put, List.setIfInBounds_toArray, List.set_cons_zero, List.set_cons_succ]
          refine hK _ ?_; clear hK K
          refine wpMix_skip (by kernel_rfl) (fun K hK => ?_)
          simp only [Act.put, List.setIfInBounds_toArray, List.set_cons_zero, List.set_cons_succ]
          refine hK _ ?_; clear hK K
          refine wpMix_skip (by kernel_rfl) (fun K hK => ?_)
          simp only [Act.put, List.setIfInBounds_toArray, List.set_cons_zero, List.set_cons_succ]
          refine hK _ ?_; clear hK K
          refine wpMix_skip (by kernel_rfl) (fun K hK => ?_)
          simp only [Act.put, List.setIfInBounds_toArray, List.set_cons_zero, List.set_cons_succ]
          refine hK _ ?_; clear hK K
          refine wpMix_skip (by kernel_rfl) (fun K hK => ?_)
          simp only [Act.put, List.setIfInBounds_toArray, List.set_cons_zero, List.set_cons_succ]
          refine hK _ ?_; clear hK K
          refine wpMix_skip (by kernel_rfl) (fun K hK => ?_)
          simp only [Act.put, List.setIfInBounds_toArray, List.set_cons_zero, List.set_cons_succ]
          refine hK _ ?_; clear hK K
          refine wpMix_pure (by kernel_rfl) (fun K hK => ?_); go_big_quiet_op; refine hK _ ?_; clear hK K
          refine wpMix_pure (by kernel_rfl) (fun K hK => ?_); go_big_quiet_op; refine hK _ ?_; clear hK K
          refine wpMix_nil ?_
          go_wp2
          go_ret
          exact ⟨ret_bool (by simp [incB, *]), hS0⟩
        · skip
          refine wpMix_pure (by kernel_rfl) (fun K hK => ?_); go_big_quiet_op; refine hK _ ?_; clear hK K
          refine wpMix_pure (by kernel_rfl) (fun K hK => ?_); go_big_quiet_op; refine hK _ ?_; clear hK K
          refine wpMix_pure (by kernel_rfl) (fun K hK => ?_); go_big_quiet_op; refine hK _ ?_; clear hK K
          refine wpMix_pure (by kernel_rfl) (fun K hK => ?_); go_big_quiet_op; refine hK _ ?_; clear hK K
          refine wpMix_pure (by kernel_rfl) (fun K hK => ?_); go_big_quiet_op; refine hK _ ?_; clear hK K
          refine wpMix_pure (by kernel_rfl) (fun K hK => ?_); go_big_quiet_op; refine hK _ ?_; clear hK K
          refine wpMix_act (by kernel_rfl) (fun K hK => ?_)
          go_big_op
          refine (l00InB_any _ _ _ _).mono ?_
          rintro e w' ⟨rfl, rfl⟩
          refine hK _ _ (regrown_of_below hS0) ?_
          clear hK K
          cases hq31 : inB x.caught 0 20
          · skip
            refine wpMix_pure (by kernel_rfl) (fun K hK => ?_); go_big_quiet_op; refine hK _ ?_; clear hK K
            refine wpMix_pure (by kernel_rfl) (fun K hK => ?_); go_big_quiet_op; refine hK _ ?_; clear hK K
            refine wpMix_skip (by kernel_rfl) (fun K hK => ?_)
            simp only [Act.put, List.setIfInBounds_toArray, List.set_cons_zero, List.set_cons_succ]
            refine hK _ ?_; clear hK K
            refine wpMix_skip (by kernel_rfl) (fun K hK => ?_)
            simp only [Act.put, List.setIfInBounds_toArray, List.set_cons_zero, List.set_cons_succ]
            refine hK _ ?_; clear hK K
            refine wpMix_skip (by kernel_rfl) (fun K hK => ?_)
            simp only [Act.put, List.setIfInBounds_toArray, List.set_cons_zero, List.set_cons_succ]
            refine hK _ ?_; clear hK K
            refine wpMix_skip (by kernel_rfl) (fun K hK => ?_)
            simp only [Act.put, List.setIfInBounds_toArray, List.set_cons_zero, List.set_cons_succ]
            refine hK _ ?_; clear hK K
            refine wpMix_skip (by kernel_rfl) (fun K hK => ?_)
            simp only [Act.put, List.setIfInBounds_toArray, List.set_cons_zero, List.set_cons_succ]
            refine hK _ ?_; clear hK K
            refine wpMix_skip (by kernel_rfl) (fun K hK => ?_)
            simp only [Act.put, List.setIfInBounds_toArray, List.set_cons_zero, List.set_cons_succ]
            refine hK _ ?_; clear hK K
            refine wpMix_skip (by kernel_rfl) (fun K hK => ?_)
            simp only [Act.put, List.setIfInBounds_toArray, List.set_cons_zero, List.set_cons_succ]
            refine hK _ ?_; clear hK K
            refine wpMix_skip (by kernel_rfl) (fun K hK => ?_)
            simp only [Act.put, List.setIfInBounds_toArray, List.set_cons_zero, List.set_cons_succ]
            refine hK _ ?_; clear hK K
            refine wpMix_skip (by kernel_rfl) (fun K hK => ?_)
            simp only [Act.put, List.setIfInBounds_toArray, List.set_cons_zero, List.set_cons_succ]
            refine hK _ ?_; clear hK K
            refine wpMix_pure (by kernel_rfl) (fun K hK => ?_); go_big_quiet_op; refine hK _ ?_; clear hK K
            refine wpMix_pure (by kernel_rfl) (fun K hK => ?_); go_big_quiet_op; refine hK _ ?_; clear hK K
            refine wpMix_nil ?_
            go_wp2
            go_ret
            exact ⟨ret_bool (by simp [incB, *]), hS0⟩
          · skip
            refine wpMix_pure (by kernel_rfl) (fun K hK => ?_); go_big_quiet_op; refine hK _ ?_; clear hK K
            refine wpMix_pure (by kernel_rfl) (fun K hK => ?_); go_big_quiet_op; refine hK _ ?_; clear hK K
            refine wpMix_pure (by kernel_rfl) (fun K hK => ?_); go_big_quiet_op; refine hK _ ?_; clear hK K
            refine wpMix_pure (by kernel_rfl) (fun K hK => ?_); go_big_quiet_op; refine hK _ ?_; clear hK K
            refine wpMix_pure (by kernel_rfl) (fun K hK => ?_); go_big_quiet_op; refine hK _ ?_; clear hK K
            refine wpMix_pure (by kernel_rfl) (fun K hK => ?_); go_big_quiet_op; refine hK _ ?_; clear hK K
            refine wpMix_pure (by kernel_rfl) (fun K hK => ?_); go_big_quiet_op; refine hK _ ?_; clear hK K
            refine wpMix_pure (by kernel_rfl) (fun K hK => ?_); go_big_quiet_op; refine hK _ ?_; clear hK K
            refine wpMix_pure (by kernel_rfl) (fun K hK => ?_); go_big_quiet_op; refine hK _ ?_; clear hK K
            refine wpMix_pure (by kernel_rfl) (fun K hK => ?_); go_big_quiet_op; refine hK _ ?_; clear hK K
            refine wpMix_act (by kernel_rfl) (fun K hK => ?_)
            go_big_op
            refine (l00InB_any _ _ _ _).mono ?_
            rintro e w' ⟨rfl, rfl⟩
            refine hK _ _ (regrown_of_below hS0) ?_
            clear hK K
            cases hq42 : inB x.buried 0 x.caught
            · skip
              refine wpMix_pure (by kernel_rfl) (fun K hK => ?_); go_big_quiet_op; refine hK _ ?_; clear hK K
              refine wpMix_pure (by kernel_rfl) (fun K hK => ?_); go_big_quiet_op; refine hK _ ?_; clear hK K
              refine wpMix_nil ?_
              go_wp2
              go_ret
              exact ⟨ret_bool (by simp [incB, *]), hS0⟩
            · skip
              refine wpMix_pure (by kernel_rfl) (fun K hK => ?_); go_big_quiet_op; refine hK _ ?_; clear hK K
              refine wpMix_pure (by kernel_rfl) (fun K hK => ?_); go_big_quiet_op; refine hK _ ?_; clear hK K
              refine wpMix_nil ?_
              go_wp2
              go_ret
              exact ⟨ret_bool (by simp [incB, *]), hS0⟩
set_option maxRecDepth 100000 in
set_option maxHeartbeats 4000000 in
theorem incValid_any (x : DIncident) (w : World) (hok : fIncident.ok x) :
    Calls Tryz.prog 80 #[.agg #[.int .i64 x.day, .string x.place, .string x.cause, .int .i64 x.level, .int .i64 x.caught, .int .i64 x.buried]] w fun e w' => e = .returned (.bool (incB x)) ∧ Below w.heap.size w w' := by
  obtain ⟨_, k1, k2, _⟩ := id hok
  have k1' : x.place.size ≤ 9223372036854775807 := k1
  have k2' : x.cause.size ≤ 9223372036854775807 := k2
  clear k1 k2 hok
  have HV := Lib.hid (incV x)
  go_enter Tryz.func80, Tryz.ntmps80
  go_wp2_with fail
  refine (dayValid_any _ _).mono ?_
  rintro e w' ⟨rfl, rfl⟩
  cases hq0 : inB x.day 0 36524
  · have HX : Hid (incB x = false) := by show _ = _; rw [HV.out, hq0]; rfl
    go_wp2
    go_ret
    exact ⟨ret_bool HX.out.symm, (Below.refl _ _).alloc (Nat.le_refl _) _⟩
  · have HX : Hid (incB x = (nameB x.place && (nameB x.cause && (inB x.level 1 5 && (inB x.caught 0 20 && (inB x.buried 0 x.caught)))))) := by show _ = _; rw [HV.out, hq0]; rfl
    go_wp2_with fail
    refine (implIsName_any _ _ k1').mono ?_
    rintro e w' ⟨rfl, rfl⟩
    cases hq1 : nameB x.place
    · have HX : Hid (incB x = false) := by show _ = _; rw [HV.out, hq0, hq1]; rfl
      go_wp2
      go_ret
      exact ⟨ret_bool HX.out.symm, (Below.refl _ _).alloc (Nat.le_refl _) _⟩
    · have HX : Hid (incB x = (nameB x.cause && (inB x.level 1 5 && (inB x.caught 0 20 && (inB x.buried 0 x.caught))))) := by show _ = _; rw [HV.out, hq0, hq1]; rfl
      go_wp2_with fail
      refine (implIsName_any _ _ k2').mono ?_
      rintro e w' ⟨rfl, rfl⟩
      cases hq2 : nameB x.cause
      · have HX : Hid (incB x = false) := by show _ = _; rw [HV.out, hq0, hq1, hq2]; rfl
        go_wp2
        go_ret
        exact ⟨ret_bool HX.out.symm, (Below.refl _ _).alloc (Nat.le_refl _) _⟩
      · have HX : Hid (incB x = (inB x.level 1 5 && (inB x.caught 0 20 && (inB x.buried 0 x.caught)))) := by show _ = _; rw [HV.out, hq0, hq1, hq2]; rfl
        go_wp2_with fail
        refine (levelOkV_any _ _).mono ?_
        rintro e w' ⟨rfl, rfl⟩
        cases hq3 : inB x.level 1 5
        · have HX : Hid (incB x = false) := by show _ = _; rw [HV.out, hq0, hq1, hq2, hq3]; rfl
          go_wp2
          go_ret
          exact ⟨ret_bool HX.out.symm, (Below.refl _ _).alloc (Nat.le_refl _) _⟩
        · have HX : Hid (incB x = (inB x.caught 0 20 && (inB x.buried 0 x.caught))) := by show _ = _; rw [HV.out, hq0, hq1, hq2, hq3]; rfl
          go_wp2_with fail
          refine (withinB_any _ _ _ _).mono ?_
          rintro e w' ⟨rfl, rfl⟩
          cases hq4 : inB x.caught 0 20
          · have HX : Hid (incB x = false) := by show _ = _; rw [HV.out, hq0, hq1, hq2, hq3, hq4]; rfl
            go_wp2
            go_ret
            exact ⟨ret_bool HX.out.symm, (Below.refl _ _).alloc (Nat.le_refl _) _⟩
          · have HX : Hid (incB x = (inB x.buried 0 x.caught)) := by show _ = _; rw [HV.out, hq0, hq1, hq2, hq3, hq4]; rfl
            go_wp2_with fail
            refine (withinB_any _ _ _ _).mono ?_
            rintro e w' ⟨rfl, rfl⟩
            rw [← HX.out]
            go_wp2
            go_ret
            exact ⟨rfl, (Below.refl _ _).alloc (Nat.le_refl _) _⟩
end Go.Proofs.YtgnbhcgagdfaiaaGreatDoor

namespace Go.Proofs.YtgnbhcgagdfaiaaGreatDoor
open Go.RowKit
set_option linter.unusedVariables false

def cmT (a b : ByteArray) : Int := if ltS a b then -1 else if ltS b a then 1 else 0
theorem cmT_zero {a b : ByteArray} : cmT a b = 0 ↔ a = b := by
  unfold cmT
  constructor
  · intro h
    cases h1 : ltS a b with
    | true => rw [h1] at h; simp at h
    | false =>
      cases h2 : ltS b a with
      | true => rw [h1, h2] at h; simp at h
      | false => exact ltS_tri h1 h2
  · rintro rfl; simp [ltS_irrefl]
theorem cmT_lt {a b : ByteArray} : cmT a b < 0 ↔ ltS a b = true := by
  unfold cmT
  cases h1 : ltS a b with
  | true => simp
  | false => cases h2 : ltS b a <;> simp
theorem cmT_bounds (a b : ByteArray) : -1 ≤ cmT a b ∧ cmT a b ≤ 1 := by
  unfold cmT
  cases ltS a b <;> cases ltS b a <;> simp
def cmI (a b : Int) : Int := if a < b then -1 else if b < a then 1 else 0
theorem cmI_zero {a b : Int} : cmI a b = 0 ↔ a = b := by
  unfold cmI
  split
  · constructor
    · intro h; cases h
    · intro h; omega
  · split
    · constructor
      · intro h; cases h
      · intro h; omega
    · constructor
      · intro _; omega
      · intro _; rfl
theorem cmI_lt {a b : Int} : cmI a b < 0 ↔ a < b := by
  unfold cmI
  split
  · rename_i h; simp [h]
  · rename_i h
    split <;> simp <;> omega
theorem cmI_bounds (a b : Int) : -1 ≤ cmI a b ∧ cmI a b ≤ 1 := by
  unfold cmI
  (repeat' split) <;> simp
set_option maxRecDepth 100000 in
set_option maxHeartbeats 400000 in
theorem isNaNT_any (a : ByteArray) (w : World) : Calls Tryz.prog 157 #[.string a] w fun e w' => e = .returned (.bool false) ∧ w = w' := by
  have e1 : (a.toList == a.toList) = true := by simp
  go_enter Tryz.func157, Tryz.ntmps157
  go_wp2
  go_ret
  exact ⟨rfl, rfl⟩
set_option maxRecDepth 100000 in
set_option maxHeartbeats 1000000 in
theorem compareT_any (a b : ByteArray) (w : World) : Calls Tryz.prog 123 #[.string a, .string b] w fun e w' => e = .returned (.int .i64 (cmT a b)) ∧ w = w' := by
  cases h1 : ltS a b
  · have e1 : Op.bytesLess a.toList b.toList = false := h1
    cases h2 : ltS b a
    · have e2 : (Op.bytesLess a.toList b.toList || a.toList == b.toList) = true := by rw [leS_eq, h2]; rfl
      have e3 : (a.toList == b.toList) = true := eqS_true.2 (ltS_tri h1 h2)
      go_enter Tryz.func123, Tryz.ntmps123
      go_wp2_with (go_at_call 157; refine (isNaNT_any _ _).mono ?_; rintro e w' ⟨rfl, rfl⟩)
      go_ret
      exact ⟨ret_int (by unfold cmT; rw [h1, h2]; rfl), rfl⟩
    · have e2 : (Op.bytesLess a.toList b.toList || a.toList == b.toList) = false := by rw [leS_eq, h2]; rfl
      have e3 : (a.toList == b.toList) = false := bytes_beq_false (fun e => by subst e; rw [ltS_irrefl] at h2; cases h2)
      go_enter Tryz.func123, Tryz.ntmps123
      go_wp2_with (go_at_call 157; refine (isNaNT_any _ _).mono ?_; rintro e w' ⟨rfl, rfl⟩)
      go_ret
      exact ⟨ret_int (by unfold cmT; rw [h1, h2]; rfl), rfl⟩
  · have e1 : Op.bytesLess a.toList b.toList = true := h1
    go_enter Tryz.func123, Tryz.ntmps123
    go_wp2_with (go_at_call 157; refine (isNaNT_any _ _).mono ?_; rintro e w' ⟨rfl, rfl⟩)
    go_ret
    exact ⟨ret_int (by unfold cmT; rw [h1]; rfl), rfl⟩
set_option maxRecDepth 100000 in
set_option maxHeartbeats 400000 in
theorem isNaNI_any (a : Int) (w : World) : Calls Tryz.prog 156 #[.int .i64 a] w fun e w' => e = .returned (.bool false) ∧ w = w' := by
  go_enter Tryz.func156, Tryz.ntmps156
  go_wp2
  go_ret
  exact ⟨rfl, rfl⟩
set_option maxRecDepth 100000 in
set_option maxHeartbeats 1000000 in
theorem compareI_any (a b : Int) (w : World) : Calls Tryz.prog 122 #[.int .i64 a, .int .i64 b] w fun e w' => e = .returned (.int .i64 (cmI a b)) ∧ w = w' := by
  by_cases h1 : a < b
  · go_enter Tryz.func122, Tryz.ntmps122
    go_wp2_with (go_at_call 156; refine (isNaNI_any _ _).mono ?_; rintro e w' ⟨rfl, rfl⟩)
    go_ret
    exact ⟨ret_int (by unfold cmI; rw [if_pos h1]), rfl⟩
  · by_cases h2 : b < a
    · go_enter Tryz.func122, Tryz.ntmps122
      go_wp2_with (go_at_call 156; refine (isNaNI_any _ _).mono ?_; rintro e w' ⟨rfl, rfl⟩)
      go_ret
      exact ⟨ret_int (by unfold cmI; rw [if_neg (Int.not_lt.2 h1), if_pos h2]), rfl⟩
    · go_enter Tryz.func122, Tryz.ntmps122
      go_wp2_with (go_at_call 156; refine (isNaNI_any _ _).mono ?_; rintro e w' ⟨rfl, rfl⟩)
      go_ret
      exact ⟨ret_int (by unfold cmI; rw [if_neg (Int.not_lt.2 h1), if_neg (Int.not_lt.2 h2)]), rfl⟩
def orI : List Int → Int
  | [] => 0
  | x :: xs => if x = 0 then orI xs else x
theorem orI_cons (x : Int) (xs : List Int) : orI (x :: xs) = if x = 0 then orI xs else x := rfl
theorem orI_two (a b : Int) : orI [a, b] = if a = 0 then b else a := by
  unfold orI; split
  · unfold orI orI; split <;> simp_all
  · rfl
set_option maxRecDepth 100000 in
set_option maxHeartbeats 1000000 in
theorem orJ_any (v : Value) (xs : List Int) (fp : List Nat) (w : World) (hx : Sl fInt.cod w v xs fp) :
    Calls Tryz.prog 121 #[v] w fun e w' => e = .returned (.int .i64 (orI xs)) ∧ w = w' := by
  obtain ⟨A, cap, rfl, hlen, hcap⟩ := hx.form
  go_enter Tryz.func121, Tryz.ntmps121
  go_wp2
  go_loop [8] (fun i => ∃ k : Nat, k ≤ xs.length ∧ i = .int .i64 k ∧ Hid (orI xs = orI (xs.drop k))) (fun i => xs.length - (intOf i).toNat)
  case atStart => exact ⟨0, Nat.zero_le _, rfl, rfl⟩
  case round =>
    obtain ⟨k, hk, rfl, H0⟩ := hrel
    by_cases hlt : k < xs.length
    · obtain ⟨b, off, rfl, _, hok, hc, _⟩ := hx.cell1 rfl hlt rfl
      have hd : xs.drop k = xs[k] :: xs.drop (k + 1) := List.drop_eq_getElem_cons hlt
      by_cases hz : xs[k] = 0
      · have HN : Hid (orI xs = orI (xs.drop (k + 1))) := by show _ = _; rw [H0.out, hd, orI_cons, if_pos hz]
        have e1 : (xs[k] == 0) = true := by simpa using hz
        have e2 : (xs[k] != 0) = false := by simpa using hz
        clear hd hz H0
        go_wp2
        go_round
        case rel => exact ⟨k + 1, by omega, by go_num, HN⟩
        case measure => simp [intOf]; omega
      · have HN : Hid (orI xs = xs[k]) := by show _ = _; rw [H0.out, hd, orI_cons, if_neg hz]
        have e1 : (xs[k] == 0) = false := by simpa using hz
        have e2 : (xs[k] != 0) = true := by simpa using hz
        clear hd hz H0
        go_wp2
        go_ret
        exact ⟨ret_int HN.out.symm, rfl⟩
    · have HN : Hid (orI xs = 0) := by show _ = _; rw [H0.out, List.drop_of_length_le (by omega)]; rfl
      clear H0
      go_wp2
      go_ret
      exact ⟨ret_int HN.out.symm, rfl⟩
theorem orI_three (a b c : Int) : orI [a, b, c] = if a = 0 then (if b = 0 then c else b) else a := by
  rw [orI_cons]
  split
  · exact orI_two b c
  · rfl
theorem cmT_ok (a b : ByteArray) : fInt.ok (cmT a b) := by
  have := cmT_bounds a b
  show _ ∧ _
  omega
theorem cmI_ok (a b : Int) : fInt.ok (cmI a b) := by
  have := cmI_bounds a b
  show _ ∧ _
  omega
end Go.Proofs.YtgnbhcgagdfaiaaGreatDoor

namespace Go.Proofs.YtgnbhcgagdfaiaaGreatDoor
open Go.RowKit
set_option linter.unusedVariables false

def befI (a b : DIncident) : Bool := if a.day = b.day then (if a.place = b.place then ltS a.cause b.cause else ltS a.place b.place) else decide (a.day < b.day)
def cmpInc (a b : DIncident) : Int := orI [cmI a.day b.day, cmT a.place b.place, cmT a.cause b.cause]
theorem cmpInc_lt (a b : DIncident) : decide (cmpInc a b < 0) = befI a b := by
  unfold cmpInc befI
  rw [orI_three]
  by_cases h : a.day = b.day
  · rw [if_pos (cmI_zero.2 h), if_pos h]
    by_cases h2 : a.place = b.place
    · rw [if_pos (cmT_zero.2 h2), if_pos h2]
      rw [Bool.eq_iff_iff]; simp [cmT_lt]
    · rw [if_neg (fun e => h2 (cmT_zero.1 e)), if_neg h2]
      rw [Bool.eq_iff_iff]; simp [cmT_lt]
  · rw [if_neg (fun e => h (cmI_zero.1 e)), if_neg h]
    rw [Bool.eq_iff_iff]; simp [cmI_lt]

def incOk (xs : List DIncident) (i : Nat) : Bool := incB (xs.getD i n00) && (decide (i = 0) || befI (xs.getD (i - 1) n00) (xs.getD i n00))
def incsB (xs : List DIncident) : Bool := allIdx (incOk xs) xs.length && decide (xs.length ≤ 48)
theorem incOk_zero {xs : List DIncident} (h : 0 < xs.length) : incOk xs 0 = incB xs[0] := by simp [incOk, h]
theorem incOk_succ {xs : List DIncident} {m : Nat} (h : m + 1 < xs.length) : incOk xs (m + 1) = (incB xs[m + 1] && befI xs[m] xs[m + 1]) := by
  have h1 : m < xs.length := by omega
  simp [incOk, h, h1]
theorem incsB_bad {xs : List DIncident} {k : Nat} (h : k < xs.length) (h1 : incOk xs k = false) : incsB xs = false := by
  unfold incsB; rw [allIdx_bad h h1]; rfl
theorem incsB_len {xs : List DIncident} (h : incsB xs = true) : xs.length ≤ 48 := by
  unfold incsB at h; simp at h; exact h.2
theorem incsB_one {xs : List DIncident} (h : incsB xs = true) {k : Nat} (hk : k < xs.length) : incB xs[k] = true := by
  unfold incsB at h
  rw [Bool.and_eq_true] at h
  have := allIdx_true.1 h.1 k hk
  unfold incOk at this
  rw [Bool.and_eq_true] at this
  simpa [hk] using this.1
theorem incsB_two {xs : List DIncident} (h : incsB xs = true) {m : Nat} (hm : m + 1 < xs.length) : befI xs[m] xs[m + 1] = true := by
  unfold incsB at h
  rw [Bool.and_eq_true] at h
  have := allIdx_true.1 h.1 (m + 1) hm
  rw [incOk_succ hm, Bool.and_eq_true] at this
  exact this.2

set_option maxRecDepth 100000 in
set_option maxHeartbeats 4000000 in
theorem l28Before_any (pa oa pb ob : Nat) (a b : DIncident) (w : World) (hpa : PIncident w pa oa a) (hpb : PIncident w pb ob b) :
    Calls Tryz.prog 119 #[.pointer (some ⟨pa, oa, none⟩), .pointer (some ⟨pb, ob, none⟩)] w fun e w' => e = .returned (.bool (befI a b)) ∧ Below w.heap.size w w' := by
  obtain ⟨c0, c1, c2, c3, c4, c5⟩ := id hpa
  obtain ⟨d0, d1, d2, d3, d4, d5⟩ := id hpb
  by_cases hd : a.day = b.day
  · have e1 : (a.day == b.day) = true := by rw [beq_iff_eq]; exact hd
    have e2 : (a.day != b.day) = false := by unfold bne; rw [e1]; rfl
    by_cases hp : a.place = b.place
    · have e3 : (a.place.toList == b.place.toList) = true := eqS_true.2 hp
      have e4 : (a.place.toList != b.place.toList) = false := by unfold bne; rw [e3]; rfl
      have HX : Hid (befI a b = Op.bytesLess a.cause.toList b.cause.toList) := by show _ = _; unfold befI; rw [if_pos hd, if_pos hp]; rfl
      clear hd hp
      go_enter Tryz.func119, Tryz.ntmps119
      go_wp2
      go_quiet (fail)
      go_wp2
      go_quiet (fail)
      go_wp2
      go_quiet (fail)
      go_wp2
      go_ret
      exact ⟨ret_bool HX.out.symm, (by repeat (first | exact Below.refl _ _ | assumption | refine Below.alloc ?_ (by first | omega | (simp <;> omega)) _ | refine Below.setCell ?_ (by first | (show _ ≤ _; omega) | (simp <;> omega)) _ | refine Below.drew ?_ | refine below_drewN ?_ _))⟩
    · have e3 : (a.place.toList == b.place.toList) = false := bytes_beq_false hp
      have e4 : (a.place.toList != b.place.toList) = true := by unfold bne; rw [e3]; rfl
      have HX : Hid (befI a b = Op.bytesLess a.place.toList b.place.toList) := by show _ = _; unfold befI; rw [if_pos hd, if_neg hp]; rfl
      clear hd hp
      go_enter Tryz.func119, Tryz.ntmps119
      go_wp2
      go_quiet (fail)
      go_wp2
      go_quiet (fail)
      go_wp2
      go_quiet (fail)
      go_wp2
      go_ret
      exact ⟨ret_bool HX.out.symm, (by repeat (first | exact Below.refl _ _ | assumption | refine Below.alloc ?_ (by first | omega | (simp <;> omega)) _ | refine Below.setCell ?_ (by first | (show _ ≤ _; omega) | (simp <;> omega)) _ | refine Below.drew ?_ | refine below_drewN ?_ _))⟩
  · have e1 : (a.day == b.day) = false := by rw [beq_eq_false_iff_ne]; exact hd
    have e2 : (a.day != b.day) = true := by unfold bne; rw [e1]; rfl
    have HX : Hid (befI a b = decide (a.day < b.day)) := by show _ = _; unfold befI; rw [if_neg hd]
    clear hd
    go_enter Tryz.func119, Tryz.ntmps119
    go_wp2
    go_quiet (fail)
    go_wp2
    go_quiet (fail)
    go_wp2
    go_ret
    exact ⟨ret_bool HX.out.symm, (by repeat (first | exact Below.refl _ _ | assumption | refine Below.alloc ?_ (by first | omega | (simp <;> omega)) _ | refine Below.setCell ?_ (by first | (show _ ≤ _; omega) | (simp <;> omega)) _ | refine Below.drew ?_ | refine below_drewN ?_ _))⟩
set_option maxRecDepth 100000 in
set_option maxHeartbeats 4000000 in
theorem compareIncidents_any (a b : DIncident) (w : World) :
    Calls Tryz.prog 81 #[.agg #[.int .i64 a.day, .string a.place, .string a.cause, .int .i64 a.level, .int .i64 a.caught, .int .i64 a.buried], .agg #[.int .i64 b.day, .string b.place, .string b.cause, .int .i64 b.level, .int .i64 b.caught, .int .i64 b.buried]] w fun e w' => e = .returned (.int .i64 (cmpInc a b)) ∧ Below w.heap.size w w' := by
  have hpa := PIncident.box w a 42
  have hpb := PIncident.box (w.alloc (.cells #[.int .i64 a.day, .string a.place, .string a.cause, .int .i64 a.level, .int .i64 a.caught, .int .i64 a.buried] 42)) b 42
  rw [World.size_alloc] at hpb
  have hpa2 := hpa.below' ((Below.refl _ _).alloc (Nat.le_refl _) (.cells #[.int .i64 b.day, .string b.place, .string b.cause, .int .i64 b.level, .int .i64 b.caught, .int .i64 b.buried] 42))
  go_enter Tryz.func81, Tryz.ntmps81
  go_wp2
  refine at_world (fun W => Below w.heap.size w W ∧ PIncident W w.heap.size 0 a ∧ PIncident W (w.heap.size + 1) 0 b) ⟨(by repeat (first | exact Below.refl _ _ | assumption | refine Below.alloc ?_ (by first | omega | (simp <;> omega)) _ | refine Below.setCell ?_ (by first | (show _ ≤ _; omega) | (simp <;> omega)) _ | refine Below.drew ?_ | refine below_drewN ?_ _)), hpa2, hpb⟩ ?_
  clear hpa hpb hpa2
  rintro W ⟨hW, ⟨c0, c1, c2, c3, c4, c5⟩, ⟨d0, d1, d2, d3, d4, d5⟩⟩
  have gc0 := cell_regrown c0
  have gc1 := cell_regrown c1
  have gc2 := cell_regrown c2
  have gd0 := cell_regrown d0
  have gd1 := cell_regrown d1
  have gd2 := cell_regrown d2
  refine wp_region_mixed [0, 1, 2, 3, 5, 6, 7, 8, 10, 11, 12, 13, 4, 9, 14, 15, 16, 17] (C := fun w' => ∃ p : Regrown, w' = Go.Sort.grow (redrawn W p.d) p.os) [true, true, true, true, true, true, true, true, true, true, true, true, false, false, false, false, false, true] (by kernel_rfl) (by kernel_rfl) (by kernel_rfl) (fun _ _ d _ _ h => by cases d <;> exact h) (regrown_of_below (Below.drew (Below.refl _ _))) ?_
  simp only [List.map_cons, List.map_nil, List.getD_cons_zero, List.getD_cons_succ]
  have hS0 : Below (W.heap.size) W W.drew := Below.drew (Below.refl _ _)
  refine wpMix_pure (by kernel_rfl) (fun K hK => ?_); go_big_quiet_op; refine hK _ ?_; clear hK K
  refine wpMix_pure (by kernel_rfl) (fun K hK => ?_); go_big_quiet_op; refine hK _ ?_; clear hK K
  refine wpMix_pure (by kernel_rfl) (fun K hK => ?_); go_big_quiet_op; refine hK _ ?_; clear hK K
  refine wpMix_pure (by kernel_rfl) (fun K hK => ?_); go_big_quiet_op; refine hK _ ?_; clear hK K
  refine wpMix_pure (by kernel_rfl) (fun K hK => ?_); go_big_quiet_op; refine hK _ ?_; clear hK K
  refine wpMix_pure (by kernel_rfl) (fun K hK => ?_); go_big_quiet_op; refine hK _ ?_; clear hK K
  refine wpMix_pure (by kernel_rfl) (fun K hK => ?_); go_big_quiet_op; refine hK _ ?_; clear hK K
  refine wpMix_pure (by kernel_rfl) (fun K hK => ?_); go_big_quiet_op; refine hK _ ?_; clear hK K
  refine wpMix_pure (by kernel_rfl) (fun K hK => ?_); go_big_quiet_op; refine hK _ ?_; clear hK K
  refine wpMix_pure (by kernel_rfl) (fun K hK => ?_); go_big_quiet_op; refine hK _ ?_; clear hK K
  refine wpMix_pure (by kernel_rfl) (fun K hK => ?_); go_big_quiet_op; refine hK _ ?_; clear hK K
  refine wpMix_pure (by kernel_rfl) (fun K hK => ?_); go_big_quiet_op; refine hK _ ?_; clear hK K
  refine wpMix_act (by kernel_rfl) (fun K hK => ?_)
  go_big_op
  refine (compareI_any _ _ _).mono ?_
  rintro e w' ⟨rfl, rfl⟩
  refine hK _ _ (regrown_of_below hS0) ?_
  clear hK K
  refine wpMix_act (by kernel_rfl) (fun K hK => ?_)
  go_big_op
  refine (compareT_any _ _ _).mono ?_
  rintro e w' ⟨rfl, rfl⟩
  refine hK _ _ (regrown_of_below hS0) ?_
  clear hK K
  refine wpMix_act (by kernel_rfl) (fun K hK => ?_)
  go_big_op
  refine (compareT_any _ _ _).mono ?_
  rintro e w' ⟨rfl, rfl⟩
  refine hK _ _ (regrown_of_below hS0) ?_
  clear hK K
  refine wpMix_act (by kernel_rfl) (fun K hK => ?_)
  go_big_op
  refine hK _ _ (regrown_of_below (hS0.alloc hS0.size _)) ?_
  clear hK K
  refine mix_world (fun N => Below (W.heap.size) W N ∧ Sl fInt.cod N (.slice (some ⟨W.drew.heap.size, 0, none⟩) 3 3) [cmI a.day b.day, cmT a.place b.place, cmT a.cause b.cause] [W.drew.heap.size]) ⟨hS0.alloc hS0.size _, Sl.lit2 (E := fInt) W.drew [cmI a.day b.day, cmT a.place b.place, cmT a.cause b.cause] _ _ rfl (by intro x hx; simp at hx; rcases hx with rfl | rfl | rfl; exact cmI_ok _ _; exact cmT_ok _ _; exact cmT_ok _ _) (by simp) (by simp)⟩ ?_
  rintro wr4 ⟨hbr4S, hbr4F⟩
  refine wpMix_act (by kernel_rfl) (fun K hK => ?_)
  go_big_op
  refine (orJ_any _ _ _ _ hbr4F).mono ?_
  rintro e w' ⟨rfl, rfl⟩
  refine hK _ _ (regrown_of_below hbr4S) ?_
  clear hK K
  refine wpMix_pure (by kernel_rfl) (fun K hK => ?_); go_big_quiet_op; refine hK _ ?_; clear hK K
  refine wpMix_nil ?_
  go_wp2
  go_ret
  exact ⟨rfl, hW.trans (hbr4S.mono hW.size)⟩
set_option maxRecDepth 100000 in
set_option maxHeartbeats 4000000 in
theorem l28Ok_any (v : Value) (xs : List DIncident) (fp : List Nat) (w : World) (hx : Sl fIncident.cod w v xs fp) :
    Calls Tryz.prog 117 #[v] w fun e w' => e = .returned (.bool (incsB xs)) ∧ Below w.heap.size w w' := by
  obtain ⟨A, cap, rfl, hlen, hcap⟩ := hx.form
  go_enter Tryz.func117, Tryz.ntmps117
  go_wp2
  go_loopw [3] (fun i wr => ∃ k : Nat, k ≤ xs.length ∧ i = .int .i64 k ∧ Hid (allIdx (incOk xs) k = true) ∧ Below w.heap.size w wr) (fun i _ => xs.length - (intOf i).toNat)
  case atStart => exact ⟨0, Nat.zero_le _, rfl, rfl, Below.refl _ _⟩
  case round =>
    obtain ⟨k, hk, rfl, H0, hb⟩ := hrel
    by_cases hlt : k < xs.length
    · rcases Nat.eq_zero_or_pos k with rfl | hpos
      · obtain ⟨b, off, rfl, _, hok, hp⟩ := PIncident.elem (hx.below' hb) hlt
        have hplt := hp.lt
        go_wp2
        refine wp_region_mix (C := fun w' => ∃ p : Regrown, w' = Go.Sort.grow (redrawn wr p.d) p.os) [true, true, true, false, true, true, true, true, true, true, true, true, true, true, true, true, false, true, true, true] (by kernel_rfl) (by kernel_rfl) (by kernel_rfl) (fun _ _ d _ _ h => by cases d <;> exact h) (regrown_of_below (Below.drew (Below.refl _ _))) ?_
        have hS0 : Below (wr.heap.size) wr wr.drew := Below.drew (Below.refl _ _)
        refine wpMix_pure (by kernel_rfl) (fun K hK => ?_); go_big_quiet_op; refine hK _ ?_; clear hK K
        refine wpMix_pure (by kernel_rfl) (fun K hK => ?_); go_big_quiet_op; refine hK _ ?_; clear hK K
        refine wpMix_pure (by kernel_rfl) (fun K hK => ?_); go_big_quiet_op; refine hK _ ?_; clear hK K
        refine wpMix_act (by kernel_rfl) (fun K hK => ?_)
        go_big_op
        refine (l28One_any _ _ _ _ (hp.below hS0 hplt) hok).mono ?_
        rintro e wr1 ⟨rfl, hbr1⟩
        have hbr1S : Below (wr.heap.size) wr wr1 := hS0.trans (hbr1.mono hS0.size)
        refine hK _ _ (regrown_of_below hbr1S) ?_
        clear hK K
        cases hq3 : incB xs[0]
        · skip
          refine wpMix_pure (by kernel_rfl) (fun K hK => ?_); go_big_quiet_op; refine hK _ ?_; clear hK K
          refine wpMix_pure (by kernel_rfl) (fun K hK => ?_); go_big_quiet_op; refine hK _ ?_; clear hK K
          refine wpMix_skip (by kernel_rfl) (fun K hK => ?_)
          simp only [Act.put, List.setIfInBounds_toArray, List.set_cons_zero, List.set_cons_succ]
          refine hK _ ?_; clear hK K
          refine wpMix_skip (by kernel_rfl) (fun K hK => ?_)
          simp only [Act.put, List.setIfInBounds_toArray, List.set_cons_zero, List.set_cons_succ]
          refine hK _ ?_; clear hK K
          refine wpMix_skip (by kernel_rfl) (fun K hK => ?_)
          simp only [Act.put, List.setIfInBounds_toArray, List.set_cons_zero, List.set_cons_succ]
          refine hK _ ?_; clear hK K
          refine wpMix_skip (by kernel_rfl) (fun K hK => ?_)
          simp only [Act.put, List.setIfInBounds_toArray, List.set_cons_zero, List.set_cons_succ]
          refine hK _ ?_; clear hK K
          refine wpMix_skip (by kernel_rfl) (fun K hK => ?_)
          simp only [Act.put, List.setIfInBounds_toArray, List.set_cons_zero, List.set_cons_succ]
          refine hK _ ?_; clear hK K
          refine wpMix_skip (by kernel_rfl) (fun K hK => ?_)
          simp only [Act.put, List.setIfInBounds_toArray, List.set_cons_zero, List.set_cons_succ]
          refine hK _ ?_; clear hK K
          refine wpMix_skip (by kernel_rfl) (fun K hK => ?_)
          simp only [Act.put, List.setIfInBounds_toArray, List.set_cons_zero, List.set_cons_succ]
          refine hK _ ?_; clear hK K
          refine wpMix_skip (by kernel_rfl) (fun K hK => ?_)
          simp only [Act.put, List.setIfInBounds_toArray, List.set_cons_zero, List.set_cons_succ]
          refine hK _ ?_; clear hK K
          refine wpMix_skip (by kernel_rfl) (fun K hK => ?_)
          simp only [Act.put, List.setIfInBounds_toArray, List.set_cons_zero, List.set_cons_succ]
          refine hK _ ?_; clear hK K
          refine wpMix_skip (by kernel_rfl) (fun K hK => ?_)
          simp only [Act.put, List.setIfInBounds_toArray, List.set_cons_zero, List.set_cons_succ]
          refine hK _ ?_; clear hK K
          refine wpMix_skip (by kernel_rfl) (fun K hK => ?_)
          simp only [Act.put, List.setIfInBounds_toArray, List.set_cons_zero, List.set_cons_succ]
          refine hK _ ?_; clear hK K
          refine wpMix_skip (by kernel_rfl) (fun K hK => ?_)
          simp only [Act.put, List.setIfInBounds_toArray, List.set_cons_zero, List.set_cons_succ]
          refine hK _ ?_; clear hK K
          refine wpMix_skip (by kernel_rfl) (fun K hK => ?_)
          simp only [Act.put, List.setIfInBounds_toArray, List.set_cons_zero, List.set_cons_succ]
          refine hK _ ?_; clear hK K
          refine wpMix_pure (by kernel_rfl) (fun K hK => ?_); go_big_quiet_op; refine hK _ ?_; clear hK K
          refine wpMix_nil ?_
          go_wp2
          go_ret
          exact ⟨ret_bool (by rw [incsB_bad hlt (by rw [incOk_zero hlt]; simp [*])]), hb.trans (hbr1S.mono hb.size)⟩
        · skip
          refine wpMix_pure (by kernel_rfl) (fun K hK => ?_); go_big_quiet_op; refine hK _ ?_; clear hK K
          refine wpMix_pure (by kernel_rfl) (fun K hK => ?_); go_big_quiet_op; refine hK _ ?_; clear hK K
          refine wpMix_pure (by kernel_rfl) (fun K hK => ?_); go_big_quiet_op; refine hK _ ?_; clear hK K
          refine wpMix_pure (by kernel_rfl) (fun K hK => ?_); go_big_quiet_op; refine hK _ ?_; clear hK K
          refine wpMix_pure (by kernel_rfl) (fun K hK => ?_); go_big_quiet_op; refine hK _ ?_; clear hK K
          refine wpMix_skip (by kernel_rfl) (fun K hK => ?_)
          simp only [Act.put, List.setIfInBounds_toArray, List.set_cons_zero, List.set_cons_succ]
          refine hK _ ?_; clear hK K
          refine wpMix_skip (by kernel_rfl) (fun K hK => ?_)
          simp only [Act.put, List.setIfInBounds_toArray, List.set_cons_zero, List.set_cons_succ]
          refine hK _ ?_; clear hK K
          refine wpMix_skip (by kernel_rfl) (fun K hK => ?_)
          simp only [Act.put, List.setIfInBounds_toArray, List.set_cons_zero, List.set_cons_succ]
          refine hK _ ?_; clear hK K
          refine wpMix_skip (by kernel_rfl) (fun K hK => ?_)
          simp only [Act.put, List.setIfInBounds_toArray, List.set_cons_zero, List.set_cons_succ]
          refine hK _ ?_; clear hK K
          refine wpMix_skip (by kernel_rfl) (fun K hK => ?_)
          simp only [Act.put, List.setIfInBounds_toArray, List.set_cons_zero, List.set_cons_succ]
          refine hK _ ?_; clear hK K
          refine wpMix_skip (by kernel_rfl) (fun K hK => ?_)
          simp only [Act.put, List.setIfInBounds_toArray, List.set_cons_zero, List.set_cons_succ]
          refine hK _ ?_; clear hK K
          refine wpMix_skip (by kernel_rfl) (fun K hK => ?_)
          simp only [Act.put, List.setIfInBounds_toArray, List.set_cons_zero, List.set_cons_succ]
          refine hK _ ?_; clear hK K
          refine wpMix_skip (by kernel_rfl) (fun K hK => ?_)
          simp only [Act.put, List.setIfInBounds_toArray, List.set_cons_zero, List.set_cons_succ]
          refine hK _ ?_; clear hK K
          refine wpMix_skip (by kernel_rfl) (fun K hK => ?_)
          simp only [Act.put, List.setIfInBounds_toArray, List.set_cons_zero, List.set_cons_succ]
          refine hK _ ?_; clear hK K
          refine wpMix_pure (by kernel_rfl) (fun K hK => ?_); go_big_quiet_op; refine hK _ ?_; clear hK K
          refine wpMix_pure (by kernel_rfl) (fun K hK => ?_); go_big_quiet_op; refine hK _ ?_; clear hK K
          refine wpMix_nil ?_
          go_wp2
          go_roundw
          case rel => exact ⟨0 + 1, by omega, by go_num, allIdx_step H0.out (by rw [incOk_zero hlt]; simp [*]), hb.trans (hbr1S.mono hb.size)⟩
          case measure => simp [intOf]; omega
      · obtain ⟨m, rfl⟩ : ∃ m, k = m + 1 := ⟨k - 1, by omega⟩
        have hm : m < xs.length := by omega
        obtain ⟨b, off, rfl, _, hok, hp⟩ := PIncident.elem (hx.below' hb) hlt
        have hplt := hp.lt
        obtain ⟨b1, off1, hA1, _, hokm, hpm⟩ := PIncident.elem (hx.below' hb) hm
        injection hA1 with hA1
        injection hA1 with hA1 hA2 _
        subst hA1 hA2
        go_wp2
        refine wp_region_mix (C := fun w' => ∃ p : Regrown, w' = Go.Sort.grow (redrawn wr p.d) p.os) [true, true, true, false, true, true, true, true, true, true, true, true, true, true, true, true, false, true, true, true] (by kernel_rfl) (by kernel_rfl) (by kernel_rfl) (fun _ _ d _ _ h => by cases d <;> exact h) (regrown_of_below (Below.drew (Below.refl _ _))) ?_
        have hS0 : Below (wr.heap.size) wr wr.drew := Below.drew (Below.refl _ _)
        refine wpMix_pure (by kernel_rfl) (fun K hK => ?_); go_big_quiet_op; refine hK _ ?_; clear hK K
        refine wpMix_pure (by kernel_rfl) (fun K hK => ?_); go_big_quiet_op; refine hK _ ?_; clear hK K
        refine wpMix_pure (by kernel_rfl) (fun K hK => ?_); go_big_quiet_op; refine hK _ ?_; clear hK K
        refine wpMix_act (by kernel_rfl) (fun K hK => ?_)
        go_big_op
        refine (l28One_any _ _ _ _ (hp.below hS0 hplt) hok).mono ?_
        rintro e wr1 ⟨rfl, hbr1⟩
        have hbr1S : Below (wr.heap.size) wr wr1 := hS0.trans (hbr1.mono hS0.size)
        refine hK _ _ (regrown_of_below hbr1S) ?_
        clear hK K
        cases hq3 : incB xs[m + 1]
        · skip
          refine wpMix_pure (by kernel_rfl) (fun K hK => ?_); go_big_quiet_op; refine hK _ ?_; clear hK K
          refine wpMix_pure (by kernel_rfl) (fun K hK => ?_); go_big_quiet_op; refine hK _ ?_; clear hK K
          refine wpMix_skip (by kernel_rfl) (fun K hK => ?_)
          simp only [Act.put, List.setIfInBounds_toArray, List.set_cons_zero, List.set_cons_succ]
          refine hK _ ?_; clear hK K
          refine wpMix_skip (by kernel_rfl) (fun K hK => ?_)
          simp only [Act.put, List.setIfInBounds_toArray, List.set_cons_zero, List.set_cons_succ]
          refine hK _ ?_; clear hK K
          refine wpMix_skip (by kernel_rfl) (fun K hK => ?_)
          simp only [Act.put, List.setIfInBounds_toArray, List.set_cons_zero, List.set_cons_succ]
          refine hK _ ?_; clear hK K
          refine wpMix_skip (by kernel_rfl) (fun K hK => ?_)
          simp only [Act.put, List.setIfInBounds_toArray, List.set_cons_zero, List.set_cons_succ]
          refine hK _ ?_; clear hK K
          refine wpMix_skip (by kernel_rfl) (fun K hK => ?_)
          simp only [Act.put, List.setIfInBounds_toArray, List.set_cons_zero, List.set_cons_succ]
          refine hK _ ?_; clear hK K
          refine wpMix_skip (by kernel_rfl) (fun K hK => ?_)
          simp only [Act.put, List.setIfInBounds_toArray, List.set_cons_zero, List.set_cons_succ]
          refine hK _ ?_; clear hK K
          refine wpMix_skip (by kernel_rfl) (fun K hK => ?_)
          simp only [Act.put, List.setIfInBounds_toArray, List.set_cons_zero, List.set_cons_succ]
          refine hK _ ?_; clear hK K
          refine wpMix_skip (by kernel_rfl) (fun K hK => ?_)
          simp only [Act.put, List.setIfInBounds_toArray, List.set_cons_zero, List.set_cons_succ]
          refine hK _ ?_; clear hK K
          refine wpMix_skip (by kernel_rfl) (fun K hK => ?_)
          simp only [Act.put, List.setIfInBounds_toArray, List.set_cons_zero, List.set_cons_succ]
          refine hK _ ?_; clear hK K
          refine wpMix_skip (by kernel_rfl) (fun K hK => ?_)
          simp only [Act.put, List.setIfInBounds_toArray, List.set_cons_zero, List.set_cons_succ]
          refine hK _ ?_; clear hK K
          refine wpMix_skip (by kernel_rfl) (fun K hK => ?_)
          simp only [Act.put, List.setIfInBounds_toArray, List.set_cons_zero, List.set_cons_succ]
          refine hK _ ?_; clear hK K
          refine wpMix_skip (by kernel_rfl) (fun K hK => ?_)
          simp only [Act.put, List.setIfInBounds_toArray, List.set_cons_zero, List.set_cons_succ]
          refine hK _ ?_; clear hK K
          refine wpMix_skip (by kernel_rfl) (fun K hK => ?_)
          simp only [Act.put, List.setIfInBounds_toArray, List.set_cons_zero, List.set_cons_succ]
          refine hK _ ?_; clear hK K
          refine wpMix_pure (by kernel_rfl) (fun K hK => ?_); go_big_quiet_op; refine hK _ ?_; clear hK K
          refine wpMix_nil ?_
          go_wp2
          go_ret
          exact ⟨ret_bool (by rw [incsB_bad hlt (by rw [incOk_succ hlt]; simp [*])]), hb.trans (hbr1S.mono hb.size)⟩
        · skip
          refine wpMix_pure (by kernel_rfl) (fun K hK => ?_); go_big_quiet_op; refine hK _ ?_; clear hK K
          refine wpMix_pure (by kernel_rfl) (fun K hK => ?_); go_big_quiet_op; refine hK _ ?_; clear hK K
          refine wpMix_pure (by kernel_rfl) (fun K hK => ?_); go_big_quiet_op; refine hK _ ?_; clear hK K
          refine wpMix_pure (by kernel_rfl) (fun K hK => ?_); go_big_quiet_op; refine hK _ ?_; clear hK K
          refine wpMix_pure (by kernel_rfl) (fun K hK => ?_); go_big_quiet_op; refine hK _ ?_; clear hK K
          refine wpMix_pure (by kernel_rfl) (fun K hK => ?_); go_big_quiet_op; refine hK _ ?_; clear hK K
          refine wpMix_pure (by kernel_rfl) (fun K hK => ?_); go_big_quiet_op; refine hK _ ?_; clear hK K
          refine wpMix_pure (by kernel_rfl) (fun K hK => ?_); go_big_quiet_op; refine hK _ ?_; clear hK K
          refine wpMix_pure (by kernel_rfl) (fun K hK => ?_); go_big_quiet_op; refine hK _ ?_; clear hK K
          refine wpMix_pure (by kernel_rfl) (fun K hK => ?_); go_big_quiet_op; refine hK _ ?_; clear hK K
          refine wpMix_pure (by kernel_rfl) (fun K hK => ?_); go_big_quiet_op; refine hK _ ?_; clear hK K
          refine wpMix_pure (by kernel_rfl) (fun K hK => ?_); go_big_quiet_op; refine hK _ ?_; clear hK K
          refine wpMix_act (by kernel_rfl) (fun K hK => ?_)
          go_big_op
          refine (l28Before_any _ _ _ _ _ _ _ (hpm.below hbr1S hplt) (hp.below hbr1S hplt)).mono ?_
          rintro e wr2 ⟨rfl, hbr2⟩
          have hbr2S : Below (wr.heap.size) wr wr2 := hbr1S.trans (hbr2.mono hbr1S.size)
          refine hK _ _ (regrown_of_below hbr2S) ?_
          clear hK K
          cases hq16 : befI xs[m] xs[m + 1]
          · skip
            refine wpMix_pure (by kernel_rfl) (fun K hK => ?_); go_big_quiet_op; refine hK _ ?_; clear hK K
            refine wpMix_pure (by kernel_rfl) (fun K hK => ?_); go_big_quiet_op; refine hK _ ?_; clear hK K
            refine wpMix_pure (by kernel_rfl) (fun K hK => ?_); go_big_quiet_op; refine hK _ ?_; clear hK K
            refine wpMix_nil ?_
            go_wp2
            go_ret
            exact ⟨ret_bool (by rw [incsB_bad hlt (by rw [incOk_succ hlt]; simp [*])]), hb.trans (hbr2S.mono hb.size)⟩
          · skip
            refine wpMix_pure (by kernel_rfl) (fun K hK => ?_); go_big_quiet_op; refine hK _ ?_; clear hK K
            refine wpMix_pure (by kernel_rfl) (fun K hK => ?_); go_big_quiet_op; refine hK _ ?_; clear hK K
            refine wpMix_pure (by kernel_rfl) (fun K hK => ?_); go_big_quiet_op; refine hK _ ?_; clear hK K
            refine wpMix_nil ?_
            go_wp2
            go_roundw
            case rel => exact ⟨m + 1 + 1, by omega, by go_num, allIdx_step H0.out (by rw [incOk_succ hlt]; simp [*]), hb.trans (hbr2S.mono hb.size)⟩
            case measure => simp [intOf]; omega
    · have HF := Lib.hid (allIdx_full (by omega) hk H0.out)
      by_cases hle : xs.length ≤ 48
      all_goals
        go_wp2
        go_ret
        exact ⟨ret_bool (by unfold incsB; rw [HF.out]; simp [hle] <;> omega), hb⟩
set_option maxRecDepth 100000 in
set_option maxHeartbeats 4000000 in
theorem ValidIncidents_any (v : Value) (xs : List DIncident) (fp : List Nat) (w : World) (hx : Sl fIncident.cod w v xs fp) :
    Calls Tryz.prog 43 #[v] w fun e w' => e = .returned (.bool (incsB xs)) ∧ Below w.heap.size w w' := by
  obtain ⟨A, cap, rfl, hlen, hcap⟩ := hx.form
  by_cases hle : xs.length ≤ 48
  · go_enter Tryz.func43, Tryz.ntmps43
    go_wp2
    go_loopw [10] (fun i wr => ∃ k : Nat, k ≤ xs.length ∧ i = .int .i64 k ∧ Hid (allIdx (incOk xs) k = true) ∧ Below w.heap.size w wr) (fun i _ => xs.length - (intOf i).toNat)
    case atStart => exact ⟨0, Nat.zero_le _, rfl, rfl, Below.refl _ _⟩
    case round =>
      obtain ⟨k, hk, rfl, H0, hb⟩ := hrel
      by_cases hlt : k < xs.length
      · rcases Nat.eq_zero_or_pos k with rfl | hpos
        · skip
          obtain ⟨b, off, rfl, _, hok, hp⟩ := PIncident.elem (hx.below' hb) hlt
          rw [Nat.zero_mul, Nat.add_zero] at hp
          obtain ⟨c0, c1, c2, c3, c4, c5⟩ := id hp
          go_wp2
          refine at_world (fun W => Below wr.heap.size wr W ∧ PIncident W wr.heap.size 0 xs[0]) ⟨(Below.refl _ _).alloc (Nat.le_refl _) _, PIncident.box wr xs[0] _⟩ ?_
          clear c0 c1 c2 c3 c4 c5
          rintro W ⟨hW, hpW⟩
          obtain ⟨c0, c1, c2, c3, c4, c5⟩ := id hpW
          have gc0 := cell_regrown c0
          have gc1 := cell_regrown c1
          have gc2 := cell_regrown c2
          have gc3 := cell_regrown c3
          have gc4 := cell_regrown c4
          have gc5 := cell_regrown c5
          refine wp_region_mix (C := fun w' => ∃ p : Regrown, w' = Go.Sort.grow (redrawn W p.d) p.os) [true, false, true, true, true, true, true, true, true, true, true, true, true, false, true, true, true] (by kernel_rfl) (by kernel_rfl) (by kernel_rfl) (fun _ _ d _ _ h => by cases d <;> exact h) (regrown_of_below (Below.drew (Below.refl _ _))) ?_
          have hS0 : Below (W.heap.size) W W.drew := Below.drew (Below.refl _ _)
          refine wpMix_pure (by kernel_rfl) (fun K hK => ?_); go_big_quiet_op; refine hK _ ?_; clear hK K
          refine wpMix_act (by kernel_rfl) (fun K hK => ?_)
          go_big_op
          refine (incValid_any xs[0] _ hok).mono ?_
          rintro e wr1 ⟨rfl, hbr1⟩
          have hbr1S : Below (W.heap.size) W wr1 := hS0.trans (hbr1.mono hS0.size)
          refine hK _ _ (regrown_of_below hbr1S) ?_
          clear hK K
          cases hq1 : incB xs[0]
          · skip
            refine wpMix_pure (by kernel_rfl) (fun K hK => ?_); go_big_quiet_op; refine hK _ ?_; clear hK K
            refine wpMix_pure (by kernel_rfl) (fun K hK => ?_); go_big_quiet_op; refine hK _ ?_; clear hK K
            refine wpMix_skip (by kernel_rfl) (fun K hK => ?_)
            simp only [Act.put, List.setIfInBounds_toArray, List.set_cons_zero, List.set_cons_succ]
            refine hK _ ?_; clear hK K
            refine wpMix_skip (by kernel_rfl) (fun K hK => ?_)
            simp only [Act.put, List.setIfInBounds_toArray, List.set_cons_zero, List.set_cons_succ]
            refine hK _ ?_; clear hK K
            refine wpMix_skip (by kernel_rfl) (fun K hK => ?_)
            simp only [Act.put, List.setIfInBounds_toArray, List.set_cons_zero, List.set_cons_succ]
            refine hK _ ?_; clear hK K
            refine wpMix_skip (by kernel_rfl) (fun K hK => ?_)
            simp only [Act.put, List.setIfInBounds_toArray, List.set_cons_zero, List.set_cons_succ]
            refine hK _ ?_; clear hK K
            refine wpMix_skip (by kernel_rfl) (fun K hK => ?_)
            simp only [Act.put, List.setIfInBounds_toArray, List.set_cons_zero, List.set_cons_succ]
            refine hK _ ?_; clear hK K
            refine wpMix_skip (by kernel_rfl) (fun K hK => ?_)
            simp only [Act.put, List.setIfInBounds_toArray, List.set_cons_zero, List.set_cons_succ]
            refine hK _ ?_; clear hK K
            refine wpMix_skip (by kernel_rfl) (fun K hK => ?_)
            simp only [Act.put, List.setIfInBounds_toArray, List.set_cons_zero, List.set_cons_succ]
            refine hK _ ?_; clear hK K
            refine wpMix_skip (by kernel_rfl) (fun K hK => ?_)
            simp only [Act.put, List.setIfInBounds_toArray, List.set_cons_zero, List.set_cons_succ]
            refine hK _ ?_; clear hK K
            refine wpMix_skip (by kernel_rfl) (fun K hK => ?_)
            simp only [Act.put, List.setIfInBounds_toArray, List.set_cons_zero, List.set_cons_succ]
            refine hK _ ?_; clear hK K
            refine wpMix_skip (by kernel_rfl) (fun K hK => ?_)
            simp only [Act.put, List.setIfInBounds_toArray, List.set_cons_zero, List.set_cons_succ]
            refine hK _ ?_; clear hK K
            refine wpMix_skip (by kernel_rfl) (fun K hK => ?_)
            simp only [Act.put, List.setIfInBounds_toArray, List.set_cons_zero, List.set_cons_succ]
            refine hK _ ?_; clear hK K
            refine wpMix_skip (by kernel_rfl) (fun K hK => ?_)
            simp only [Act.put, List.setIfInBounds_toArray, List.set_cons_zero, List.set_cons_succ]
            refine hK _ ?_; clear hK K
            refine wpMix_pure (by kernel_rfl) (fun K hK => ?_); go_big_quiet_op; refine hK _ ?_; clear hK K
            refine wpMix_nil ?_
            go_wp2
            go_ret
            exact ⟨ret_bool (by rw [incsB_bad hlt (by rw [incOk_zero hlt]; simp [*])]), hb.trans (hW.trans (hbr1S.mono hW.size) |>.mono hb.size)⟩
          · skip
            refine wpMix_pure (by kernel_rfl) (fun K hK => ?_); go_big_quiet_op; refine hK _ ?_; clear hK K
            refine wpMix_pure (by kernel_rfl) (fun K hK => ?_); go_big_quiet_op; refine hK _ ?_; clear hK K
            refine wpMix_pure (by kernel_rfl) (fun K hK => ?_); go_big_quiet_op; refine hK _ ?_; clear hK K
            refine wpMix_pure (by kernel_rfl) (fun K hK => ?_); go_big_quiet_op; refine hK _ ?_; clear hK K
            refine wpMix_pure (by kernel_rfl) (fun K hK => ?_); go_big_quiet_op; refine hK _ ?_; clear hK K
            refine wpMix_skip (by kernel_rfl) (fun K hK => ?_)
            simp only [Act.put, List.setIfInBounds_toArray, List.set_cons_zero, List.set_cons_succ]
            refine hK _ ?_; clear hK K
            refine wpMix_skip (by kernel_rfl) (fun K hK => ?_)
            simp only [Act.put, List.setIfInBounds_toArray, List.set_cons_zero, List.set_cons_succ]
            refine hK _ ?_; clear hK K
            refine wpMix_skip (by kernel_rfl) (fun K hK => ?_)
            simp only [Act.put, List.setIfInBounds_toArray, List.set_cons_zero, List.set_cons_succ]
            refine hK _ ?_; clear hK K
            refine wpMix_skip (by kernel_rfl) (fun K hK => ?_)
            simp only [Act.put, List.setIfInBounds_toArray, List.set_cons_zero, List.set_cons_succ]
            refine hK _ ?_; clear hK K
            refine wpMix_skip (by kernel_rfl) (fun K hK => ?_)
            simp only [Act.put, List.setIfInBounds_toArray, List.set_cons_zero, List.set_cons_succ]
            refine hK _ ?_; clear hK K
            refine wpMix_skip (by kernel_rfl) (fun K hK => ?_)
            simp only [Act.put, List.setIfInBounds_toArray, List.set_cons_zero, List.set_cons_succ]
            refine hK _ ?_; clear hK K
            refine wpMix_skip (by kernel_rfl) (fun K hK => ?_)
            simp only [Act.put, List.setIfInBounds_toArray, List.set_cons_zero, List.set_cons_succ]
            refine hK _ ?_; clear hK K
            refine wpMix_skip (by kernel_rfl) (fun K hK => ?_)
            simp only [Act.put, List.setIfInBounds_toArray, List.set_cons_zero, List.set_cons_succ]
            refine hK _ ?_; clear hK K
            refine wpMix_pure (by kernel_rfl) (fun K hK => ?_); go_big_quiet_op; refine hK _ ?_; clear hK K
            refine wpMix_pure (by kernel_rfl) (fun K hK => ?_); go_big_quiet_op; refine hK _ ?_; clear hK K
            refine wpMix_nil ?_
            go_wp2
            go_roundw
            case rel => exact ⟨0 + 1, by omega, by go_num, allIdx_step H0.out (by rw [incOk_zero hlt]; simp [*]), hb.trans (hW.trans (hbr1S.mono hW.size) |>.mono hb.size)⟩
            case measure => simp [intOf]; omega
        · obtain ⟨m, rfl⟩ : ∃ m, k = m + 1 := ⟨k - 1, by omega⟩
          have hm : m < xs.length := by omega
          obtain ⟨b, off, rfl, _, hok, hp⟩ := PIncident.elem (hx.below' hb) hlt
          skip
          obtain ⟨c0, c1, c2, c3, c4, c5⟩ := id hp
          obtain ⟨b1, off1, hA1, _, hokm, hpm⟩ := PIncident.elem (hx.below' hb) hm
          injection hA1 with hA1
          injection hA1 with hA1 hA2 _
          subst hA1 hA2
          go_wp2
          refine at_world (fun W => Below wr.heap.size wr W ∧ PIncident W wr.heap.size 0 xs[m + 1] ∧ PIncident W b (off + m * 6) xs[m]) ⟨(Below.refl _ _).alloc (Nat.le_refl _) _, PIncident.box wr xs[m + 1] _, hpm.below' ((Below.refl _ _).alloc (Nat.le_refl _) _)⟩ ?_
          clear c0 c1 c2 c3 c4 c5 hpm
          rintro W ⟨hW, hpW, hpm⟩
          obtain ⟨c0, c1, c2, c3, c4, c5⟩ := id hpW
          obtain ⟨d0, d1, d2, d3, d4, d5⟩ := id hpm
          have gc0 := cell_regrown c0
          have gc1 := cell_regrown c1
          have gc2 := cell_regrown c2
          have gc3 := cell_regrown c3
          have gc4 := cell_regrown c4
          have gc5 := cell_regrown c5
          have gd0 := cell_regrown d0
          have gd1 := cell_regrown d1
          have gd2 := cell_regrown d2
          have gd3 := cell_regrown d3
          have gd4 := cell_regrown d4
          have gd5 := cell_regrown d5
          refine wp_region_mix (C := fun w' => ∃ p : Regrown, w' = Go.Sort.grow (redrawn W p.d) p.os) [true, false, true, true, true, true, true, true, true, true, true, true, true, false, true, true, true] (by kernel_rfl) (by kernel_rfl) (by kernel_rfl) (fun _ _ d _ _ h => by cases d <;> exact h) (regrown_of_below (Below.drew (Below.refl _ _))) ?_
          have hS0 : Below (W.heap.size) W W.drew := Below.drew (Below.refl _ _)
          refine wpMix_pure (by kernel_rfl) (fun K hK => ?_); go_big_quiet_op; refine hK _ ?_; clear hK K
          refine wpMix_act (by kernel_rfl) (fun K hK => ?_)
          go_big_op
          refine (incValid_any xs[m + 1] _ hok).mono ?_
          rintro e wr1 ⟨rfl, hbr1⟩
          have hbr1S : Below (W.heap.size) W wr1 := hS0.trans (hbr1.mono hS0.size)
          refine hK _ _ (regrown_of_below hbr1S) ?_
          clear hK K
          cases hq1 : incB xs[m + 1]
          · skip
            refine wpMix_pure (by kernel_rfl) (fun K hK => ?_); go_big_quiet_op; refine hK _ ?_; clear hK K
            refine wpMix_pure (by kernel_rfl) (fun K hK => ?_); go_big_quiet_op; refine hK _ ?_; clear hK K
            refine wpMix_skip (by kernel_rfl) (fun K hK => ?_)
            simp only [Act.put, List.setIfInBounds_toArray, List.set_cons_zero, List.set_cons_succ]
            refine hK _ ?_; clear hK K
            refine wpMix_skip (by kernel_rfl) (fun K hK => ?_)
            simp only [Act.put, List.setIfInBounds_toArray, List.set_cons_zero, List.set_cons_succ]
            refine hK _ ?_; clear hK K
            refine wpMix_skip (by kernel_rfl) (fun K hK => ?_)
            simp only [Act.put, List.setIfInBounds_toArray, List.set_cons_zero, List.set_cons_succ]
            refine hK _ ?_; clear hK K
            refine wpMix_skip (by kernel_rfl) (fun K hK => ?_)
            simp only [Act.put, List.setIfInBounds_toArray, List.set_cons_zero, List.set_cons_succ]
            refine hK _ ?_; clear hK K
            refine wpMix_skip (by kernel_rfl) (fun K hK => ?_)
            simp only [Act.put, List.setIfInBounds_toArray, List.set_cons_zero, List.set_cons_succ]
            refine hK _ ?_; clear hK K
            refine wpMix_skip (by kernel_rfl) (fun K hK => ?_)
            simp only [Act.put, List.setIfInBounds_toArray, List.set_cons_zero, List.set_cons_succ]
            refine hK _ ?_; clear hK K
            refine wpMix_skip (by kernel_rfl) (fun K hK => ?_)
            simp only [Act.put, List.setIfInBounds_toArray, List.set_cons_zero, List.set_cons_succ]
            refine hK _ ?_; clear hK K
            refine wpMix_skip (by kernel_rfl) (fun K hK => ?_)
            simp only [Act.put, List.setIfInBounds_toArray, List.set_cons_zero, List.set_cons_succ]
            refine hK _ ?_; clear hK K
            refine wpMix_skip (by kernel_rfl) (fun K hK => ?_)
            simp only [Act.put, List.setIfInBounds_toArray, List.set_cons_zero, List.set_cons_succ]
            refine hK _ ?_; clear hK K
            refine wpMix_skip (by kernel_rfl) (fun K hK => ?_)
            simp only [Act.put, List.setIfInBounds_toArray, List.set_cons_zero, List.set_cons_succ]
            refine hK _ ?_; clear hK K
            refine wpMix_skip (by kernel_rfl) (fun K hK => ?_)
            simp only [Act.put, List.setIfInBounds_toArray, List.set_cons_zero, List.set_cons_succ]
            refine hK _ ?_; clear hK K
            refine wpMix_skip (by kernel_rfl) (fun K hK => ?_)
            simp only [Act.put, List.setIfInBounds_toArray, List.set_cons_zero, List.set_cons_succ]
            refine hK _ ?_; clear hK K
            refine wpMix_pure (by kernel_rfl) (fun K hK => ?_); go_big_quiet_op; refine hK _ ?_; clear hK K
            refine wpMix_nil ?_
            go_wp2
            go_ret
            exact ⟨ret_bool (by rw [incsB_bad hlt (by rw [incOk_succ hlt]; simp [*])]), hb.trans (hW.trans (hbr1S.mono hW.size) |>.mono hb.size)⟩
          · skip
            refine wpMix_pure (by kernel_rfl) (fun K hK => ?_); go_big_quiet_op; refine hK _ ?_; clear hK K
            refine wpMix_pure (by kernel_rfl) (fun K hK => ?_); go_big_quiet_op; refine hK _ ?_; clear hK K
            refine wpMix_pure (by kernel_rfl) (fun K hK => ?_); go_big_quiet_op; refine hK _ ?_; clear hK K
            refine wpMix_pure (by kernel_rfl) (fun K hK => ?_); go_big_quiet_op; refine hK _ ?_; clear hK K
            refine wpMix_pure (by kernel_rfl) (fun K hK => ?_); go_big_quiet_op; refine hK _ ?_; clear hK K
            refine wpMix_pure (by kernel_rfl) (fun K hK => ?_); go_big_quiet_op; refine hK _ ?_; clear hK K
            refine wpMix_pure (by kernel_rfl) (fun K hK => ?_); go_big_quiet_op; refine hK _ ?_; clear hK K
            refine wpMix_pure (by kernel_rfl) (fun K hK => ?_); go_big_quiet_op; refine hK _ ?_; clear hK K
            refine wpMix_pure (by kernel_rfl) (fun K hK => ?_); go_big_quiet_op; refine hK _ ?_; clear hK K
            refine wpMix_pure (by kernel_rfl) (fun K hK => ?_); go_big_quiet_op; refine hK _ ?_; clear hK K
            refine wpMix_pure (by kernel_rfl) (fun K hK => ?_); go_big_quiet_op; refine hK _ ?_; clear hK K
            refine wpMix_act (by kernel_rfl) (fun K hK => ?_)
            go_big_op
            refine (compareIncidents_any _ _ _).mono ?_
            rintro e wr2 ⟨rfl, hbr2⟩
            have hbr2S : Below (W.heap.size) W wr2 := hbr1S.trans (hbr2.mono hbr1S.size)
            refine hK _ _ (regrown_of_below hbr2S) ?_
            clear hK K
            by_cases hq14 : befI xs[m] xs[m + 1] = true
            · skip
              have hcm : cmpInc xs[m] xs[m + 1] < 0 := by have := cmpInc_lt xs[m] xs[m + 1]; rw [hq14] at this; simpa using this
              have e14 : decide (0 ≤ cmpInc xs[m] xs[m + 1]) = false := by simp; omega
              refine wpMix_pure (by kernel_rfl) (fun K hK => ?_); go_big_quiet_op; refine hK _ ?_; clear hK K
              refine wpMix_pure (by kernel_rfl) (fun K hK => ?_); go_big_quiet_op; refine hK _ ?_; clear hK K
              refine wpMix_pure (by kernel_rfl) (fun K hK => ?_); go_big_quiet_op; refine hK _ ?_; clear hK K
              refine wpMix_nil ?_
              go_wp2
              go_roundw
              case rel => exact ⟨m + 1 + 1, by omega, by go_num, allIdx_step H0.out (by rw [incOk_succ hlt]; simp [*]), hb.trans (hW.trans (hbr2S.mono hW.size) |>.mono hb.size)⟩
              case measure => simp [intOf]; omega
            · skip
              have hbf : befI xs[m] xs[m + 1] = false := by simpa using hq14
              have hcm : 0 ≤ cmpInc xs[m] xs[m + 1] := by have := cmpInc_lt xs[m] xs[m + 1]; rw [hbf] at this; simpa using this
              have e14 : decide (0 ≤ cmpInc xs[m] xs[m + 1]) = true := by simpa using hcm
              refine wpMix_pure (by kernel_rfl) (fun K hK => ?_); go_big_quiet_op; refine hK _ ?_; clear hK K
              refine wpMix_pure (by kernel_rfl) (fun K hK => ?_); go_big_quiet_op; refine hK _ ?_; clear hK K
              refine wpMix_pure (by kernel_rfl) (fun K hK => ?_); go_big_quiet_op; refine hK _ ?_; clear hK K
              refine wpMix_nil ?_
              go_wp2
              go_ret
              exact ⟨ret_bool (by rw [incsB_bad hlt (by rw [incOk_succ hlt]; simp [*])]), hb.trans (hW.trans (hbr2S.mono hW.size) |>.mono hb.size)⟩
      · have HF := Lib.hid (allIdx_full (by omega) hk H0.out)
        go_wp2
        go_ret
        exact ⟨ret_bool (by unfold incsB; rw [HF.out]; simp [hle]), hb⟩
  · go_enter Tryz.func43, Tryz.ntmps43
    go_wp2
    go_ret
    exact ⟨ret_bool (by unfold incsB; simp <;> omega), Below.refl _ _⟩

end Go.Proofs.YtgnbhcgagdfaiaaGreatDoor

namespace Go.Proofs.YtgnbhcgagdfaiaaGreatDoor
open Go.RowKit
set_option linter.unusedVariables false

/-- The one loop over months: it goes on exactly before the month of the day. -/
theorem one_go {y m d t u r : Int} (h : dateOk y m d) (ht0 : 2000 ≤ t) (ht : t ≤ y) (hu0 : 1 ≤ u) (hu1 : u ≤ 12) (hum : t = y → u ≤ m) (hr : r = numD y m d - yB t - cumM t u) : 0 ≤ r ∧ (lenM t u ≤ r ↔ (t < y ∨ u < m)) := by
  have hb := cumM_bounds t hu0 hu1
  have hlz := lenM_zero t
  rcases Int.lt_or_eq_of_le ht with hlt | rfl
  · have h1 := yB_mono hlt
    have h2 := cumM_bounds y h.2.1.1 h.2.1.2
    have e : numD y m d = yB y + cumM y m + d - 1 := rfl
    have h3 := h.2.2.1
    have h4 := lenM_pos t hu0 hu1
    constructor
    · omega
    · constructor
      · intro _; exact .inl hlt
      · intro _; omega
  · have e : numD t m d = yB t + cumM t m + d - 1 := rfl
    have := month_go (t := u) (r := r) h hu0 (hum rfl) (by omega)
    constructor
    · exact this.1
    · rw [this.2]
      constructor
      · intro h; exact .inr h
      · rintro (h | h)
        · omega
        · exact h
theorem two_itoa : ∀ k : Fin 100, (if (k.1 : Int) < 10 then [(48 : UInt8)] else []) ++ Lib.itoa (k.1 : Int) = two (k.1 : Int) := by decide +kernel
theorem two_dec {n : Int} (h0 : 0 ≤ n) (h1 : n < 100) : (if n < 10 then [(48 : UInt8)] else []) ++ Lib.itoa n = two n := by
  have := two_itoa ⟨n.toNat, by omega⟩
  simp only [Int.toNat_of_nonneg h0] at this
  exact this
set_option maxRecDepth 100000 in
set_option maxHeartbeats 4000000 in
theorem l02Date_any (y m d n : Int) (w : World) (h : dateOk y m d) (hn : n = numD y m d) :
    Calls Tryz.prog 86 #[.int .i64 n] w fun e w' => e = .returned (.tuple #[.int .i64 y, .int .i64 m, .int .i64 d]) ∧ Below w.heap.size w w' := by
  have hb0 := numD_bounds h
  have HG := Lib.hid (fun (t u r : Int) h1 h2 h3 h4 h5 h6 => one_go (t := t) (u := u) (r := r) h h1 h2 h3 h4 h5 h6)
  have hyb : Hid (∀ t : Int, yB (t + 1) = yB t + lenM t 0) := yB_step
  have hc12 : Hid (∀ t : Int, cumM t 12 + lenM t 12 = lenM t 0) := fun t => by
    have := leapI_01 t
    simp [cumM, lenM]; omega
  have hcs : Hid (∀ t u : Int, 1 ≤ u → u ≤ 12 → cumM t (u + 1) = cumM t u + lenM t u) := fun t u h1 h2 => cumM_step t h1 h2
  have hlb : Hid (∀ t u : Int, 1 ≤ u → u ≤ 12 → 28 ≤ lenM t u ∧ lenM t u ≤ 31) := fun t u h1 h2 => lenM_pos t h1 h2
  have HD := Lib.hid (show numD y m d = yB y + cumM y m + d - 1 from rfl)
  have HC1 : Hid (∀ t : Int, cumM t 1 = 0) := cumM_one
  have HY0 : Hid (yB 2000 = 0) := rfl
  obtain ⟨⟨hy0, hy1⟩, ⟨hm0, hm1⟩, hd0, hd1⟩ := h
  have hlen := lenM_pos y hm0 hm1
  have HN := Lib.hid hn
  rw [← hn] at hb0
  clear hn
  go_enter Tryz.func86, Tryz.ntmps86
  go_wp2
  go_loopw [0, 5, 6] (fun a b c wr => ∃ r t u : Int, a = .int .i64 r ∧ b = .int .i64 t ∧ c = .int .i64 u ∧ 2000 ≤ t ∧ t ≤ y ∧ 1 ≤ u ∧ u ≤ 12 ∧ (t = y → u ≤ m) ∧ 0 ≤ r ∧ r ≤ 40000 ∧ Hid (r = numD y m d - yB t - cumM t u) ∧ Below w.heap.size w wr) (fun _ b c _ => (12 * (y - intOf b) + (12 - intOf c)).toNat)
  case atStart => exact ⟨n, 2000, 1, rfl, rfl, rfl, by omega, by omega, by omega, by omega, by omega, by omega, by omega, by have := HN.out; have := HC1.out 2000; have := HY0.out; show _ = _; omega, Below.refl _ _⟩
  case round =>
    obtain ⟨r, t, u, rfl, rfl, rfl, ht0, ht1, hu0, hu1, hum, hr0, hr1, HQ, hb⟩ := hrel
    have hg := (HG.out t u r ht0 ht1 hu0 hu1 hum HQ.out).2
    have hl := hlb.out t u hu0 hu1
    by_cases hlt : t < y ∨ u < m
    · have hge : lenM t u ≤ r := hg.2 hlt
      clear hg
      go_wp2_with fail
      refine (l02Length_any t u _ (by omega) hu0 hu1).mono ?_
      rintro e w1 ⟨rfl, hb1⟩
      have hB1 := hb.trans (hb1.mono hb.size)
      go_wp2_with fail
      refine (l02Length_any t u _ (by omega) hu0 hu1).mono ?_
      rintro e w2 ⟨rfl, hb2⟩
      have hB2 := hB1.trans (hb2.mono hB1.size)
      clear hb1 hb2
      by_cases h12 : u = 12
      · subst h12
        have htl : t < y := by omega
        go_wp2
        go_roundw
        case rel => exact ⟨r - lenM t 12, t + 1, 1, by go_num, by go_num, rfl, by omega, by omega, by omega, by omega, by omega, by omega, by omega, by have := HQ.out; have := hyb.out t; have := hc12.out t; have := HC1.out (t + 1); show _ = _; omega, hB2⟩
        case measure => simp [intOf]; omega
      · go_wp2
        go_roundw
        case rel => exact ⟨r - lenM t u, t, u + 1, by go_num, rfl, by go_num, by omega, by omega, by omega, by omega, by omega, by omega, by omega, by have := HQ.out; have := hcs.out t u hu0 hu1; show _ = _; omega, hB2⟩
        case measure => simp [intOf]; omega
    · have hge : ¬ lenM t u ≤ r := fun e => hlt (hg.1 e)
      clear hg
      obtain rfl : t = y := by omega
      obtain rfl : u = m := by have := hum rfl; omega
      obtain rfl : r = d - 1 := by have := HQ.out; have := HD.out; omega
      have e2 : d - 1 + 1 = d := by omega
      have e1 : wrap64 (d - 1 + 1) = d := by unfold wrap64; omega
      go_wp2_with fail
      refine (l02Length_any t u _ (by omega) hu0 hu1).mono ?_
      rintro e w1 ⟨rfl, hb1⟩
      have hB1 := hb.trans (hb1.mono hb.size)
      go_wp2
      go_ret3
      exact ⟨rfl, hB1⟩
set_option maxRecDepth 100000 in
set_option maxHeartbeats 2000000 in
theorem l02Two_any (n : Int) (w : World) (h0 : 0 ≤ n) (h1 : n < 100) :
    Calls Tryz.prog 87 #[.int .i64 n] w fun e w' => e = .returned (.string ⟨(two n).toArray⟩) ∧ Below w.heap.size w w' := by
  have h2 := two_dec h0 h1
  by_cases h : n < 10
  · rw [if_pos h] at h2
    have HX : Hid ((⟨#[48]⟩ : ByteArray) ++ decS n = ⟨(two n).toArray⟩) := by
      show _ = _
      rw [← h2]
      exact ByteArray.mk_append_mk [48] _
    have hsz : (decS n).size ≤ 30 := by rw [decS_size]; have := itoa_len20 (n := n) (by omega) (by omega); omega
    clear h2
    go_enter Tryz.func87, Tryz.ntmps87
    go_wp2_with fail
    refine (l01Dec_any n _ (by omega) (by omega)).mono ?_
    rintro e w1 ⟨rfl, hb⟩
    generalize decS n = t at *
    go_wp2
    go_ret
    exact ⟨ret_str HX.out, hb⟩
  · rw [if_neg h, List.nil_append] at h2
    have HX : Hid (decS n = ⟨(two n).toArray⟩) := by show _ = _; rw [← h2]; rfl
    clear h2
    go_enter Tryz.func87, Tryz.ntmps87
    go_wp2_with fail
    refine (l01Dec_any n _ (by omega) (by omega)).mono ?_
    rintro e w1 ⟨rfl, hb⟩
    generalize decS n = t at *
    go_wp2
    go_ret
    exact ⟨ret_str HX.out, hb⟩
set_option maxRecDepth 100000 in
set_option maxHeartbeats 2000000 in
theorem l02Text_any (y m d n : Int) (w : World) (h : dateOk y m d) (hn : n = numD y m d) :
    Calls Tryz.prog 47 #[.int .i64 n] w fun e w' => e = .returned (.string (dayS y m d)) ∧ Below w.heap.size w w' := by
  have HX := Lib.hid (dayS_cat y m d)
  have hD := fun w => l02Date_any y m d n w h hn
  obtain ⟨⟨hy0, hy1⟩, ⟨hm0, hm1⟩, hd0, hd1⟩ := id h
  have hlen := lenM_pos y hm0 hm1
  have hsz : (decS y).size ≤ 30 := by rw [decS_size]; have := itoa_len20 (n := y) (by omega) (by omega); omega
  clear hn h
  go_enter Tryz.func47, Tryz.ntmps47
  go_wp2_with fail
  refine (hD _).mono ?_
  rintro e w1 ⟨rfl, hb1⟩
  have k1 := two_size m
  have k2 := two_size d
  go_wp2_with fail
  refine (l01Dec_any y _ (by omega) (by omega)).mono ?_
  rintro e w2 ⟨rfl, hb2⟩
  have hB2 := hb1.trans (hb2.mono hb1.size)
  generalize decS y = a at *
  have s1 : (a ++ ⟨#[45]⟩).size ≤ 31 := by rw [ByteArray.size_append]; show _ + 1 ≤ _; omega
  go_wp2_with fail
  refine (l02Two_any m _ (by omega) (by omega)).mono ?_
  rintro e w3 ⟨rfl, hb3⟩
  have hB3 := hB2.trans (hb3.mono hB2.size)
  generalize (⟨(two m).toArray⟩ : ByteArray) = b at *
  have s2 : (a ++ ⟨#[45]⟩ ++ b).size ≤ 33 := by rw [ByteArray.size_append]; omega
  have s3 : (a ++ ⟨#[45]⟩ ++ b ++ ⟨#[45]⟩).size ≤ 34 := by rw [ByteArray.size_append]; show _ + 1 ≤ _; omega
  go_wp2_with fail
  refine (l02Two_any d _ (by omega) (by omega)).mono ?_
  rintro e w4 ⟨rfl, hb4⟩
  have hB4 := hB3.trans (hb4.mono hB3.size)
  generalize (⟨(two d).toArray⟩ : ByteArray) = c at *
  go_wp2
  go_ret
  exact ⟨ret_str HX.out, hB4⟩
end Go.Proofs.YtgnbhcgagdfaiaaGreatDoor

namespace Go.Proofs.YtgnbhcgagdfaiaaGreatDoor
open Go.RowKit
set_option linter.unusedVariables false

/-- The rows of a slice of slices, laid open. -/
structure NRows {α : Type} (E : Cod α) (w : World) (b off n : Nat) (V : Nat → Value) (cur : Nat → List α) (F : Nat → List Nat) : Prop where
  cell : ∀ i, i < n → w.cell? ⟨b, off + i, none⟩ = some (V i)
  frz : ∀ i, i < n → w.frozen? ⟨b, off + i, none⟩ = false
  rd : ∀ i, i < n → Sl E w (V i) (cur i) (F i)
section
variable {α : Type} {E : Cod α} {w w' : World} {b off n cap len : Nat} {A : Option Addr} {V : Nat → Value} {cur : Nat → List α} {F : Nat → List Nat} {xss : List (List α)} {fp : List Nat}
theorem Sl.rows (h : Sl E.slice w (.slice A len cap) xss fp) (h0 : 0 < xss.length) :
    ∃ b off V F, A = some ⟨b, off, none⟩ ∧ b < w.heap.size ∧ fp = b :: (List.range xss.length).flatMap F ∧ NRows E w b off xss.length V (fun i => xss.getD i []) F := by
  obtain ⟨A', cap', hv, hl, hc, hr⟩ := h
  injection hv with hA hn hcap
  subst hA
  rcases hr with ⟨h1, _⟩ | ⟨b, off, F, hA, hb, hfp, hi⟩
  · subst h1; simp at h0
  · have hex : ∀ i, ∃ u, ∀ h : i < xss.length, w.cell? ⟨b, off + i, none⟩ = some u ∧ w.frozen? ⟨b, off + i, none⟩ = false ∧ Sl E w u xss[i] (F i) := fun i => by
      by_cases hlt : i < xss.length
      · obtain ⟨cs, h1, h2, u, rfl, h3⟩ := hi i hlt
        refine ⟨u, fun _ => ⟨?_, ?_, h3⟩⟩
        · have := h1 0 (show 0 < 1 by omega); simpa [Cod.slice] using this
        · have := h2 0 (show 0 < 1 by omega); simpa [Cod.slice] using this
      · exact ⟨undef, fun h => absurd h hlt⟩
    refine ⟨b, off, fun i => Classical.choose (hex i), F, hA, hb, hfp, ⟨fun i h => ?_, fun i h => ?_, fun i h => ?_⟩⟩
    · exact (Classical.choose_spec (hex i) h).1
    · exact (Classical.choose_spec (hex i) h).2.1
    · have := (Classical.choose_spec (hex i) h).2.2
      simpa [List.getD_eq_getElem?_getD, h] using this
theorem NRows.sl (h : NRows E w b off n V cur F) (hb : b < w.heap.size) (hn : xss.length = n) (hx : ∀ i (hi : i < xss.length), xss[i] = cur i) (hc : n ≤ cap) (hm : cap ≤ maxLen) :
    Sl E.slice w (.slice (some ⟨b, off, none⟩) n cap) xss (b :: (List.range n).flatMap F) := by
  subst hn
  refine ⟨_, cap, rfl, hc, hm, .inr ⟨b, off, F, rfl, hb, rfl, fun i hi => ⟨[V i], fun j hj => ?_, fun j hj => ?_, V i, rfl, ?_⟩⟩⟩
  · have hj' : j = 0 := by have : j < 1 := hj; omega
    subst hj'
    have := h.cell i hi
    simpa [Cod.slice] using this
  · have hj' : j = 0 := by have : j < 1 := hj; omega
    subst hj'
    have := h.frz i hi
    simpa [Cod.slice] using this
  · rw [hx i hi]; exact h.rd i hi
theorem NRows.below (h : NRows E w b off n V cur F) (hb : b < w.heap.size) (hw : Below w.heap.size w w') : NRows E w' b off n V cur F :=
  ⟨fun i hi => (hw.cell (p := ⟨b, off + i, none⟩) hb).trans (h.cell i hi), fun i hi => (hw.frozen (p := ⟨b, off + i, none⟩) hb).trans (h.frz i hi), fun i hi => (h.rd i hi).below' hw⟩
theorem NRows.congr {cur' : Nat → List α} (h : NRows E w b off n V cur F) (hc : ∀ i, i < n → cur i = cur' i) : NRows E w b off n V cur' F :=
  ⟨h.cell, h.frz, fun i hi => by rw [← hc i hi]; exact h.rd i hi⟩
/-- No block twice. -/
theorem rows_apart (hnd : (b :: (List.range n).flatMap F).Nodup) : (∀ i, i < n → b ∉ F i) ∧ (∀ i j, i < n → j < n → i ≠ j → ∀ c ∈ F i, c ∉ F j) ∧ ∀ i, i < n → (F i).Nodup := by
  rw [List.nodup_cons] at hnd
  obtain ⟨h1, h2⟩ := hnd
  refine ⟨fun i hi hm => h1 (List.mem_flatMap.2 ⟨i, by simpa using hi, hm⟩), ?_, ?_⟩
  · have h3 : ∀ i j, i < j → j < n → ∀ c ∈ F i, c ∉ F j := by
      intro i j hij hj c hc hc'
      have e1 : List.range n = List.range j ++ (List.range (n - j)).map (j + ·) := by rw [← List.range_add]; congr 1; omega
      rw [e1, List.flatMap_append, List.nodup_append] at h2
      exact h2.2.2 c (List.mem_flatMap.2 ⟨i, by simpa using hij, hc⟩) c (List.mem_flatMap.2 ⟨j, by simp; omega, hc'⟩) rfl
    intro i j hi hj hne c hc hc'
    rcases Nat.lt_or_ge i j with h | h
    · exact h3 i j h hj c hc hc'
    · exact h3 j i (by omega) hi c hc' hc
  · intro i hi
    have e1 : List.range n = List.range i ++ (List.range (n - i)).map (i + ·) := by rw [← List.range_add]; congr 1; omega
    have e2 : List.range (n - i) = 0 :: (List.range (n - i - 1)).map Nat.succ := by
      rw [← List.range_succ_eq_map]; congr 1; omega
    rw [e1, e2, List.flatMap_append, List.nodup_append] at h2
    have h4 := h2.2.1
    rw [List.map_cons, List.flatMap_cons, List.nodup_append] at h4
    simpa using h4.1
/-- One row is written, through its own blocks alone. -/
theorem NRows.step {ys : List α} {k : Nat} (h : NRows E w b off n V cur F) (hnd : (b :: (List.range n).flatMap F).Nodup) (hb : b < w.heap.size) (hk : k < n) (hs : Sl E w' (V k) ys (F k)) (ho : Only (F k) w w') :
    NRows E w' b off n V (fun i => if i = k then ys else cur i) F := by
  obtain ⟨h1, h2, _⟩ := rows_apart hnd
  have hbk := ho.block b hb (h1 k hk)
  refine ⟨fun i hi => (World.cell?_of_block (a := ⟨b, off + i, none⟩) hbk).trans (h.cell i hi), fun i hi => (World.frozen?_of_block (a := ⟨b, off + i, none⟩) hbk).trans (h.frz i hi), fun i hi => ?_⟩
  by_cases e : i = k
  · subst e; rw [if_pos rfl]; exact hs
  · rw [if_neg e]; exact (h.rd i hi).only ho (h2 i k hi hk e)
theorem Only.sub {fp fp' : List Nat} (h : Only fp w w') (hs : ∀ c ∈ fp, c ∈ fp') : Only fp' w w' := ⟨h.os, h.tape, h.output, h.size, fun k hk hn => h.block k hk (fun hm => hn (hs k hm))⟩
theorem Sl.elem {k : Nat} (h : Sl E.slice w (.slice A len cap) xss fp) (hk : k < xss.length) :
    ∃ b off vk fk, A = some ⟨b, off, none⟩ ∧ w.cell? ⟨b, off + k, none⟩ = some vk ∧ Sl E w vk xss[k] fk ∧ b ∈ fp := by
  obtain ⟨b, off, V, F, hA, hb, hfp, hr⟩ := h.rows (by omega)
  have := hr.rd k hk
  simp [List.getD_eq_getElem?_getD, hk] at this
  exact ⟨b, off, V k, F k, hA, hr.cell k hk, this, by rw [hfp]; simp⟩
end
/-! ### A slice of slices that the call fills row by row -/
/-- The block g holds n slices, of which the first k are made: they read as the first k rows. -/
def SSt {α : Type} (E : Cod α) (w : World) (g : Nat) (T : TypeId) (xss : List (List α)) (k : Nat) : Prop :=
  ∃ (V : Nat → Value) (F : Nat → List Nat), Fill w g g T 1 xss.length ((List.range k).map V) ∧ (∀ i, i < k → w.cell? ⟨g, i, none⟩ = some (V i)) ∧ (∀ i, i < k → Sl E w (V i) (xss.getD i []) (F i)) ∧ ((List.range k).flatMap F).Nodup ∧ (∀ c ∈ (List.range k).flatMap F, g < c ∧ c < w.heap.size)
theorem SSt.start {α : Type} {E : Cod α} (w : World) (T : TypeId) (z : Value) (xss : List (List α)) (hn : xss.length ≤ 9223372036854775807) : SSt E (w.alloc (.cells (madeCells #[z] xss.length) T)) w.heap.size T xss 0 :=
  ⟨fun _ => undef, fun _ => [], by simpa using Fill.start1 w T xss.length #[z] hn, fun _ h => absurd h (Nat.not_lt_zero _), fun _ h => absurd h (Nat.not_lt_zero _), by simp, by simp⟩
section
variable {α : Type} {E : Cod α} {w w' : World} {g : Nat} {T : TypeId} {xss : List (List α)} {k : Nat}
theorem SSt.below (h : SSt E w g T xss k) (hb : Below w.heap.size w w') : SSt E w' g T xss k := by
  obtain ⟨V, F, h1, h2, h3, h4, h5⟩ := h
  exact ⟨V, F, h1.below hb h1.lt, fun i hi => (hb.cell (p := ⟨g, i, none⟩) h1.lt).trans (h2 i hi), fun i hi => (h3 i hi).below' hb, h4, fun c hc => ⟨(h5 c hc).1, Nat.lt_of_lt_of_le (h5 c hc).2 hb.size⟩⟩
theorem SSt.cell (h : SSt E w g T xss k) {j : Nat} (hj : j < xss.length) : ∃ u, w.cell? ⟨g, j, none⟩ = some u := by
  obtain ⟨V, F, h1, _⟩ := h
  exact h1.cell (by omega)
theorem SSt.frozen (h : SSt E w g T xss k) (j : Nat) : w.frozen? ⟨g, j, none⟩ = false := by
  obtain ⟨V, F, h1, _⟩ := h
  exact h1.frozen j
theorem SSt.lt (h : SSt E w g T xss k) : g < w.heap.size := by
  obtain ⟨V, F, h1, _⟩ := h
  exact h1.lt
/-- The next row is made and laid in. -/
theorem SSt.next (h : SSt E w g T xss k) (hk : k < xss.length) {y : Value} (hn : New E w y xss[k] w') : SSt E (w'.setCell ⟨g, k, none⟩ y) g T xss (k + 1) := by
  have hg := h.lt
  obtain ⟨V, F, h1, h2, h3, h4, h5⟩ := h
  obtain ⟨⟨f, hs, hlo, hnd⟩, hb⟩ := hn
  have ho : Only [g] w' (w'.setCell ⟨g, k, none⟩ y) := (Only.refl _ _).set k y
  have hne : ∀ c, g < c → c ∉ [g] := fun c hc hm => by rw [List.mem_singleton] at hm; omega
  have e1 : ∀ i, i < k → (fun i => if i = k then y else V i) i = V i := fun i hi => if_neg (by omega)
  have e2 : ∀ i, i < k → (fun i => if i = k then f else F i) i = F i := fun i hi => if_neg (by omega)
  have em : (List.range (k + 1)).map (fun i => if i = k then y else V i) = (List.range k).map V ++ [y] := by
    rw [List.range_succ, List.map_append, List.map_cons, List.map_nil, if_pos rfl]
    congr 1
    exact List.map_congr_left (fun i hi => e1 i (by simpa using hi))
  have ef : (List.range (k + 1)).flatMap (fun i => if i = k then f else F i) = (List.range k).flatMap F ++ f := by
    rw [List.range_succ, List.flatMap_append, List.flatMap_cons, List.flatMap_nil, if_pos rfl, List.append_nil]
    congr 1
    rw [List.flatMap_def, List.flatMap_def]
    congr 1
    exact List.map_congr_left (fun i hi => e2 i (by simpa using hi))
  have hf2 : Fill w' g g T 1 xss.length ((List.range k).map V) := h1.below hb hg
  refine ⟨fun i => if i = k then y else V i, fun i => if i = k then f else F i, ?_, ?_, ?_, ?_, ?_⟩
  · rw [em]
    exact hf2.put_at (by simp) (by omega) y
  · intro i hi
    dsimp only
    by_cases e : i = k
    · subst e
      rw [if_pos rfl]
      obtain ⟨u, hu⟩ := hf2.cell (j := i) (by omega)
      exact World.cell?_setCell_same w' _ y hu
    · rw [if_neg e, World.cell?_setCell_other _ _ _ _ (by intro h; injection h with _ h _; exact e h.symm)]
      exact (hb.cell (p := ⟨g, i, none⟩) hg).trans (h2 i (by omega))
  · intro i hi
    dsimp only
    by_cases e : i = k
    · subst e
      rw [if_pos rfl, if_pos rfl, show xss.getD i [] = xss[i] from by simp [List.getD_eq_getElem?_getD, hk]]
      exact hs.only ho (fun b hb' => hne b (by have := hlo b hb'; omega))
    · rw [if_neg e, if_neg e]
      exact ((h3 i (by omega)).below' hb).only ho (fun b hb' => hne b (h5 b (List.mem_flatMap.2 ⟨i, by simp; omega, hb'⟩)).1)
  · rw [ef, List.nodup_append]
    exact ⟨h4, hnd, fun a ha b hb' e => by have := (h5 a ha).2; have := hlo b hb'; omega⟩
  · rw [ef]
    intro c hc
    have hsz : (w'.setCell ⟨g, k, none⟩ y).heap.size = w'.heap.size := by simp
    rcases List.mem_append.1 hc with hc | hc
    · exact ⟨(h5 c hc).1, by rw [hsz]; exact Nat.lt_of_lt_of_le (h5 c hc).2 hb.size⟩
    · exact ⟨by have := hlo c hc; omega, by rw [hsz]; exact hs.lt c hc⟩
theorem SSt.done (h : SSt E w g T xss xss.length) (hm : xss.length ≤ maxLen) : ∃ fp, Sl E.slice w (.slice (some ⟨g, 0, none⟩) xss.length xss.length) xss fp ∧ (∀ b ∈ fp, g ≤ b) ∧ fp.Nodup := by
  have hg := h.lt
  obtain ⟨V, F, h1, h2, h3, h4, h5⟩ := h
  have hr : NRows E w g 0 xss.length V (fun i => xss.getD i []) F := ⟨fun i hi => by simpa using h2 i hi, fun i _ => by simpa using h1.frozen i, h3⟩
  refine ⟨_, hr.sl hg rfl (fun i hi => by simp [List.getD_eq_getElem?_getD, hi]) (Nat.le_refl _) hm, ?_, ?_⟩
  · intro b hb
    rcases List.mem_cons.1 hb with rfl | hb
    · exact Nat.le_refl _
    · exact Nat.le_of_lt (h5 b hb).1
  · rw [List.nodup_cons]
    exact ⟨fun hm' => Nat.lt_irrefl _ (h5 _ hm').1, h4⟩
end
def preS (ns : List Nat) (i : Nat) : Nat := (ns.take i).sum
theorem preS_succ {ns : List Nat} {i : Nat} (h : i < ns.length) : preS ns (i + 1) = preS ns i + ns[i] := by
  unfold preS; rw [List.take_succ_eq_append_getElem h, List.sum_append]; simp
theorem preS_full {ns : List Nat} {i : Nat} (h : ns.length ≤ i) : preS ns i = ns.sum := by unfold preS; rw [List.take_of_length_le h]
theorem preS_le (ns : List Nat) (i : Nat) : preS ns i ≤ ns.sum := by
  have h := List.sum_append (l₁ := ns.take i) (l₂ := ns.drop i)
  rw [List.take_append_drop] at h
  unfold preS; omega
end Go.Proofs.YtgnbhcgagdfaiaaGreatDoor

namespace Go.Proofs.YtgnbhcgagdfaiaaGreatDoor
open Go.RowKit
set_option linter.unusedVariables false

theorem infoSliceR : (Tryz.prog.info? 24).map (fun i => (i.zero, i.size, i.bytes)) = some (some (.slice none 0 0), 1, 24) := by kernel_rfl
structure RowsV (w : World) (B : Nat) (v : Value) (R : List (List ByteArray)) (V : Nat → Value) (F : Nat → List Nat) : Prop where
  own : w.ownsRow B 24 1 v R.length ((List.range R.length).map V)
  rd : ∀ i, i < R.length → Sl fStr.cod w (V i) (R.getD i []) (F i)
  ap : ∀ i, i < R.length → ∀ b ∈ F i, B ≤ b ∧ v.ownBlock ≠ some b
section
variable {w w' u : World} {B : Nat} {v v' : Value} {R : List (List ByteArray)} {V : Nat → Value} {F : Nat → List Nat}
theorem ownsRow_belowR {e : TypeId} {n size : Nat} {xs : List Value} (h : w.ownsRow B e size v n xs) (hb : Below w.heap.size w w') : w'.ownsRow B e size v n xs := by
  obtain ⟨h1, h2⟩ := h
  refine ⟨h1, ?_⟩
  rcases h2 with h2 | ⟨g, cap, cur, hv, hg, hh, r⟩
  · exact .inl h2
  · have hgl : g < w.heap.size := by
      rcases Nat.lt_or_ge g w.heap.size with hlt | hge
      · exact hlt
      · rw [Array.getElem?_eq_none hge] at hh; cases hh
    exact .inr ⟨g, cap, cur, hv, hg, by rw [hb.block _ hgl]; exact hh, r⟩
theorem RowsV.below (h : RowsV w B v R V F) (hb : Below w.heap.size w w') : RowsV w' B v R V F :=
  ⟨ownsRow_belowR h.own hb, fun i hi => (h.rd i hi).below' hb, h.ap⟩
theorem RowsV.lt (h : RowsV w B v R V F) : ∀ k, v.ownBlock = some k → k < w.heap.size := fun k hk => (h.own.lt k hk).2
/-- One more row. -/
theorem RowsV.push {r : List ByteArray} {y : Value} {f : List Nat} (h : RowsV w B v R V F) (hs : Sl fStr.cod w y r f) (hf : ∀ b ∈ f, B ≤ b ∧ v.ownBlock ≠ some b)
    (hown : u.ownsRow B 24 1 v' (R.length + 1) ((List.range R.length).map V ++ [y])) (hg : w.grownBy u v.ownBlock) (hl : v'.ownBlock = v.ownBlock ∨ v'.ownBlock = some w.heap.size) :
    RowsV u B v' (R ++ [r]) (fun i => if i = R.length then y else V i) (fun i => if i = R.length then f else F i) := by
  have hlen : (R ++ [r]).length = R.length + 1 := by simp
  have keep : ∀ {x : Value} {q : List ByteArray} {ff : List Nat}, Sl fStr.cod w x q ff → (∀ b ∈ ff, v.ownBlock ≠ some b) → Sl fStr.cod u x q ff := fun hx hne =>
    hx.keep (fun b hb => hg.block b (hx.lt b hb) (fun e => hne b hb e.symm)) hg.size
  have apart : ∀ {b : Nat}, b < w.heap.size → v.ownBlock ≠ some b → v'.ownBlock ≠ some b := fun hb hne => by
    rcases hl with e | e
    · rw [e]; exact hne
    · rw [e]; intro h2; injection h2 with h2; omega
  refine ⟨?_, ?_, ?_⟩
  · rw [hlen]
    have em : (List.range (R.length + 1)).map (fun i => if i = R.length then y else V i) = (List.range R.length).map V ++ [y] := by
      rw [List.range_succ, List.map_append, List.map_cons, List.map_nil, if_pos rfl]
      congr 1
      exact List.map_congr_left (fun i hi => if_neg (by have : i < R.length := by simpa using hi
                                                        omega))
    rw [em]
    exact hown
  · intro i hi
    rw [hlen] at hi
    by_cases e : i = R.length
    · subst e
      rw [if_pos rfl, if_pos rfl, show (R ++ [r]).getD R.length [] = r from by simp]
      exact keep hs (fun b hb => (hf b hb).2)
    · have hi2 : i < R.length := by omega
      rw [if_neg e, if_neg e, show (R ++ [r]).getD i [] = R.getD i [] from by simp [List.getD_eq_getElem?_getD, List.getElem?_append_left hi2]]
      exact keep (h.rd i hi2) (fun b hb => (h.ap i hi2 b hb).2)
  · intro i hi
    rw [hlen] at hi
    by_cases e : i = R.length
    · rw [if_pos e]
      exact fun b hb => ⟨(hf b hb).1, apart (hs.lt b hb) (hf b hb).2⟩
    · have hi2 : i < R.length := by omega
      rw [if_neg e]
      exact fun b hb => ⟨(h.ap i hi2 b hb).1, apart ((h.rd i hi2).lt b hb) (h.ap i hi2 b hb).2⟩
/-- It reads as a slice of slices. -/
theorem RowsV.sl (h : RowsV w B v R V F) (h0 : 0 < R.length) : ∃ fp, Sl fStr.cod.slice w v R fp := by
  obtain ⟨h1, h2⟩ := h.own
  rcases h2 with ⟨hv, hz⟩ | ⟨g, cap, cur, hv, hg, hh, hnc, hcm, hsz, hxs⟩
  · omega
  · have hgl : g < w.heap.size := by
      rcases Nat.lt_or_ge g w.heap.size with hlt | hge
      · exact hlt
      · rw [Array.getElem?_eq_none hge] at hh; cases hh
    have hown : w.ownsRow B 24 1 (.slice (some ⟨g, 0, none⟩) R.length cap) R.length ((List.range R.length).map V) := by rw [← hv]; exact h.own
    have hr : NRows fStr.cod w g 0 R.length V (fun i => R.getD i []) F := ⟨fun i hi => by
      rw [Nat.zero_add, hown.cellAt i (by omega), List.getElem?_map, List.getElem?_range hi]; rfl, fun i _ => by rw [Nat.zero_add]; exact hown.frozenAt i, h.rd⟩
    rw [hv]
    exact ⟨_, hr.sl hgl rfl (fun i hi => by simp [List.getD_eq_getElem?_getD, hi]) hnc hcm⟩
/-- The first row. -/
theorem RowsV.first {r : List ByteArray} {y : Value} {f : List Nat} {w : World} {B : Nat} (hB : B ≤ w.heap.size) (hs : Sl fStr.cod w y r f) (hf : ∀ b ∈ f, B ≤ b) :
    RowsV (w.alloc (.cells #[y] 24)) B (.slice (some ⟨w.heap.size, 0, none⟩) 1 1) [r] (fun _ => y) (fun _ => f) := by
  refine ⟨?_, ?_, ?_⟩
  · exact World.ownsRow_lit (e := 24) (size := 1) w #[y] 1 hB (by decide) rfl
  · intro i hi
    have hi0 : i = 0 := by simpa using hi
    subst hi0
    exact hs.below' ((Below.refl _ _).alloc (Nat.le_refl _) _)
  · intro i hi b hb
    refine ⟨hf b hb, ?_⟩
    have := hs.lt b hb
    show some w.heap.size ≠ some b
    intro e; injection e with e; omega
end
end Go.Proofs.YtgnbhcgagdfaiaaGreatDoor

namespace Go.Proofs.YtgnbhcgagdfaiaaGreatDoor
open Go.RowKit


def okByte (lo hi : Int) (c : UInt8) : Bool := decide (lo ≤ (c.toNat : Int)) && decide ((c.toNat : Int) ≤ hi)
def bwAll (l : List UInt8) (lo hi : Int) : Bool := l.all (okByte lo hi)
theorem take_snoc (s : ByteArray) (k : Nat) (h : k < s.size) : s.data.toList.take (k + 1) = s.data.toList.take k ++ [s[k]] := by
  rw [List.take_succ_eq_append_getElem (by simpa using h)]; rfl
theorem bwAll_step {s : ByteArray} {k : Nat} {lo hi : Int} (h : k < s.size) (h0 : bwAll (s.data.toList.take k) lo hi = true) (h1 : lo ≤ (s[k].toNat : Int)) (h2 : (s[k].toNat : Int) ≤ hi) : bwAll (s.data.toList.take (k + 1)) lo hi = true := by
  rw [take_snoc s k h]; unfold bwAll at *; rw [List.all_append, h0]; simp [okByte, h1, h2]
theorem bwAll_bad {s : ByteArray} {k : Nat} {lo hi : Int} (h : k < s.size) (h1 : (s[k].toNat : Int) < lo ∨ hi < (s[k].toNat : Int)) : bwAll s.data.toList lo hi = false := by
  unfold bwAll
  rw [List.all_eq_false]
  refine ⟨s[k], ?_, ?_⟩
  · exact Array.mem_toList_iff.2 (Array.getElem_mem _)
  · simp [okByte]; omega
theorem bwAll_full {s : ByteArray} {k : Nat} {lo hi : Int} (h : s.size ≤ k) (h0 : bwAll (s.data.toList.take k) lo hi = true) : bwAll s.data.toList lo hi = true := by
  rwa [List.take_of_length_le (by simpa using h)] at h0

set_option maxHeartbeats 400000 in
theorem bytesWithin_any (s : ByteArray) (lo hi : Int) (w : World) (hs : s.size ≤ 9223372036854775807) :
    Calls Tryz.prog 71 #[.string s, .int .u8 lo, .int .u8 hi] w fun e w' => e = .returned (.bool (bwAll s.data.toList lo hi)) ∧ w = w' := by
  go_enter Tryz.func71, Tryz.ntmps71
  go_wp2
  go_loop [10] (fun i => ∃ k : Nat, k ≤ s.size ∧ i = .int .i64 k ∧ bwAll (s.data.toList.take k) lo hi = true) (fun i => s.size - (intOf i).toNat)
  case atStart => exact ⟨0, Nat.zero_le _, rfl, rfl⟩
  case round =>
    obtain ⟨k, hk, rfl, h0⟩ := hrel
    have H0 := Lib.hid h0
    clear h0
    by_cases hlt : k < s.size
    · go_wp2
      all_goals first
        | (go_ret; exact ⟨ret_bool (bwAll_bad hlt (by omega)).symm, rfl⟩)
        | (go_round
           case rel => exact ⟨k + 1, by omega, by go_num, bwAll_step hlt H0.out (by omega) (by omega)⟩
           case measure => simp [intOf]; omega)
    · go_wp2
      go_ret
      exact ⟨ret_bool (bwAll_full (by omega) H0.out).symm, rfl⟩

def lineB (s : ByteArray) : Bool := bwAll s.data.toList 32 126 && decide (s.size ≤ 100)

set_option maxHeartbeats 400000 in
theorem lineValid_any (s : ByteArray) (w : World) (hs : s.size ≤ 9223372036854775807) :
    Calls Tryz.prog 91 #[.string s] w fun e w' => e = .returned (.bool (lineB s)) ∧ w = w' := by
  unfold lineB
  by_cases h : s.size ≤ 100
  all_goals
    go_enter Tryz.func91, Tryz.ntmps91
    go_wp2_with (go_at_call 71; refine (bytesWithin_any _ _ _ _ hs).mono ?_; rintro e w' ⟨rfl, rfl⟩)
    go_ret
    exact ⟨ret_bool (by simp [h]), rfl⟩

set_option maxHeartbeats 400000 in
theorem l30Line_any (s : ByteArray) (w : World) (hs : s.size ≤ 9223372036854775807) :
    Calls Tryz.prog 84 #[.string s] w fun e w' => e = .returned (.bool (lineB s)) ∧ w = w' := by
  unfold lineB
  go_enter Tryz.func84, Tryz.ntmps84
  go_wp2
  go_loop [3] (fun i => ∃ k : Nat, k ≤ s.size ∧ i = .int .i64 k ∧ bwAll (s.data.toList.take k) 32 126 = true) (fun i => s.size - (intOf i).toNat)
  case atStart => exact ⟨0, Nat.zero_le _, rfl, rfl⟩
  case round =>
    obtain ⟨k, hk, rfl, h0⟩ := hrel
    have H0 := Lib.hid h0
    clear h0
    by_cases hlt : k < s.size
    · go_wp2
      all_goals first
        | (go_ret; exact ⟨ret_bool (by rw [bwAll_bad hlt (by omega)]; rfl), rfl⟩)
        | (go_round
           case rel => exact ⟨k + 1, by omega, by go_num, bwAll_step hlt H0.out (by omega) (by omega)⟩
           case measure => simp [intOf]; omega)
    · go_wp2
      all_goals
        go_ret
        exact ⟨ret_bool (by rw [bwAll_full (by omega) H0.out]; simp [*] <;> omega), rfl⟩

def linesB (l : List ByteArray) : Bool := l.all lineB && decide (l.length ≤ 200)
theorem linesAll_step {l : List ByteArray} {k : Nat} (h : k < l.length) (h0 : (l.take k).all lineB = true) (h1 : lineB l[k] = true) : (l.take (k + 1)).all lineB = true := by
  rw [List.take_succ_eq_append_getElem h, List.all_append, h0]; simp [h1]
theorem linesAll_bad {l : List ByteArray} {k : Nat} (h : k < l.length) (h1 : lineB l[k] = false) : l.all lineB = false := by
  rw [List.all_eq_false]; exact ⟨l[k], List.getElem_mem h, by simp [h1]⟩
theorem linesAll_full {l : List ByteArray} {k : Nat} (h : l.length ≤ k) (h0 : (l.take k).all lineB = true) : l.all lineB = true := by
  rwa [List.take_of_length_le h] at h0

set_option maxHeartbeats 400000 in
theorem l30Ok_any (v : Value) (xs : List ByteArray) (fp : List Nat) (w : World) (hx : Sl fStr.cod w v xs fp) :
    Calls Tryz.prog 45 #[v] w fun e w' => e = .returned (.bool (linesB xs)) ∧ w = w' := by
  unfold linesB
  obtain ⟨A, cap, rfl, hlen, hcap⟩ := hx.form
  go_enter Tryz.func45, Tryz.ntmps45
  go_wp2
  go_loop [3] (fun i => ∃ k : Nat, k ≤ xs.length ∧ i = .int .i64 k ∧ (xs.take k).all lineB = true) (fun i => xs.length - (intOf i).toNat)
  case atStart => exact ⟨0, Nat.zero_le _, rfl, rfl⟩
  case round =>
    obtain ⟨k, hk, rfl, h0⟩ := hrel
    have H0 := Lib.hid h0
    clear h0
    by_cases hlt : k < xs.length
    · obtain ⟨b, off, rfl, _, hok, hc, _⟩ := hx.cell1 rfl hlt rfl
      by_cases hb : lineB xs[k] = true
      · go_wp2_with (go_at_call 84; refine (l30Line_any _ _ hok).mono ?_; rintro e w' ⟨rfl, rfl⟩)
        all_goals
          go_round
          case rel => exact ⟨k + 1, by omega, by go_num, linesAll_step hlt H0.out hb⟩
          case measure => simp [intOf]; omega
      · have hb' : lineB xs[k] = false := by simpa using hb
        go_wp2_with (go_at_call 84; refine (l30Line_any _ _ hok).mono ?_; rintro e w' ⟨rfl, rfl⟩)
        go_ret
        exact ⟨ret_bool (by rw [linesAll_bad hlt hb']; rfl), rfl⟩
    · go_wp2
      all_goals
        go_ret
        exact ⟨ret_bool (by rw [linesAll_full (by omega) H0.out]; simp [*] <;> omega), rfl⟩


set_option maxRecDepth 100000 in
set_option maxHeartbeats 400000 in
theorem specValidReport_any (v : Value) (xs : List ByteArray) (fp : List Nat) (w : World) (hx : Sl fStr.cod w v xs fp) :
    Calls Tryz.prog 17 #[v] w fun e w' => e = .returned (.bool (linesB xs)) ∧ w = w' := by
  go_enter Tryz.func17, Tryz.ntmps17
  go_wp2_with (go_at_call 45; refine (l30Ok_any _ _ _ _ hx).mono ?_; rintro e w' ⟨rfl, rfl⟩)
  go_ret
  exact ⟨rfl, rfl⟩

set_option maxRecDepth 100000 in
set_option maxHeartbeats 400000 in
theorem implValidReport_any (v : Value) (xs : List ByteArray) (fp : List Nat) (w : World) (hx : Sl fStr.cod w v xs fp) :
    Calls Tryz.prog 50 #[v] w fun e w' => e = .returned (.bool (linesB xs)) ∧ w = w' := by
  unfold linesB
  obtain ⟨A, cap, rfl, hlen, hcap⟩ := hx.form
  by_cases hl : xs.length ≤ 200
  · go_enter Tryz.func50, Tryz.ntmps50
    go_wp2
    go_loop [10] (fun i => ∃ k : Nat, k ≤ xs.length ∧ i = .int .i64 k ∧ (xs.take k).all lineB = true) (fun i => xs.length - (intOf i).toNat)
    case atStart => exact ⟨0, Nat.zero_le _, rfl, rfl⟩
    case round =>
      obtain ⟨k, hk, rfl, h0⟩ := hrel
      have H0 := Lib.hid h0
      clear h0
      by_cases hlt : k < xs.length
      · obtain ⟨b, off, rfl, _, hok, hc, _⟩ := hx.cell1 rfl hlt rfl
        by_cases hb : lineB xs[k] = true
        · go_wp2_with (go_at_call 91; refine (lineValid_any _ _ hok).mono ?_; rintro e w' ⟨rfl, rfl⟩)
          go_round
          case rel => exact ⟨k + 1, by omega, by go_num, linesAll_step hlt H0.out hb⟩
          case measure => simp [intOf]; omega
        · have hb' : lineB xs[k] = false := by simpa using hb
          go_wp2_with (go_at_call 91; refine (lineValid_any _ _ hok).mono ?_; rintro e w' ⟨rfl, rfl⟩)
          go_ret
          exact ⟨ret_bool (by rw [linesAll_bad hlt hb']; rfl), rfl⟩
      · go_wp2
        go_ret
        exact ⟨ret_bool (by rw [linesAll_full (by omega) H0.out] <;> simp [hl]), rfl⟩
  · go_enter Tryz.func50, Tryz.ntmps50
    go_wp2
    go_ret
    exact ⟨ret_bool (by simp <;> omega), rfl⟩

end Go.Proofs.YtgnbhcgagdfaiaaGreatDoor

namespace Go.Proofs.YtgnbhcgagdfaiaaGreatDoor
open Go.RowKit
set_option linter.unusedVariables false

/-! ### Tables as lines: plain laws -/
def spN (n : Nat) : List UInt8 := List.replicate n 32
/-- Cell k of a row, empty behind its end. -/
def cellA (r : List ByteArray) (k : Nat) : ByteArray := r[k]?.getD ⟨#[]⟩
/-- The width of column k. -/
def wdN (rows : List (List ByteArray)) (k : Nat) : Nat := rows.foldl (fun m r => max m (cellA r k).size) 0
theorem wdN_snoc {rows : List (List ByteArray)} {i : Nat} (h : i < rows.length) (k : Nat) : wdN (rows.take (i + 1)) k = max (wdN (rows.take i) k) (cellA rows[i] k).size := by
  unfold wdN; rw [List.take_succ_eq_append_getElem h, List.foldl_append]; rfl
theorem foldl_ge (k : Nat) : ∀ (rows : List (List ByteArray)) (a : Nat), a ≤ rows.foldl (fun m r => max m (cellA r k).size) a
  | [], a => Nat.le_refl _
  | r :: rows, a => by rw [List.foldl_cons]; exact Nat.le_trans (Nat.le_max_left _ _) (foldl_ge k rows _)
theorem foldl_mem (k : Nat) : ∀ (rows : List (List ByteArray)) (a : Nat), ∀ r ∈ rows, (cellA r k).size ≤ rows.foldl (fun m r => max m (cellA r k).size) a
  | [], a, r, h => by cases h
  | q :: rows, a, r, h => by
    rw [List.foldl_cons]
    rcases List.mem_cons.1 h with rfl | h
    · exact Nat.le_trans (Nat.le_max_right _ _) (foldl_ge k rows _)
    · exact foldl_mem k rows _ r h
theorem foldl_le {B : Nat} (k : Nat) : ∀ (rows : List (List ByteArray)) (a : Nat), a ≤ B → (∀ r ∈ rows, (cellA r k).size ≤ B) → rows.foldl (fun m r => max m (cellA r k).size) a ≤ B
  | [], a, h, _ => h
  | q :: rows, a, h, h2 => by
    rw [List.foldl_cons]
    exact foldl_le k rows _ (Nat.max_le.2 ⟨h, h2 q (by simp)⟩) (fun r hr => h2 r (by simp [hr]))
theorem wdN_mem {rows : List (List ByteArray)} {r : List ByteArray} (h : r ∈ rows) (k : Nat) : (cellA r k).size ≤ wdN rows k := foldl_mem k rows 0 r h
theorem wdN_le {B : Nat} {rows : List (List ByteArray)} (h : ∀ r ∈ rows, ∀ c ∈ r, c.size ≤ B) (k : Nat) : wdN rows k ≤ B := by
  refine foldl_le k rows 0 (Nat.zero_le _) fun r hr => ?_
  unfold cellA
  cases hk : r[k]? with
  | none => show (ByteArray.mk #[]).size ≤ B; exact Nat.zero_le _
  | some c => exact h r hr c (List.mem_of_getElem? hk)
/-- The widths while row i is being looked at, its cells below k done. -/
def wdAt (rows : List (List ByteArray)) (i k j : Nat) : Nat := if j < k then wdN (rows.take (i + 1)) j else wdN (rows.take i) j
theorem wdAt_zero (rows : List (List ByteArray)) (i j : Nat) : wdAt rows i 0 j = wdN (rows.take i) j := by unfold wdAt; rw [if_neg (by omega)]
theorem wdAt_full {rows : List (List ByteArray)} {i : Nat} (h : i < rows.length) {k : Nat} (hk : rows[i].length ≤ k) (j : Nat) : wdAt rows i k j = wdN (rows.take (i + 1)) j := by
  unfold wdAt
  split
  · rfl
  · rename_i hj
    rw [wdN_snoc h]
    have : cellA rows[i] j = ⟨#[]⟩ := by unfold cellA; rw [List.getElem?_eq_none (by omega)]; rfl
    rw [this]
    show _ = max _ 0
    omega
theorem wdAt_step {rows : List (List ByteArray)} {i : Nat} (h : i < rows.length) (k j : Nat) : wdAt rows i (k + 1) j = if j = k then max (wdAt rows i k j) (cellA rows[i] k).size else wdAt rows i k j := by
  unfold wdAt
  by_cases e : j = k
  · subst e
    rw [if_pos (by omega), if_pos rfl, if_neg (by omega), wdN_snoc h]
  · rw [if_neg e]
    by_cases hj : j < k
    · rw [if_pos hj, if_pos (by omega)]
    · rw [if_neg hj, if_neg (by omega)]
theorem cellA_at {r : List ByteArray} {k : Nat} (h : k < r.length) : cellA r k = r[k] := by unfold cellA; rw [List.getElem?_eq_getElem h]; rfl
/-- The piece of a line that the program writes for cell j, and the reference's. -/
def pcI (wd : Nat → Nat) (r : List ByteArray) (j : Nat) : List UInt8 := (cellA r j).data.toList ++ spN (wd j - (cellA r j).size + 2)
def pcS (wd : Nat → Nat) (r : List ByteArray) (j : Nat) : List UInt8 := (if j = 0 then [] else [32, 32]) ++ (cellA r j).data.toList ++ spN (wd j - (cellA r j).size)
def rawI (wd : Nat → Nat) (r : List ByteArray) (k : Nat) : List UInt8 := (List.range k).flatMap (pcI wd r)
def rawS (wd : Nat → Nat) (r : List ByteArray) (k : Nat) : List UInt8 := (List.range k).flatMap (pcS wd r)
theorem rawI_step (wd : Nat → Nat) (r : List ByteArray) (k : Nat) : rawI wd r (k + 1) = rawI wd r k ++ pcI wd r k := by unfold rawI; rw [List.range_succ, List.flatMap_append]; simp
theorem rawS_step (wd : Nat → Nat) (r : List ByteArray) (k : Nat) : rawS wd r (k + 1) = rawS wd r k ++ pcS wd r k := by unfold rawS; rw [List.range_succ, List.flatMap_append]; simp
theorem raw_eq (wd : Nat → Nat) (r : List ByteArray) : ∀ k, rawI wd r (k + 1) = rawS wd r (k + 1) ++ [32, 32]
  | 0 => by rw [rawI_step, rawS_step]; show [] ++ pcI wd r 0 = [] ++ pcS wd r 0 ++ [32, 32]; unfold pcI pcS spN; rw [if_pos rfl, List.replicate_succ', List.replicate_succ']; simp
  | k + 1 => by
    rw [rawI_step wd r (k + 1), raw_eq wd r k, rawS_step wd r (k + 1)]
    unfold pcI pcS spN
    rw [if_neg (by omega), List.replicate_succ', List.replicate_succ']
    simp
theorem trim_sp (l : List UInt8) : Lib.trimRightB (l ++ [32]) 32 = Lib.trimRightB l 32 := by unfold Lib.trimRightB; rw [List.reverse_append]; simp
theorem trim_raw (wd : Nat → Nat) (r : List ByteArray) (k : Nat) : Lib.trimRightB (rawI wd r k) 32 = Lib.trimRightB (rawS wd r k) 32 := by
  cases k with
  | zero => rfl
  | succ k => rw [raw_eq, show rawS wd r (k + 1) ++ [32, 32] = (rawS wd r (k + 1) ++ [32]) ++ [32] by simp, trim_sp, trim_sp]
def lineF (wd : Nat → Nat) (r : List ByteArray) : ByteArray := ⟨(Lib.trimRightB (rawI wd r r.length) 32).toArray⟩
def tabF (rows : List (List ByteArray)) : List ByteArray := rows.map (lineF (wdN rows))
def cellOk (c : ByteArray) : Bool := bwAll c.data.toList 33 126
def rowOk (r : List ByteArray) : Bool := decide (r.length ≤ 12) && r.all cellOk
def rowsOk (rows : List (List ByteArray)) : Bool := rows.all rowOk
theorem trim_len (l : List UInt8) (c : UInt8) : (Lib.trimRightB l c).length ≤ l.length := by
  unfold Lib.trimRightB; rw [List.length_reverse]; exact Nat.le_trans (List.dropWhile_sublist _).length_le (by simp)
theorem pcI_len {wd : Nat → Nat} {r : List ByteArray} {B : Nat} (j : Nat) (h : wd j ≤ B) (h2 : (cellA r j).size ≤ B) : (pcI wd r j).length ≤ 2 * B + 2 := by
  unfold pcI spN; rw [List.length_append, List.length_replicate, show (cellA r j).data.toList.length = (cellA r j).size by simp]; omega
theorem rawI_len {wd : Nat → Nat} {r : List ByteArray} {B : Nat} (h : ∀ j, wd j ≤ B) (h2 : ∀ j, (cellA r j).size ≤ B) : ∀ k, (rawI wd r k).length ≤ (2 * B + 2) * k
  | 0 => Nat.zero_le _
  | k + 1 => by rw [rawI_step, List.length_append, Nat.mul_succ]; have := rawI_len h h2 k; have := pcI_len (wd := wd) (r := r) k (h k) (h2 k); omega
theorem rawS_len {wd : Nat → Nat} {r : List ByteArray} {B : Nat} (h : ∀ j, wd j ≤ B) (h2 : ∀ j, (cellA r j).size ≤ B) (k : Nat) : (rawS wd r k).length ≤ (2 * B + 2) * k := by
  cases k with
  | zero => exact Nat.zero_le _
  | succ k => have := rawI_len h h2 (k + 1); rw [raw_eq, List.length_append] at this; omega
theorem cellA_le {r : List ByteArray} {B : Nat} (h : ∀ c ∈ r, c.size ≤ B) (j : Nat) : (cellA r j).size ≤ B := by
  unfold cellA
  cases hk : r[j]? with
  | none => show (ByteArray.mk #[]).size ≤ B; exact Nat.zero_le _
  | some c => exact h c (List.mem_of_getElem? hk)
/-- One byte fewer at the end. -/
theorem trim_cut {l : List UInt8} {k : Nat} (h : l[k]? = some 32) : Lib.trimRightB (l.take (k + 1)) 32 = Lib.trimRightB (l.take k) 32 := by
  obtain ⟨hk, e⟩ := List.getElem?_eq_some_iff.1 h
  rw [List.take_succ_eq_append_getElem hk, e, trim_sp]
theorem trim_stop {l : List UInt8} {k : Nat} {b : UInt8} (h : l[k]? = some b) (hb : b ≠ 32) : Lib.trimRightB (l.take (k + 1)) 32 = l.take (k + 1) := by
  obtain ⟨hk, e⟩ := List.getElem?_eq_some_iff.1 h
  rw [List.take_succ_eq_append_getElem hk, e]
  unfold Lib.trimRightB
  rw [List.reverse_append]
  have : (b == (32 : UInt8)) = false := beq_eq_false_iff_ne.2 hb
  simp [this]

end Go.Proofs.YtgnbhcgagdfaiaaGreatDoor

namespace Go.Proofs.YtgnbhcgagdfaiaaGreatDoor
open Go.RowKit
set_option linter.unusedVariables false

structure DGroup where
  id : ByteArray
  people : Int
  guides : Int
  beacons : Int
  shovels : Int
  probes : Int
  skill : Int
  deriving DecidableEq

def fGroup : Flat DGroup where
  n := 7
  enc := fun x => [.string x.id, .int .i64 x.people, .int .i64 x.guides, .int .i64 x.beacons, .int .i64 x.shovels, .int .i64 x.probes, .int .i64 x.skill]
  ok := fun x => fStr.ok x.id ∧ fInt.ok x.people ∧ fInt.ok x.guides ∧ fInt.ok x.beacons ∧ fInt.ok x.shovels ∧ fInt.ok x.probes ∧ fInt.ok x.skill
  pos := by omega
  len := fun _ => rfl
  one := by intro x v hv; simp at hv; rcases hv with rfl | rfl | rfl | rfl | rfl | rfl | rfl <;> rfl

def totGroup (x : DGroup) : Nat := x.id.size
def totGroupS (xs : List DGroup) : Nat := xs.length + (xs.map totGroup).sum






def mkGroup (k : Int) : DGroup := ⟨mt (k), k + 1, k + 1 + 1, k + 1 + 1 + 1, k + 1 + 1 + 1 + 1, k + 1 + 1 + 1 + 1 + 1, k + 1 + 1 + 1 + 1 + 1 + 1⟩
def marksGroup (k : Int) (n : Nat) : List DGroup := (List.range n).map fun (i : Nat) => mkGroup (k + 7 * (i : Int))

theorem marksGroup_get (k0 : Int) (n i : Nat) (h : i < (marksGroup k0 n).length) : (marksGroup k0 n)[i] = mkGroup (k0 + 7 * (i : Int)) := by
  simp [marksGroup]
theorem marksGroup_len (k0 : Int) (n : Nat) : (marksGroup k0 n).length = n := by simp [marksGroup]



end Go.Proofs.YtgnbhcgagdfaiaaGreatDoor
