/- Parts of the proof: Dc, Lv. -/
import Derived.Test.YtgnbhcgagdfaiaaGreatDoorG02
import Derived.Test.YtgnbhcgagdfaiaaGreatDoorG03
import Derived.Test.YtgnbhcgagdfaiaaGreatDoorG01
namespace Go.Proofs.YtgnbhcgagdfaiaaGreatDoor
open Go.RowKit
set_option linter.unusedVariables false

theorem rem4 {y : Int} (h : 0 ≤ y) : (y % 4 == 0) = (leapI y == 1) := by
  unfold leapI
  by_cases e : y % 4 = 0
  · rw [if_pos e, e]; rfl
  · rw [if_neg e, beq_eq_false_iff_ne.2 e]; rfl
/-- The days of a month of a year without a day more. -/
def lenT (m : Int) : Int := if m = 0 then 365 else if m = 2 then 28 else if m = 4 ∨ m = 6 ∨ m = 9 ∨ m = 11 then 30 else 31
theorem monthC0 {m : Int} (h1 : 0 ≤ m) (h2 : m ≤ 12) : m = 0 ∨ m = 1 ∨ m = 2 ∨ m = 3 ∨ m = 4 ∨ m = 5 ∨ m = 6 ∨ m = 7 ∨ m = 8 ∨ m = 9 ∨ m = 10 ∨ m = 11 ∨ m = 12 := by omega
theorem lenM_plain {y m : Int} (h : ¬ (leapI y = 1 ∧ (m = 0 ∨ m = 2))) : lenM y m = lenT m := by
  have := leapI_01 y
  unfold lenM lenT
  repeat' split
  all_goals omega
theorem lenM_more {y m : Int} (h : leapI y = 1 ∧ (m = 0 ∨ m = 2)) : lenM y m = lenT m + 1 := by
  unfold lenM lenT
  repeat' split
  all_goals omega
theorem lenT_range (m : Int) : 28 ≤ lenT m ∧ lenT m ≤ 365 := by
  unfold lenT
  repeat' split
  all_goals omega
theorem daysTab (m : Int) (h1 : 0 ≤ m) (h2 : m ≤ 12) (W : World) : (Instr.index 181 (.agg #[.int .i64 365, .int .i64 31, .int .i64 28, .int .i64 31, .int .i64 30, .int .i64 31, .int .i64 30, .int .i64 31, .int .i64 31, .int .i64 30, .int .i64 31, .int .i64 30, .int .i64 31]) (.int .i64 m)).run Tryz.prog W = .ok (.int .i64 (lenT m)) W := by
  rcases monthC0 h1 h2 with h | h | h | h | h | h | h | h | h | h | h | h | h <;> subst h <;> simp [Instr.index, run_underlying Tryz.underlying181, asIntOf, go_sem, lenT]
set_option maxRecDepth 100000 in
set_option maxHeartbeats 2000000 in
theorem daysIn_any (y m : Int) (w : World) (hy : 0 ≤ y) (hm : 0 ≤ m) (hm2 : m ≤ 12) :
    Calls Tryz.prog 124 #[.int .i64 y, .int .i64 m] w fun e w' => e = .returned (.int .i64 (lenM y m)) ∧ w = w' := by
  have hix := daysTab m hm hm2
  have hr := lenT_range m
  have h4 := rem4 hy
  by_cases hl : leapI y = 1
  · by_cases hc : m = 0 ∨ m = 2
    · have HR := Lib.hid (lenM_more ⟨hl, hc⟩)
      have e4 : (y % 4 == 0) = true := by rw [h4, hl]; rfl
      have e1 : wrap64 (lenT m + 1) = lenT m + 1 := by unfold wrap64; omega
      rcases hc with hc | hc
      · have e0 : (m == 0) = true := by rw [hc]; rfl
        clear h4 hl hc
        generalize lenT m = t at *
        go_enter Tryz.func124, Tryz.ntmps124
        go_wp2
        go_ret
        exact ⟨ret_int HR.out.symm, rfl⟩
      · have e0 : (m == 0) = false := by rw [hc]; rfl
        have e2 : (m == 2) = true := by rw [hc]; rfl
        clear h4 hl hc
        generalize lenT m = t at *
        go_enter Tryz.func124, Tryz.ntmps124
        go_wp2
        go_ret
        exact ⟨ret_int HR.out.symm, rfl⟩
    · have HR := Lib.hid (lenM_plain (y := y) (m := m) (fun h => hc h.2))
      have e4 : (y % 4 == 0) = true := by rw [h4, hl]; rfl
      have e0 : (m == 0) = false := by rw [beq_eq_false_iff_ne]; omega
      have e2 : (m == 2) = false := by rw [beq_eq_false_iff_ne]; omega
      clear h4 hl hc
      generalize lenT m = t at *
      go_enter Tryz.func124, Tryz.ntmps124
      go_wp2
      go_ret
      exact ⟨ret_int HR.out.symm, rfl⟩
  · have HR := Lib.hid (lenM_plain (y := y) (m := m) (fun h => hl h.1))
    have hl0 : leapI y = 0 := by rcases leapI_01 y with h | h; exact h; exact absurd h hl
    have e4 : (y % 4 == 0) = false := by rw [h4, hl0]; rfl
    clear h4 hl hl0
    generalize lenT m = t at *
    go_enter Tryz.func124, Tryz.ntmps124
    go_wp2
    go_ret
    exact ⟨ret_int HR.out.symm, rfl⟩
theorem two_cell {n : Int} (h0 : 0 ≤ n) (h1 : n < 100) : ((UInt8.ofNat (48 + n.toNat / 10)).toNat : Int) = 48 + n / 10 ∧ ((UInt8.ofNat (48 + n.toNat % 10)).toNat : Int) = 48 + n % 10 := by
  rw [UInt8.toNat_ofNat', UInt8.toNat_ofNat']
  omega
set_option maxRecDepth 100000 in
set_option maxHeartbeats 1000000 in
theorem twoDigits_any (n : Int) (w : World) (h0 : 0 ≤ n) (h1 : n < 100) :
    Calls Tryz.prog 83 #[.int .i64 n] w fun e w' => e = .returned (.string ⟨(two n).toArray⟩) ∧ Below w.heap.size w w' := by
  obtain ⟨e1, e2⟩ := two_cell h0 h1
  have hown : Own fByte (w.alloc (.cells #[.int .u8 ((UInt8.ofNat (48 + n.toNat / 10)).toNat : Int), .int .u8 ((UInt8.ofNat (48 + n.toNat % 10)).toNat : Int)] 5)) w.heap.size 5 (.slice (some ⟨w.heap.size, 0, none⟩) 2 2) (two n) := World.ownsRow_lit w _ 2 (Nat.le_refl _) (by unfold maxLen; omega) rfl
  have hcv := hown.text
  rw [e1, e2] at hcv
  clear hown e1 e2
  generalize two n = t at *
  go_enter Tryz.func83, Tryz.ntmps83
  go_wp2
  go_ret
  exact ⟨rfl, (Below.refl _ _).alloc (Nat.le_refl _) _⟩
set_option maxRecDepth 100000 in
set_option maxHeartbeats 2000000 in
theorem dayValid_any (n : Int) (w : World) : Calls Tryz.prog 120 #[.int .i64 n] w fun e w' => e = .returned (.bool (inB n 0 36524)) ∧ w = w' := by
  go_enter Tryz.func120, Tryz.ntmps120
  go_wp2_with (go_at_call 101; refine (withinB_any _ _ _ _).mono ?_; rintro e w' ⟨rfl, rfl⟩)
  go_ret
  exact ⟨rfl, rfl⟩
set_option maxRecDepth 100000 in
set_option maxHeartbeats 2000000 in
theorem DateOf_any (y m d n : Int) (w : World) (h : dateOk y m d) (hn : n = numD y m d) :
    Calls Tryz.prog 82 #[.int .i64 n] w fun e w' => e = .returned (.tuple #[.int .i64 y, .int .i64 m, .int .i64 d, .int .i64 0]) ∧ w = w' := by
  have hb := numD_bounds h
  have hin : inB n 0 36524 = true := inB_true.2 (by omega)
  have hyl := year_le h
  have HY := Lib.hid (fun (t r : Int) (ht : t ≤ y) (hr : r = numD y m d - yB t) => year_go h ht hr)
  have HM := Lib.hid (fun (t r : Int) (h0 : 1 ≤ t) (ht : t ≤ m) (hr : r = cumM y m + d - 1 - cumM y t) => month_go h h0 ht hr)
  have HR := Lib.hid (yB_rest n)
  obtain ⟨⟨hy0, hy1⟩, ⟨hm0, hm1⟩, hd0, hd1⟩ := h
  have hst : Hid (∀ t : Int, yB (t + 1) = yB t + lenM t 0) := yB_step
  have hcs : Hid (∀ t : Int, 1 ≤ t → t ≤ 12 → cumM y (t + 1) = cumM y t + lenM y t) := fun t h1 h2 => cumM_step y h1 h2
  have hl0b : Hid (∀ t : Int, 365 ≤ lenM t 0 ∧ lenM t 0 ≤ 366) := fun t => by rw [lenM_zero]; have := leapI_01 t; omega
  have hlb : Hid (∀ t : Int, 1 ≤ t → t ≤ 12 → 28 ≤ lenM y t ∧ lenM y t ≤ 31) := fun t h1 h2 => lenM_pos y h1 h2
  have hlen := lenM_pos y hm0 hm1
  have HD := Lib.hid (show numD y m d = yB y + cumM y m + d - 1 from rfl)
  have HN := Lib.hid hn
  rw [← hn] at hb hyl
  clear hn
  go_enter Tryz.func82, Tryz.ntmps82
  go_wp2_with first | (go_at_call 120; refine (dayValid_any _ _).mono ?_; rintro e w' ⟨rfl, rfl⟩) | (go_at_call 124; refine (daysIn_any _ _ _ (by omega) (by omega) (by omega)).mono ?_; rintro e w' ⟨rfl, rfl⟩)
  go_loop [6, 7] (fun a b => ∃ t : Int, a = .int .i64 t ∧ 2000 ≤ t ∧ t ≤ y ∧ ∃ r : Int, b = .int .i64 r ∧ 0 ≤ r ∧ r ≤ 40000 ∧ Hid (r = numD y m d - yB t)) (fun a _ => (y - intOf a).toNat)
  case atStart => exact ⟨_, rfl, by omega, by omega, _, rfl, by omega, by omega, by have := HR.out; have := HN.out; show _ = _; omega⟩
  case round =>
    obtain ⟨t, rfl, ht0, ht1, r, rfl, hr0, hr1, HQ⟩ := hrel
    have hg := (HY.out t r ht1 HQ.out).2
    have hl := hl0b.out t
    by_cases hlt : t < y
    · have hge : lenM t 0 ≤ r := hg.2 hlt
      clear hg
      go_wp2_with (go_at_call 124; refine (daysIn_any _ _ _ (by omega) (by omega) (by omega)).mono ?_; rintro e w' ⟨rfl, rfl⟩)
      go_round
      case rel => exact ⟨t + 1, by go_num, by omega, by omega, r - lenM t 0, by go_num, by omega, by omega, by have := HQ.out; have := hst.out t; show _ = _; omega⟩
      case measure => simp [intOf]; omega
    · have hge : ¬ lenM t 0 ≤ r := fun e => hlt (hg.1 e)
      clear hg
      obtain rfl : t = y := by omega
      have HQ1 : Hid (r = cumM t m + d - 1 - cumM t 1) := by have := HQ.out; have := HD.out; have := cumM_one t; show _ = _; omega
      go_wp2_with (go_at_call 124; refine (daysIn_any _ _ _ (by omega) (by omega) (by omega)).mono ?_; rintro e w' ⟨rfl, rfl⟩)
      go_loop [7, 8] (fun b a => ∃ u : Int, a = .int .i64 u ∧ 1 ≤ u ∧ u ≤ m ∧ ∃ r : Int, b = .int .i64 r ∧ 0 ≤ r ∧ r ≤ 40000 ∧ Hid (r = cumM t m + d - 1 - cumM t u)) (fun _ a => (m - intOf a).toNat)
      case atStart => exact ⟨1, rfl, by omega, by omega, _, rfl, by omega, by omega, HQ1⟩
      case round =>
        obtain ⟨u, rfl, hu0, hu1, r2, rfl, hr20, hr21, HQ2⟩ := hrel
        have hg := (HM.out u r2 hu0 hu1 HQ2.out).2
        have hl2 := hlb.out u (by omega) (by omega)
        by_cases hlt : u < m
        · have hge : lenM t u ≤ r2 := hg.2 hlt
          clear hg
          go_wp2_with (go_at_call 124; refine (daysIn_any _ _ _ (by omega) (by omega) (by omega)).mono ?_; rintro e w' ⟨rfl, rfl⟩)
          go_round
          case rel => exact ⟨u + 1, by go_num, by omega, by omega, r2 - lenM t u, by go_num, by omega, by omega, by have := HQ2.out; have := hcs.out u (by omega) (by omega); show _ = _; omega⟩
          case measure => simp [intOf]; omega
        · have hge : ¬ lenM t u ≤ r2 := fun e => hlt (hg.1 e)
          clear hg
          obtain rfl : u = m := by omega
          obtain rfl : r2 = d - 1 := by have := HQ2.out; omega
          have e1 : wrap64 (d - 1 + 1) = d := by unfold wrap64; omega
          have e2 : d - 1 + 1 = d := by omega
          go_wp2_with (go_at_call 124; refine (daysIn_any _ _ _ (by omega) (by omega) (by omega)).mono ?_; rintro e w' ⟨rfl, rfl⟩)
          exact bodyPost_ret (v := .tuple #[.int .i64 t, .int .i64 u, .int .i64 d, .int .i64 0]) (by simp [results, *, Tryz.results82, go_sem]) rfl ⟨rfl, rfl⟩
def dayS (y m d : Int) : ByteArray := ⟨(dayL y m d).toArray⟩
theorem dayS_size {y m d : Int} (h : dateOk y m d) : (dayS y m d).size = 10 := by unfold dayS; rw [mkL_size, dayL_len h]
theorem dayS_cat (y m d : Int) : decS y ++ ⟨#[45]⟩ ++ ⟨(two m).toArray⟩ ++ ⟨#[45]⟩ ++ ⟨(two d).toArray⟩ = dayS y m d := by
  have e45 : (⟨#[45]⟩ : ByteArray) = ⟨([45] : List UInt8).toArray⟩ := rfl
  unfold dayS dayL decS
  rw [e45, bytesL_append, bytesL_append, bytesL_append, bytesL_append]
theorem two_size (n : Int) : (⟨(two n).toArray⟩ : ByteArray).size = 2 := rfl
set_option maxRecDepth 100000 in
set_option maxHeartbeats 2000000 in
theorem DateText_any (y m d n : Int) (w : World) (h : dateOk y m d) (hn : n = numD y m d) (ht : Tab10 w) :
    Calls Tryz.prog 44 #[.int .i64 n] w fun e w' => e = .returned (.string (dayS y m d)) ∧ Below w.heap.size w w' := by
  have hy := h.1
  have hm := h.2.1
  have hd := h.2.2
  have hl := lenM_pos y hm.1 hm.2
  have HC := Lib.hid (dayS_cat y m d)
  generalize dayS y m d = RES at *
  have hs4 : (decS y).size = 4 := by rw [decS_size, yearL hy.1 hy.2]; rfl
  have hsm := two_size m
  have hsd := two_size d
  have hDO := fun w => DateOf_any y m d n w h hn
  obtain ⟨hy1, hy2⟩ := hy
  obtain ⟨hm1, hm2⟩ := hm
  obtain ⟨hd1, hd2⟩ := hd
  have hd3 : d ≤ 31 := by omega
  clear h hn hd2 hl
  go_enter Tryz.func44, Tryz.ntmps44
  go_wp2_with fail
  refine (hDO _).mono ?_
  rintro e w' ⟨rfl, rfl⟩
  go_wp2_with fail
  refine (Decimal_any y _ (by omega) (by omega) ht).mono ?_
  rintro e w1 ⟨rfl, hb1⟩
  generalize decS y = Y at *
  go_wp2_with fail
  refine (twoDigits_any m _ (by omega) (by omega)).mono ?_
  rintro e w2 ⟨rfl, hb2⟩
  generalize (⟨(two m).toArray⟩ : ByteArray) = M at *
  go_wp2_with fail
  refine (twoDigits_any d _ (by omega) (by omega)).mono ?_
  rintro e w3 ⟨rfl, hb3⟩
  generalize (⟨(two d).toArray⟩ : ByteArray) = Z at *
  go_wp2
  go_ret
  exact ⟨ret_str HC.out, hb1.trans ((hb2.mono hb1.size).trans (hb3.mono (Nat.le_trans hb1.size hb2.size)))⟩
theorem fN_range {l : List UInt8} (h : l.length ≤ 4) : -1 ≤ fN l ∧ fN l ≤ 1000000 := by
  cases hd : l.all digB
  · rw [fN_bad hd]; omega
  · rw [fN_ok hd]
    have := valL_lt l 0 0 hd (by decide)
    have h2 : 10 ^ (0 + l.length) ≤ 10 ^ 4 := Nat.pow_le_pow_right (by decide) (by omega)
    have h3 : (10 : Nat) ^ 4 = 10000 := by decide
    omega
theorem ex_y (s : ByteArray) : (s.extract 0 4).data.toList = s.data.toList.take 4 := by rw [extract_toList, List.drop_zero]
theorem ex_m (s : ByteArray) : (s.extract 5 7).data.toList = (s.data.toList.take 7).drop 5 := by rw [extract_toList]
theorem ex_d (s : ByteArray) : (s.extract 8 s.size).data.toList = s.data.toList.drop 8 := by rw [extract_toList, List.take_of_length_le (by simp)]
theorem f_range (s : ByteArray) (h : s.size = 10) : (-1 ≤ yF s.data.toList ∧ yF s.data.toList ≤ 1000000) ∧ (-1 ≤ mF s.data.toList ∧ mF s.data.toList ≤ 1000000) ∧ (-1 ≤ dF s.data.toList ∧ dF s.data.toList ≤ 1000000) := by
  have hl : s.data.toList.length = 10 := by simpa using h
  unfold yF mF dF
  exact ⟨fN_range (by rw [List.length_take]; omega), fN_range (by rw [List.length_drop, List.length_take]; omega), fN_range (by rw [List.length_drop]; omega)⟩
theorem lenCell (w : World) (T : TypeId) (k : Nat) (h : k < 12) : (w.alloc (.cells #[.int .i64 31, .int .i64 28, .int .i64 31, .int .i64 30, .int .i64 31, .int .i64 30, .int .i64 31, .int .i64 31, .int .i64 30, .int .i64 31, .int .i64 30, .int .i64 31] T)).cell? ⟨w.heap.size, k, none⟩ = some (.int .i64 (lenT ((k : Int) + 1))) := by
  rw [World.cell?_alloc_at _ _ _ _ rfl]
  have : k = 0 ∨ k = 1 ∨ k = 2 ∨ k = 3 ∨ k = 4 ∨ k = 5 ∨ k = 6 ∨ k = 7 ∨ k = 8 ∨ k = 9 ∨ k = 10 ∨ k = 11 := by omega
  rcases this with h | h | h | h | h | h | h | h | h | h | h | h <;> subst h <;> rfl
set_option maxRecDepth 100000 in
set_option maxHeartbeats 2000000 in
theorem l02Length_any (y m : Int) (w : World) (hy : 0 ≤ y) (h1 : 1 ≤ m) (h2 : m ≤ 12) :
    Calls Tryz.prog 125 #[.int .i64 y, .int .i64 m] w fun e w' => e = .returned (.int .i64 (lenM y m)) ∧ Below w.heap.size w w' := by
  have h4 := rem4 hy
  by_cases hc : leapI y = 1 ∧ m = 2
  · have e4 : (y % 4 == 0) = true := by rw [h4, hc.1]; rfl
    have e2 : (m == 2) = true := by rw [hc.2]; rfl
    have HR : Hid (lenM y m = 29) := by show _ = _; rw [lenM_more ⟨hc.1, .inr hc.2⟩, hc.2]; rfl
    clear h4 hc
    go_enter Tryz.func125, Tryz.ntmps125
    go_wp2
    go_ret
    exact ⟨ret_int HR.out.symm, (Below.refl _ _).alloc (Nat.le_refl _) _⟩
  · have HR := Lib.hid (lenM_plain (y := y) (m := m) (fun h => by rcases h.2 with e | e; omega; exact hc ⟨h.1, e⟩))
    obtain ⟨k, rfl⟩ : ∃ k : Nat, m = (k : Int) + 1 := ⟨(m - 1).toNat, by omega⟩
    have hk : k < 12 := by omega
    have hcell := fun W T => lenCell W T k hk
    have e5 : (k : Int) + 1 - 1 = k := by omega
    have hlr := lenT_range ((k : Int) + 1)
    generalize lenT ((k : Int) + 1) = t at *
    by_cases hm2 : (k : Int) + 1 = 2
    · have e2 : ((k : Int) + 1 == 2) = true := by rw [hm2]; rfl
      have e4 : (y % 4 == 0) = false := by
        rw [h4]
        rcases leapI_01 y with e | e
        · rw [e]; rfl
        · exact absurd ⟨e, hm2⟩ hc
      clear h4 hc hm2
      go_enter Tryz.func125, Tryz.ntmps125
      go_wp2
      go_ret
      exact ⟨ret_int HR.out.symm, (Below.refl _ _).alloc (Nat.le_refl _) _⟩
    · have e2 : ((k : Int) + 1 == 2) = false := by rw [beq_eq_false_iff_ne]; exact hm2
      clear h4 hc hm2
      go_enter Tryz.func125, Tryz.ntmps125
      go_wp2
      go_ret
      exact ⟨ret_int HR.out.symm, (Below.refl _ _).alloc (Nat.le_refl _) _⟩

end Go.Proofs.YtgnbhcgagdfaiaaGreatDoor

namespace Go.Proofs.YtgnbhcgagdfaiaaGreatDoor
open Go.RowKit
set_option linter.unusedVariables false

set_option maxRecDepth 100000 in
set_option maxHeartbeats 2000000 in
theorem l02DayV_any (n : Int) (w : World) : Calls Tryz.prog 46 #[.int .i64 n] w fun e w' => e = .returned (.bool (inB n 0 36524)) ∧ w = w' := by
  go_enter Tryz.func46, Tryz.ntmps46
  go_wp2_with (go_at_call 85; refine (l00InB_any _ _ _ _).mono ?_; rintro e w' ⟨rfl, rfl⟩)
  go_ret
  exact ⟨rfl, rfl⟩
set_option maxRecDepth 100000 in
set_option maxHeartbeats 2000000 in
theorem l17IsV_any (n : Int) (w : World) : Calls Tryz.prog 60 #[.int .i64 n] w fun e w' => e = .returned (.bool (inB n 1 5)) ∧ w = w' := by
  go_enter Tryz.func60, Tryz.ntmps60
  go_wp2_with (go_at_call 85; refine (l00InB_any _ _ _ _).mono ?_; rintro e w' ⟨rfl, rfl⟩)
  go_ret
  exact ⟨rfl, rfl⟩
set_option maxRecDepth 100000 in
set_option maxHeartbeats 2000000 in
theorem levelOkV_any (n : Int) (w : World) : Calls Tryz.prog 66 #[.int .i64 n] w fun e w' => e = .returned (.bool (inB n 1 5)) ∧ w = w' := by
  go_enter Tryz.func66, Tryz.ntmps66
  go_wp2_with (go_at_call 101; refine (withinB_any _ _ _ _).mono ?_; rintro e w' ⟨rfl, rfl⟩)
  go_ret
  exact ⟨rfl, rfl⟩
end Go.Proofs.YtgnbhcgagdfaiaaGreatDoor
