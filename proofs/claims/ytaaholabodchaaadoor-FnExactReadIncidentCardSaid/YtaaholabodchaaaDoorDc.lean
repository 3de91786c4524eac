/- Contracts of the functions on dates. Written by wip/gen/dc.py. -/
import Derived.Test.YtaaholabodchaaaDoorDt
import Derived.Test.YtaaholabodchaaaDoorRd
import Derived.Test.YtaaholabodchaaaDoorSeg
import Derived.Test.YtaaholabodchaaaDoorSp
import Derived.Test.YtaaholabodchaaaDoorLt
namespace Go.Proofs.YtaaholabodchaaaDoor
open Go.RowKit
set_option linter.unusedVariables false

theorem rem4 {y : Int} (h : 0 ≤ y) : (y % 4 == 0) = (leapI y == 1) := by
  unfold leapI
  by_cases e : y % 4 = 0
  · rw [if_pos e, e]; rfl
  · rw [if_neg e, beq_eq_false_iff_ne.2 e]; rfl
/-- The days of a month of a year without a day more. -/
def lenT (m : Int) : Int := if m = 0 then 365 else if m = 2 then 28 else if m = 4 ∨ m = 6 ∨ m = 9 ∨ m = 11 then 30 else 31
theorem monthC0 {m : Int} (h1 : 0 ≤ m) (h2 : m ≤ 12) : m = 0 ∨ m = 1 ∨ m = 2 ∨ m = 3 ∨ m = 4 ∨ m = 5 ∨ m = 6 ∨ m = 7 ∨ m = 8 ∨ m = 9 ∨ m = 10 ∨ m = 11 ∨ m = 12 := by omega
theorem lenM_plain {y m : Int} (h : ¬ (leapI y = 1 ∧ (m = 0 ∨ m = 2))) : lenM y m = lenT m := by
  have := leapI_01 y
  unfold lenM lenT
  repeat' split
  all_goals omega
theorem lenM_more {y m : Int} (h : leapI y = 1 ∧ (m = 0 ∨ m = 2)) : lenM y m = lenT m + 1 := by
  unfold lenM lenT
  repeat' split
  all_goals omega
theorem lenT_range (m : Int) : 28 ≤ lenT m ∧ lenT m ≤ 365 := by
  unfold lenT
  repeat' split
  all_goals omega
theorem daysTab (m : Int) (h1 : 0 ≤ m) (h2 : m ≤ 12) (W : World) : (Instr.index 76 (.agg #[.int .i64 365, .int .i64 31, .int .i64 28, .int .i64 31, .int .i64 30, .int .i64 31, .int .i64 30, .int .i64 31, .int .i64 31, .int .i64 30, .int .i64 31, .int .i64 30, .int .i64 31]) (.int .i64 m)).run Tryd.prog W = .ok (.int .i64 (lenT m)) W := by
  rcases monthC0 h1 h2 with h | h | h | h | h | h | h | h | h | h | h | h | h <;> subst h <;> simp [Instr.index, run_underlying Tryd.underlying76, asIntOf, go_sem, lenT]
set_option maxRecDepth 100000 in
set_option maxHeartbeats 2000000 in
theorem daysIn_any (y m : Int) (w : World) (hy : 0 ≤ y) (hm : 0 ≤ m) (hm2 : m ≤ 12) :
    Calls Tryd.prog 44 #[.int .i64 y, .int .i64 m] w fun e w' => e = .returned (.int .i64 (lenM y m)) ∧ w = w' := by
  have hix := daysTab m hm hm2
  have hr := lenT_range m
  have h4 := rem4 hy
  by_cases hl : leapI y = 1
  · by_cases hc : m = 0 ∨ m = 2
    · have HR := Lib.hid (lenM_more ⟨hl, hc⟩)
      have e4 : (y % 4 == 0) = true := by rw [h4, hl]; rfl
      have e1 : wrap64 (lenT m + 1) = lenT m + 1 := by unfold wrap64; omega
      rcases hc with hc | hc
      · have e0 : (m == 0) = true := by rw [hc]; rfl
        clear h4 hl hc
        generalize lenT m = t at *
        go_enter Tryd.func44, Tryd.ntmps44
        go_wp2
        go_ret
        exact ⟨ret_int HR.out.symm, rfl⟩
      · have e0 : (m == 0) = false := by rw [hc]; rfl
        have e2 : (m == 2) = true := by rw [hc]; rfl
        clear h4 hl hc
        generalize lenT m = t at *
        go_enter Tryd.func44, Tryd.ntmps44
        go_wp2
        go_ret
        exact ⟨ret_int HR.out.symm, rfl⟩
    · have HR := Lib.hid (lenM_plain (y := y) (m := m) (fun h => hc h.2))
      have e4 : (y % 4 == 0) = true := by rw [h4, hl]; rfl
      have e0 : (m == 0) = false := by rw [beq_eq_false_iff_ne]; omega
      have e2 : (m == 2) = false := by rw [beq_eq_false_iff_ne]; omega
      clear h4 hl hc
      generalize lenT m = t at *
      go_enter Tryd.func44, Tryd.ntmps44
      go_wp2
      go_ret
      exact ⟨ret_int HR.out.symm, rfl⟩
  · have HR := Lib.hid (lenM_plain (y := y) (m := m) (fun h => hl h.1))
    have hl0 : leapI y = 0 := by rcases leapI_01 y with h | h; exact h; exact absurd h hl
    have e4 : (y % 4 == 0) = false := by rw [h4, hl0]; rfl
    clear h4 hl hl0
    generalize lenT m = t at *
    go_enter Tryd.func44, Tryd.ntmps44
    go_wp2
    go_ret
    exact ⟨ret_int HR.out.symm, rfl⟩
theorem two_cell {n : Int} (h0 : 0 ≤ n) (h1 : n < 100) : ((UInt8.ofNat (48 + n.toNat / 10)).toNat : Int) = 48 + n / 10 ∧ ((UInt8.ofNat (48 + n.toNat % 10)).toNat : Int) = 48 + n % 10 := by
  rw [UInt8.toNat_ofNat', UInt8.toNat_ofNat']
  omega
set_option maxRecDepth 100000 in
set_option maxHeartbeats 1000000 in
theorem twoDigits_any (n : Int) (w : World) (h0 : 0 ≤ n) (h1 : n < 100) :
    Calls Tryd.prog 47 #[.int .i64 n] w fun e w' => e = .returned (.string ⟨(two n).toArray⟩) ∧ Below w.heap.size w w' := by
  obtain ⟨e1, e2⟩ := two_cell h0 h1
  have hown : Own fByte (w.alloc (.cells #[.int .u8 ((UInt8.ofNat (48 + n.toNat / 10)).toNat : Int), .int .u8 ((UInt8.ofNat (48 + n.toNat % 10)).toNat : Int)] 5)) w.heap.size 5 (.slice (some ⟨w.heap.size, 0, none⟩) 2 2) (two n) := World.ownsRow_lit w _ 2 (Nat.le_refl _) (by unfold maxLen; omega) rfl
  have hcv := hown.text
  rw [e1, e2] at hcv
  clear hown e1 e2
  generalize two n = t at *
  go_enter Tryd.func47, Tryd.ntmps47
  go_wp2
  go_ret
  exact ⟨rfl, (Below.refl _ _).alloc (Nat.le_refl _) _⟩
theorem dgt_bad {l : List UInt8} {k : Nat} (hk : k < l.length) (h : digB l[k] = false) : fN l = -1 := fN_bad (by
  rw [← Bool.not_eq_true, List.all_eq_true]
  intro e
  have := e l[k] (List.getElem_mem hk)
  rw [h] at this; cases this)
theorem valL_take {l : List UInt8} {k : Nat} (hk : k < l.length) : ((valL 0 (l.take (k + 1)) : Nat) : Int) = 10 * ((valL 0 (l.take k) : Nat) : Int) + ((l[k].toNat - 48 : Nat) : Int) := by
  rw [List.take_succ_eq_append_getElem hk, valL_snoc]; omega
theorem all_take {l : List UInt8} {k : Nat} (hk : k < l.length) (h : (l.take k).all digB = true) (h1 : digB l[k] = true) : (l.take (k + 1)).all digB = true := by
  rw [List.take_succ_eq_append_getElem hk, List.all_append, h]; simp [h1]
theorem valL_small {l : List UInt8} {k : Nat} (h : l.all digB = true) (hl : l.length ≤ 4) (hk : k ≤ l.length) : valL 0 (l.take k) < 10000 := by
  have h1 : (l.take k).all digB = true := by rw [List.all_eq_true] at h ⊢; exact fun x hx => h x (List.mem_of_mem_take hx)
  have := valL_lt (l.take k) 0 0 h1 (by decide)
  rw [List.length_take] at this
  have h2 : 10 ^ (0 + min k l.length) ≤ 10 ^ 4 := Nat.pow_le_pow_right (by decide) (by omega)
  have h3 : (10 : Nat) ^ 4 = 10000 := by decide
  omega
theorem valL_small' {l : List UInt8} (h : l.all digB = true) (hl : l.length ≤ 4) : valL 0 l < 10000 := by
  have := valL_small (k := l.length) h hl (Nat.le_refl _)
  rwa [List.take_length] at this
set_option maxRecDepth 100000 in
set_option maxHeartbeats 1000000 in
theorem digitsOf_any (s : ByteArray) (w : World) (hs : s.size ≤ 4) :
    Calls Tryd.prog 26 #[.string s] w fun e w' => e = .returned (.int .i64 (fN s.data.toList)) ∧ w = w' := by
  have HS : Hid (∀ k (h : k < s.data.toList.length), s.data.toList[k] = s[k]'(by simpa using h)) := fun k h => rfl
  have hlen : s.data.toList.length = s.size := by simp
  go_enter Tryd.func26, Tryd.ntmps26
  go_wp2
  go_loop [3, 7] (fun n i => ∃ k : Nat, k ≤ s.size ∧ i = .int .i64 k ∧ ∃ q : Nat, n = .int .i64 q ∧ q < 10000 ∧ Hid (q = valL 0 (s.data.toList.take k)) ∧ Hid ((s.data.toList.take k).all digB = true)) (fun _ i => s.size - (intOf i).toNat)
  case atStart => exact ⟨0, Nat.zero_le _, rfl, 0, rfl, by decide, rfl, rfl⟩
  case round =>
    obtain ⟨k, hk, rfl, q, rfl, hq, HQ, HA⟩ := hrel
    by_cases hlt : k < s.size
    · have hkl : k < s.data.toList.length := by omega
      have HE : Hid (s.data.toList[k] = s[k]) := rfl
      have hlt256 := s[k].toNat_lt
      cases hd : digB s[k]
      · have hq2 : s[k].toNat < 48 ∨ 57 < s[k].toNat := by
          rcases Nat.lt_or_ge s[k].toNat 48 with h | h
          · exact .inl h
          · rcases Nat.lt_or_ge 57 s[k].toNat with h2 | h2
            · exact .inr h2
            · exact absurd (digB_iff.2 ⟨h, h2⟩) (by rw [hd]; decide)
        have HB_ := Lib.hid (dgt_bad hkl (by rw [HE.out]; exact hd))
        clear hd
        rcases Nat.lt_or_ge s[k].toNat 48 with h48 | h48
        · go_wp2
          go_ret
          exact ⟨ret_int HB_.out.symm, rfl⟩
        · have h57 : 57 < s[k].toNat := by omega
          go_wp2
          go_ret
          exact ⟨ret_int HB_.out.symm, rfl⟩
      · obtain ⟨h48, h57⟩ := digB_iff.1 hd
        have HV := Lib.hid (valL_take hkl)
        have HA2 := Lib.hid (all_take hkl HA.out (by rw [HE.out]; exact hd))
        have hsm : ∀ r : Nat, r = 10 * q + (s[k].toNat - 48) → r < 10000 := by
          intro r hr
          have h1 := valL_small' HA2.out (by rw [List.length_take]; omega)
          have h2 := HV.out
          rw [← HQ.out, HE.out] at h2
          omega
        clear hd
        have hr := hsm _ rfl
        clear hsm
        go_wp2
        go_round
        case rel => exact ⟨k + 1, by omega, by go_num, 10 * q + (s[k].toNat - 48), by go_num, hr, by have := HV.out; rw [← HQ.out, HE.out] at this; show _ = _; omega, HA2⟩
        case measure => simp [intOf]; omega
    · obtain rfl : k = s.size := by omega
      have hall := HA.out
      rw [← hlen, List.take_length] at hall
      have hq3 := HQ.out
      rw [← hlen, List.take_length] at hq3
      have HF := Lib.hid (fN_ok hall)
      have HQ3 := Lib.hid hq3
      clear hall hq3
      go_wp2
      go_ret
      exact ⟨ret_int (by rw [HF.out, ← HQ3.out]), rfl⟩
theorem dateB {y m d : Int} : dateOk y m d ↔ (inB y 2000 2099 = true ∧ inB m 1 12 = true ∧ inB d 1 (lenM y m) = true) := by unfold dateOk; rw [inB_true, inB_true, inB_true]
/-- The day of a date, 0 if there is none; the error's number. -/
def dnV (y m d : Int) : Int := if dateOk y m d then numD y m d else 0
def dnC (y m d : Int) : Int := if dateOk y m d then 0 else 2
set_option maxRecDepth 100000 in
set_option maxHeartbeats 2000000 in
theorem DayNumber_any (y m d : Int) (w : World) (hy : -1 ≤ y ∧ y ≤ 1000000) (hm : -1 ≤ m ∧ m ≤ 1000000) (hd : -1 ≤ d ∧ d ≤ 1000000) :
    Calls Tryd.prog 25 #[.int .i64 y, .int .i64 m, .int .i64 d] w fun e w' => e = .returned (.tuple #[.int .i64 (dnV y m d), .int .i64 (dnC y m d)]) ∧ w = w' := by
  cases hb1 : inB y 2000 2099
  · have hn : ¬ dateOk y m d := fun h => by have := (dateB.1 h).1; rw [hb1] at this; cases this
    have e1 : dnV y m d = 0 := if_neg hn
    have e2 : dnC y m d = 2 := if_neg hn
    rw [e1, e2]
    clear hn e1 e2
    go_enter Tryd.func25, Tryd.ntmps25
    go_wp2_with (go_at_call 43; refine (withinB_any _ _ _ _).mono ?_; rintro e w' ⟨rfl, rfl⟩)
    go_ret2
    exact ⟨rfl, rfl⟩
  · cases hb2 : inB m 1 12
    · have hn : ¬ dateOk y m d := fun h => by have := (dateB.1 h).2.1; rw [hb2] at this; cases this
      have e1 : dnV y m d = 0 := if_neg hn
      have e2 : dnC y m d = 2 := if_neg hn
      rw [e1, e2]
      clear hn e1 e2
      go_enter Tryd.func25, Tryd.ntmps25
      go_wp2_with (go_at_call 43; refine (withinB_any _ _ _ _).mono ?_; rintro e w' ⟨rfl, rfl⟩)
      go_ret2
      exact ⟨rfl, rfl⟩
    · obtain ⟨hy0, hy1⟩ := inB_true.1 hb1
      obtain ⟨hm0, hm1⟩ := inB_true.1 hb2
      cases hb3 : inB d 1 (lenM y m)
      · have hn : ¬ dateOk y m d := fun h => by have := (dateB.1 h).2.2; rw [hb3] at this; cases this
        have e1 : dnV y m d = 0 := if_neg hn
        have e2 : dnC y m d = 2 := if_neg hn
        rw [e1, e2]
        clear hn e1 e2
        go_enter Tryd.func25, Tryd.ntmps25
        go_wp2_with first | (go_at_call 43; refine (withinB_any _ _ _ _).mono ?_; rintro e w' ⟨rfl, rfl⟩) | (go_at_call 44; refine (daysIn_any _ _ _ (by omega) (by omega) (by omega)).mono ?_; rintro e w' ⟨rfl, rfl⟩)
        go_ret2
        exact ⟨rfl, rfl⟩
      · have hok : dateOk y m d := dateB.2 ⟨hb1, hb2, hb3⟩
        have e1 : dnV y m d = numD y m d := if_pos hok
        have e2 : dnC y m d = 0 := if_pos hok
        have hlen := lenM_pos y hm0 hm1
        obtain ⟨hd0, hd1⟩ := inB_true.1 hb3
        have HD := Lib.hid (show numD y m d = yB y + cumM y m + d - 1 from rfl)
        have hcum := cumM_bounds y hm0 hm1
        have hl01 := leapI_01 y
        have H4 := Lib.hid (yB_four y)
        have hyb : Hid (∀ t : Int, 2000 ≤ t → t ≤ 2099 → 0 ≤ yB t ∧ yB t ≤ 36525) := fun t h1 h2 => by unfold yB; omega
        have hst : Hid (∀ t : Int, yB (t + 1) = yB t + lenM t 0) := yB_step
        have hcs : Hid (∀ t : Int, 1 ≤ t → t ≤ 12 → cumM y (t + 1) = cumM y t + lenM y t) := fun t h1 h2 => cumM_step y h1 h2
        have hcb : Hid (∀ t : Int, 1 ≤ t → t ≤ 12 → 0 ≤ cumM y t ∧ cumM y t ≤ 366) := fun t h1 h2 => by
          obtain ⟨p1, p2⟩ := cumM_bounds y h1 h2
          have := lenM_pos y h1 h2
          omega
        have hl0b : Hid (∀ t : Int, 365 ≤ lenM t 0 ∧ lenM t 0 ≤ 366) := fun t => by rw [lenM_zero]; have := leapI_01 t; omega
        have hlb : Hid (∀ t : Int, 1 ≤ t → t ≤ 12 → 28 ≤ lenM y t ∧ lenM y t ≤ 31) := fun t h1 h2 => lenM_pos y h1 h2
        rw [e1, e2]
        clear hok e1 e2
        go_enter Tryd.func25, Tryd.ntmps25
        go_wp2_with first | (go_at_call 43; refine (withinB_any _ _ _ _).mono ?_; rintro e w' ⟨rfl, rfl⟩) | (go_at_call 44; refine (daysIn_any _ _ _ (by omega) (by omega) (by omega)).mono ?_; rintro e w' ⟨rfl, rfl⟩)
        go_loop [8, 9] (fun n i => ∃ t : Int, i = .int .i64 t ∧ 2000 ≤ t ∧ t ≤ y ∧ ∃ q : Int, n = .int .i64 q ∧ 0 ≤ q ∧ q ≤ 40000 ∧ Hid (q = yB t + d - 1)) (fun _ i => (y - intOf i).toNat)
        case atStart =>
          have h1 := H4.out
          have h2 := hyb.out (y / 4 * 4) (by omega) (by omega)
          exact ⟨_, rfl, by omega, by omega, _, rfl, by omega, by omega, by show _ = _; omega⟩
        case round =>
          obtain ⟨t, rfl, ht0, ht1, q, rfl, hq0, hq1, HQ⟩ := hrel
          by_cases hlt : t < y
          · have h2 := hyb.out (t + 1) (by omega) (by omega)
            have h3 := hst.out t
            have h5 := hl0b.out t
            have h6 := HQ.out
            have hq2 : q + lenM t 0 ≤ 40000 := by omega
            clear h2 h3 h6
            go_wp2_with (go_at_call 44; refine (daysIn_any _ _ _ (by omega) (by omega) (by omega)).mono ?_; rintro e w' ⟨rfl, rfl⟩)
            go_round
            case rel => exact ⟨t + 1, by go_num, by omega, by omega, q + lenM t 0, by go_num, by omega, by omega, by have := HQ.out; have := hst.out t; show _ = _; omega⟩
            case measure => simp [intOf]; omega
          · obtain rfl : t = y := by omega
            go_wp2_with (go_at_call 44; refine (daysIn_any _ _ _ (by omega) (by omega) (by omega)).mono ?_; rintro e w' ⟨rfl, rfl⟩)
            go_loop [8, 10] (fun n i => ∃ u : Int, i = .int .i64 u ∧ 1 ≤ u ∧ u ≤ m ∧ ∃ q : Int, n = .int .i64 q ∧ 0 ≤ q ∧ q ≤ 40000 ∧ Hid (q = yB t + cumM t u + d - 1)) (fun _ i => (m - intOf i).toNat)
            case atStart => exact ⟨1, rfl, by omega, by omega, _, rfl, by omega, by omega, by have := HQ.out; have := cumM_one t; show _ = _; omega⟩
            case round =>
              obtain ⟨u, rfl, hu0, hu1, q2, rfl, hq20, hq21, HQ2⟩ := hrel
              by_cases hlt : u < m
              · have h2 := hcs.out u (by omega) (by omega)
                have h3 := hlb.out u (by omega) (by omega)
                have h4 := hcb.out (u + 1) (by omega) (by omega)
                have h5 := hyb.out t (by omega) (by omega)
                have h6 := HQ2.out
                have hq2 : q2 + lenM t u ≤ 40000 := by omega
                clear h2 h4 h5 h6
                go_wp2_with (go_at_call 44; refine (daysIn_any _ _ _ (by omega) (by omega) (by omega)).mono ?_; rintro e w' ⟨rfl, rfl⟩)
                go_round
                case rel => exact ⟨u + 1, by go_num, by omega, by omega, q2 + lenM t u, by go_num, by omega, by omega, by have := HQ2.out; have := hcs.out u (by omega) (by omega); show _ = _; omega⟩
                case measure => simp [intOf]; omega
              · obtain rfl : u = m := by omega
                obtain rfl : q2 = numD t u d := by have := HQ2.out; have := HD.out; omega
                go_wp2_with (go_at_call 44; refine (daysIn_any _ _ _ (by omega) (by omega) (by omega)).mono ?_; rintro e w' ⟨rfl, rfl⟩)
                go_ret2
                exact ⟨rfl, rfl⟩
set_option maxRecDepth 100000 in
set_option maxHeartbeats 2000000 in
theorem dayValid_any (n : Int) (w : World) : Calls Tryd.prog 48 #[.int .i64 n] w fun e w' => e = .returned (.bool (inB n 0 36524)) ∧ w = w' := by
  go_enter Tryd.func48, Tryd.ntmps48
  go_wp2_with (go_at_call 43; refine (withinB_any _ _ _ _).mono ?_; rintro e w' ⟨rfl, rfl⟩)
  go_ret
  exact ⟨rfl, rfl⟩
set_option maxRecDepth 100000 in
set_option maxHeartbeats 2000000 in
theorem DateOf_any (y m d n : Int) (w : World) (h : dateOk y m d) (hn : n = numD y m d) :
    Calls Tryd.prog 45 #[.int .i64 n] w fun e w' => e = .returned (.tuple #[.int .i64 y, .int .i64 m, .int .i64 d, .int .i64 0]) ∧ w = w' := by
  have hb := numD_bounds h
  have hin : inB n 0 36524 = true := inB_true.2 (by omega)
  have hyl := year_le h
  have HY := Lib.hid (fun (t r : Int) (ht : t ≤ y) (hr : r = numD y m d - yB t) => year_go h ht hr)
  have HM := Lib.hid (fun (t r : Int) (h0 : 1 ≤ t) (ht : t ≤ m) (hr : r = cumM y m + d - 1 - cumM y t) => month_go h h0 ht hr)
  have HR := Lib.hid (yB_rest n)
  obtain ⟨⟨hy0, hy1⟩, ⟨hm0, hm1⟩, hd0, hd1⟩ := h
  have hst : Hid (∀ t : Int, yB (t + 1) = yB t + lenM t 0) := yB_step
  have hcs : Hid (∀ t : Int, 1 ≤ t → t ≤ 12 → cumM y (t + 1) = cumM y t + lenM y t) := fun t h1 h2 => cumM_step y h1 h2
  have hl0b : Hid (∀ t : Int, 365 ≤ lenM t 0 ∧ lenM t 0 ≤ 366) := fun t => by rw [lenM_zero]; have := leapI_01 t; omega
  have hlb : Hid (∀ t : Int, 1 ≤ t → t ≤ 12 → 28 ≤ lenM y t ∧ lenM y t ≤ 31) := fun t h1 h2 => lenM_pos y h1 h2
  have hlen := lenM_pos y hm0 hm1
  have HD := Lib.hid (show numD y m d = yB y + cumM y m + d - 1 from rfl)
  have HN := Lib.hid hn
  rw [← hn] at hb hyl
  clear hn
  go_enter Tryd.func45, Tryd.ntmps45
  go_wp2_with first | (go_at_call 48; refine (dayValid_any _ _).mono ?_; rintro e w' ⟨rfl, rfl⟩) | (go_at_call 44; refine (daysIn_any _ _ _ (by omega) (by omega) (by omega)).mono ?_; rintro e w' ⟨rfl, rfl⟩)
  go_loop [6, 7] (fun a b => ∃ t : Int, a = .int .i64 t ∧ 2000 ≤ t ∧ t ≤ y ∧ ∃ r : Int, b = .int .i64 r ∧ 0 ≤ r ∧ r ≤ 40000 ∧ Hid (r = numD y m d - yB t)) (fun a _ => (y - intOf a).toNat)
  case atStart => exact ⟨_, rfl, by omega, by omega, _, rfl, by omega, by omega, by have := HR.out; have := HN.out; show _ = _; omega⟩
  case round =>
    obtain ⟨t, rfl, ht0, ht1, r, rfl, hr0, hr1, HQ⟩ := hrel
    have hg := (HY.out t r ht1 HQ.out).2
    have hl := hl0b.out t
    by_cases hlt : t < y
    · have hge : lenM t 0 ≤ r := hg.2 hlt
      clear hg
      go_wp2_with (go_at_call 44; refine (daysIn_any _ _ _ (by omega) (by omega) (by omega)).mono ?_; rintro e w' ⟨rfl, rfl⟩)
      go_round
      case rel => exact ⟨t + 1, by go_num, by omega, by omega, r - lenM t 0, by go_num, by omega, by omega, by have := HQ.out; have := hst.out t; show _ = _; omega⟩
      case measure => simp [intOf]; omega
    · have hge : ¬ lenM t 0 ≤ r := fun e => hlt (hg.1 e)
      clear hg
      obtain rfl : t = y := by omega
      have HQ1 : Hid (r = cumM t m + d - 1 - cumM t 1) := by have := HQ.out; have := HD.out; have := cumM_one t; show _ = _; omega
      go_wp2_with (go_at_call 44; refine (daysIn_any _ _ _ (by omega) (by omega) (by omega)).mono ?_; rintro e w' ⟨rfl, rfl⟩)
      go_loop [7, 8] (fun b a => ∃ u : Int, a = .int .i64 u ∧ 1 ≤ u ∧ u ≤ m ∧ ∃ r : Int, b = .int .i64 r ∧ 0 ≤ r ∧ r ≤ 40000 ∧ Hid (r = cumM t m + d - 1 - cumM t u)) (fun _ a => (m - intOf a).toNat)
      case atStart => exact ⟨1, rfl, by omega, by omega, _, rfl, by omega, by omega, HQ1⟩
      case round =>
        obtain ⟨u, rfl, hu0, hu1, r2, rfl, hr20, hr21, HQ2⟩ := hrel
        have hg := (HM.out u r2 hu0 hu1 HQ2.out).2
        have hl2 := hlb.out u (by omega) (by omega)
        by_cases hlt : u < m
        · have hge : lenM t u ≤ r2 := hg.2 hlt
          clear hg
          go_wp2_with (go_at_call 44; refine (daysIn_any _ _ _ (by omega) (by omega) (by omega)).mono ?_; rintro e w' ⟨rfl, rfl⟩)
          go_round
          case rel => exact ⟨u + 1, by go_num, by omega, by omega, r2 - lenM t u, by go_num, by omega, by omega, by have := HQ2.out; have := hcs.out u (by omega) (by omega); show _ = _; omega⟩
          case measure => simp [intOf]; omega
        · have hge : ¬ lenM t u ≤ r2 := fun e => hlt (hg.1 e)
          clear hg
          obtain rfl : u = m := by omega
          obtain rfl : r2 = d - 1 := by have := HQ2.out; omega
          have e1 : wrap64 (d - 1 + 1) = d := by unfold wrap64; omega
          have e2 : d - 1 + 1 = d := by omega
          go_wp2_with (go_at_call 44; refine (daysIn_any _ _ _ (by omega) (by omega) (by omega)).mono ?_; rintro e w' ⟨rfl, rfl⟩)
          exact bodyPost_ret (v := .tuple #[.int .i64 t, .int .i64 u, .int .i64 d, .int .i64 0]) (by simp [results, *, Tryd.results45, go_sem]) rfl ⟨rfl, rfl⟩
def dayS (y m d : Int) : ByteArray := ⟨(dayL y m d).toArray⟩
theorem dayS_size {y m d : Int} (h : dateOk y m d) : (dayS y m d).size = 10 := by unfold dayS; rw [mkL_size, dayL_len h]
theorem dayS_cat (y m d : Int) : decS y ++ ⟨#[45]⟩ ++ ⟨(two m).toArray⟩ ++ ⟨#[45]⟩ ++ ⟨(two d).toArray⟩ = dayS y m d := by
  have e45 : (⟨#[45]⟩ : ByteArray) = ⟨([45] : List UInt8).toArray⟩ := rfl
  unfold dayS dayL decS
  rw [e45, bytesL_append, bytesL_append, bytesL_append, bytesL_append]
theorem two_size (n : Int) : (⟨(two n).toArray⟩ : ByteArray).size = 2 := rfl
set_option maxRecDepth 100000 in
set_option maxHeartbeats 2000000 in
theorem DateText_any (y m d n : Int) (w : World) (h : dateOk y m d) (hn : n = numD y m d) (ht : Tab10 w) :
    Calls Tryd.prog 27 #[.int .i64 n] w fun e w' => e = .returned (.string (dayS y m d)) ∧ Below w.heap.size w w' := by
  have hy := h.1
  have hm := h.2.1
  have hd := h.2.2
  have hl := lenM_pos y hm.1 hm.2
  have HC := Lib.hid (dayS_cat y m d)
  generalize dayS y m d = RES at *
  have hs4 : (decS y).size = 4 := by rw [decS_size, yearL hy.1 hy.2]; rfl
  have hsm := two_size m
  have hsd := two_size d
  have hDO := fun w => DateOf_any y m d n w h hn
  obtain ⟨hy1, hy2⟩ := hy
  obtain ⟨hm1, hm2⟩ := hm
  obtain ⟨hd1, hd2⟩ := hd
  have hd3 : d ≤ 31 := by omega
  clear h hn hd2 hl
  go_enter Tryd.func27, Tryd.ntmps27
  go_wp2_with fail
  refine (hDO _).mono ?_
  rintro e w' ⟨rfl, rfl⟩
  go_wp2_with fail
  refine (Decimal_any y _ (by omega) (by omega) ht).mono ?_
  rintro e w1 ⟨rfl, hb1⟩
  generalize decS y = Y at *
  go_wp2_with fail
  refine (twoDigits_any m _ (by omega) (by omega)).mono ?_
  rintro e w2 ⟨rfl, hb2⟩
  generalize (⟨(two m).toArray⟩ : ByteArray) = M at *
  go_wp2_with fail
  refine (twoDigits_any d _ (by omega) (by omega)).mono ?_
  rintro e w3 ⟨rfl, hb3⟩
  generalize (⟨(two d).toArray⟩ : ByteArray) = Z at *
  go_wp2
  go_ret
  exact ⟨ret_str HC.out, hb1.trans ((hb2.mono hb1.size).trans (hb3.mono (Nat.le_trans hb1.size hb2.size)))⟩
theorem fN_range {l : List UInt8} (h : l.length ≤ 4) : -1 ≤ fN l ∧ fN l ≤ 1000000 := by
  cases hd : l.all digB
  · rw [fN_bad hd]; omega
  · rw [fN_ok hd]
    have := valL_lt l 0 0 hd (by decide)
    have h2 : 10 ^ (0 + l.length) ≤ 10 ^ 4 := Nat.pow_le_pow_right (by decide) (by omega)
    have h3 : (10 : Nat) ^ 4 = 10000 := by decide
    omega
theorem ex_y (s : ByteArray) : (s.extract 0 4).data.toList = s.data.toList.take 4 := by rw [extract_toList, List.drop_zero]
theorem ex_m (s : ByteArray) : (s.extract 5 7).data.toList = (s.data.toList.take 7).drop 5 := by rw [extract_toList]
theorem ex_d (s : ByteArray) : (s.extract 8 s.size).data.toList = s.data.toList.drop 8 := by rw [extract_toList, List.take_of_length_le (by simp)]
theorem f_range (s : ByteArray) (h : s.size = 10) : (-1 ≤ yF s.data.toList ∧ yF s.data.toList ≤ 1000000) ∧ (-1 ≤ mF s.data.toList ∧ mF s.data.toList ≤ 1000000) ∧ (-1 ≤ dF s.data.toList ∧ dF s.data.toList ≤ 1000000) := by
  have hl : s.data.toList.length = 10 := by simpa using h
  unfold yF mF dF
  exact ⟨fN_range (by rw [List.length_take]; omega), fN_range (by rw [List.length_drop, List.length_take]; omega), fN_range (by rw [List.length_drop]; omega)⟩
theorem digY_any (s : ByteArray) (w : World) (h : s.size = 10) : Calls Tryd.prog 26 #[.string (s.extract 0 4)] w fun e w' => e = .returned (.int .i64 (yF s.data.toList)) ∧ w = w' := by
  have := digitsOf_any (s.extract 0 4) w (by rw [ByteArray.size_extract]; omega)
  rw [ex_y] at this; exact this
theorem digM_any (s : ByteArray) (w : World) (h : s.size = 10) : Calls Tryd.prog 26 #[.string (s.extract 5 7)] w fun e w' => e = .returned (.int .i64 (mF s.data.toList)) ∧ w = w' := by
  have := digitsOf_any (s.extract 5 7) w (by rw [ByteArray.size_extract]; omega)
  rw [ex_m] at this; exact this
theorem digD_any (s : ByteArray) (w : World) (h : s.size = 10) : Calls Tryd.prog 26 #[.string (s.extract 8 10)] w fun e w' => e = .returned (.int .i64 (dF s.data.toList)) ∧ w = w' := by
  have := digitsOf_any (s.extract 8 s.size) w (by rw [ByteArray.size_extract]; omega)
  rw [ex_d, h] at this; exact this
def RdR (s : ByteArray) (w : World) (e : Ending) (w' : World) : Prop := e = .returned (.tuple #[.int .i64 ((rdF s).getD 0), .bool (rdF s).isSome]) ∧ Below w.heap.size w w'
theorem RdR.no {s : ByteArray} {w w' : World} (h : rdF s = none) (hb : Below w.heap.size w w') : RdR s w (.returned (.tuple #[.int .i64 0, .bool false])) w' := ⟨by rw [h]; rfl, hb⟩
theorem RdR.yes {s : ByteArray} {w w' : World} {n : Int} (h : rdF s = some n) (hb : Below w.heap.size w w') : RdR s w (.returned (.tuple #[.int .i64 n, .bool true])) w' := ⟨by rw [h]; rfl, hb⟩
set_option maxRecDepth 100000 in
set_option maxHeartbeats 4000000 in
theorem implReadDate_any (s : ByteArray) (w : World) (hs : s.size ≤ 1048576) (ht : Tab10 w) :
    Calls Tryd.prog 13 #[.string s] w fun e w' => RdR s w e w' := by
  by_cases h10 : s.size = 10
  · have e0 : ((s.size : Int) == 10) = true := by rw [beq_iff_eq]; omega
    obtain ⟨hry, hrm, hrd⟩ := f_range s h10
    have HT := Lib.hid (fun hd => rdF_text (s := s) h10 hd)
    have HN := Lib.hid (fun hd => rdF_date (s := s) hd)
    have hcy := fun w => digY_any s w h10
    have hcm := fun w => digM_any s w h10
    have hcd := fun w => digD_any s w h10
    generalize yF s.data.toList = Y at *
    generalize mF s.data.toList = M at *
    generalize dF s.data.toList = Z at *
    go_enter Tryd.func13, Tryd.ntmps13
    go_wp2
    refine wp_region_mixed [0, 1, 3, 4, 6, 7, 2, 5, 8, 9, 10, 11, 12, 13, 14] (C := fun w' => ∃ p : Regrown, w' = Go.Sort.grow (redrawn w p.d) p.os) [true, true, true, true, true, true, false, false, false, false, true, true, true, true, true] (by kernel_rfl) (by kernel_rfl) (by kernel_rfl) (fun _ _ d _ _ h => by cases d <;> exact h) (regrown_of_below (Below.drew (Below.refl _ _))) ?_
    simp only [List.map_cons, List.map_nil, List.getD_cons_zero, List.getD_cons_succ]
    have hS0 : Below (w.heap.size) w w.drew := Below.drew (Below.refl _ _)
    refine wpMix_pure (by kernel_rfl) (fun K hK => ?_)
    go_big_quiet_op
    refine hK _ ?_; clear hK K
    refine wpMix_pure (by kernel_rfl) (fun K hK => ?_)
    go_big_quiet_op
    refine hK _ ?_; clear hK K
    refine wpMix_pure (by kernel_rfl) (fun K hK => ?_)
    go_big_quiet_op
    refine hK _ ?_; clear hK K
    refine wpMix_pure (by kernel_rfl) (fun K hK => ?_)
    go_big_quiet_op
    refine hK _ ?_; clear hK K
    refine wpMix_pure (by kernel_rfl) (fun K hK => ?_)
    go_big_quiet_op
    refine hK _ ?_; clear hK K
    refine wpMix_pure (by kernel_rfl) (fun K hK => ?_)
    go_big_quiet_op
    refine hK _ ?_; clear hK K
    refine wpMix_act (by kernel_rfl) (fun K hK => ?_)
    go_big_op
    refine (hcy _).mono ?_
    rintro e w' ⟨rfl, rfl⟩
    refine hK _ _ (regrown_of_below hS0) ?_
    clear hK K
    refine wpMix_act (by kernel_rfl) (fun K hK => ?_)
    go_big_op
    refine (hcm _).mono ?_
    rintro e w' ⟨rfl, rfl⟩
    refine hK _ _ (regrown_of_below hS0) ?_
    clear hK K
    refine wpMix_act (by kernel_rfl) (fun K hK => ?_)
    go_big_op
    refine (hcd _).mono ?_
    rintro e w' ⟨rfl, rfl⟩
    refine hK _ _ (regrown_of_below hS0) ?_
    clear hK K
    refine wpMix_act (by kernel_rfl) (fun K hK => ?_)
    go_big_op
    refine (DayNumber_any _ _ _ _ hry hrm hrd).mono ?_
    rintro e w' ⟨rfl, rfl⟩
    refine hK _ _ (regrown_of_below hS0) ?_
    clear hK K
    refine wpMix_pure (by kernel_rfl) (fun K hK => ?_)
    go_big_quiet_op
    refine hK _ ?_; clear hK K
    refine wpMix_pure (by kernel_rfl) (fun K hK => ?_)
    go_big_quiet_op
    refine hK _ ?_; clear hK K
    refine wpMix_pure (by kernel_rfl) (fun K hK => ?_)
    go_big_quiet_op
    refine hK _ ?_; clear hK K
    refine wpMix_pure (by kernel_rfl) (fun K hK => ?_)
    go_big_quiet_op
    refine hK _ ?_; clear hK K
    refine wpMix_pure (by kernel_rfl) (fun K hK => ?_)
    go_big_quiet_op
    refine hK _ ?_; clear hK K
    refine wpMix_nil ?_
    have hS := hS0
    by_cases hok : dateOk Y M Z
    · have e1 : dnV Y M Z = numD Y M Z := if_pos hok
      have e2 : dnC Y M Z = 0 := if_pos hok
      rw [e1, e2]
      obtain ⟨hy1, hy2⟩ := HT.out hok
      have h10s := dayS_size hok
      have HQ1 : Hid (dayS Y M Z = s → dayL Y M Z = s.data.toList) := fun e => congrArg (fun x : ByteArray => x.data.toList) e
      have HQ2 : Hid (dayL Y M Z = s.data.toList → dayS Y M Z = s) := fun e => data_inj e
      clear e1 e2
      go_wp2_with fail
      refine (DateText_any _ _ _ _ _ hok rfl (ht.below hS)).mono ?_
      rintro e w9 ⟨rfl, hb9⟩
      generalize dayS Y M Z = T at *
      have hB := hS.trans (hb9.mono hS.size)
      by_cases hq : T = s
      · have e3 : (T.toList == s.toList) = true := eqS_true.2 hq
        have HY := Lib.hid (hy1 (HQ1.out hq))
        clear hy1 hy2 hq
        go_wp2
        go_ret2
        exact RdR.yes HY.out hB
      · have e3 : (T.toList == s.toList) = false := bytes_beq_false hq
        have HX := Lib.hid (hy2 (fun e => hq (HQ2.out e)))
        clear hy1 hy2 hq
        go_wp2
        go_ret2
        exact RdR.no HX.out hB
    · have e1 : dnV Y M Z = 0 := if_neg hok
      have e2 : dnC Y M Z = 2 := if_neg hok
      have HX := Lib.hid (HN.out hok)
      rw [e1, e2]
      clear e1 e2
      go_wp2
      go_ret2
      exact RdR.no HX.out hS
  · have e0 : ((s.size : Int) == 10) = false := by rw [beq_eq_false_iff_ne]; omega
    have HZ := Lib.hid (rdF_size h10)
    go_enter Tryd.func13, Tryd.ntmps13
    go_wp2
    go_ret2
    exact RdR.no HZ.out (Below.refl _ _)
theorem lenCell (w : World) (T : TypeId) (k : Nat) (h : k < 12) : (w.alloc (.cells #[.int .i64 31, .int .i64 28, .int .i64 31, .int .i64 30, .int .i64 31, .int .i64 30, .int .i64 31, .int .i64 31, .int .i64 30, .int .i64 31, .int .i64 30, .int .i64 31] T)).cell? ⟨w.heap.size, k, none⟩ = some (.int .i64 (lenT ((k : Int) + 1))) := by
  rw [World.cell?_alloc_at _ _ _ _ rfl]
  have : k = 0 ∨ k = 1 ∨ k = 2 ∨ k = 3 ∨ k = 4 ∨ k = 5 ∨ k = 6 ∨ k = 7 ∨ k = 8 ∨ k = 9 ∨ k = 10 ∨ k = 11 := by omega
  rcases this with h | h | h | h | h | h | h | h | h | h | h | h <;> subst h <;> rfl
set_option maxRecDepth 100000 in
set_option maxHeartbeats 2000000 in
theorem l02Length_any (y m : Int) (w : World) (hy : 0 ≤ y) (h1 : 1 ≤ m) (h2 : m ≤ 12) :
    Calls Tryd.prog 57 #[.int .i64 y, .int .i64 m] w fun e w' => e = .returned (.int .i64 (lenM y m)) ∧ Below w.heap.size w w' := by
  have h4 := rem4 hy
  by_cases hc : leapI y = 1 ∧ m = 2
  · have e4 : (y % 4 == 0) = true := by rw [h4, hc.1]; rfl
    have e2 : (m == 2) = true := by rw [hc.2]; rfl
    have HR : Hid (lenM y m = 29) := by show _ = _; rw [lenM_more ⟨hc.1, .inr hc.2⟩, hc.2]; rfl
    clear h4 hc
    go_enter Tryd.func57, Tryd.ntmps57
    go_wp2
    go_ret
    exact ⟨ret_int HR.out.symm, (Below.refl _ _).alloc (Nat.le_refl _) _⟩
  · have HR := Lib.hid (lenM_plain (y := y) (m := m) (fun h => by rcases h.2 with e | e; omega; exact hc ⟨h.1, e⟩))
    obtain ⟨k, rfl⟩ : ∃ k : Nat, m = (k : Int) + 1 := ⟨(m - 1).toNat, by omega⟩
    have hk : k < 12 := by omega
    have hcell := fun W T => lenCell W T k hk
    have e5 : (k : Int) + 1 - 1 = k := by omega
    have hlr := lenT_range ((k : Int) + 1)
    generalize lenT ((k : Int) + 1) = t at *
    by_cases hm2 : (k : Int) + 1 = 2
    · have e2 : ((k : Int) + 1 == 2) = true := by rw [hm2]; rfl
      have e4 : (y % 4 == 0) = false := by
        rw [h4]
        rcases leapI_01 y with e | e
        · rw [e]; rfl
        · exact absurd ⟨e, hm2⟩ hc
      clear h4 hc hm2
      go_enter Tryd.func57, Tryd.ntmps57
      go_wp2
      go_ret
      exact ⟨ret_int HR.out.symm, (Below.refl _ _).alloc (Nat.le_refl _) _⟩
    · have e2 : ((k : Int) + 1 == 2) = false := by rw [beq_eq_false_iff_ne]; exact hm2
      clear h4 hc hm2
      go_enter Tryd.func57, Tryd.ntmps57
      go_wp2
      go_ret
      exact ⟨ret_int HR.out.symm, (Below.refl _ _).alloc (Nat.le_refl _) _⟩
def dgV (l : List UInt8) : Int := if l.all digB then fN l else 0
set_option maxRecDepth 100000 in
set_option maxHeartbeats 1000000 in
theorem l02Digits_any (s : ByteArray) (w : World) (hs : s.size ≤ 4) :
    Calls Tryd.prog 34 #[.string s] w fun e w' => e = .returned (.tuple #[.int .i64 (dgV s.data.toList), .bool (s.data.toList.all digB)]) ∧ w = w' := by
  have hlen : s.data.toList.length = s.size := by simp
  have HBAD : Hid (∀ k (h : k < s.data.toList.length), digB s.data.toList[k] = false → dgV s.data.toList = 0 ∧ s.data.toList.all digB = false) := fun k h hd => by
    have hf : s.data.toList.all digB = false := by
      rw [← Bool.not_eq_true, List.all_eq_true]
      intro e
      have := e _ (List.getElem_mem h)
      rw [hd] at this; cases this
    exact ⟨by unfold dgV; rw [if_neg (by rw [hf]; decide)], hf⟩
  have HOK : Hid (s.data.toList.all digB = true → dgV s.data.toList = ((valL 0 s.data.toList : Nat) : Int)) := fun h => by unfold dgV; rw [if_pos h, fN_ok h]
  generalize hV : dgV s.data.toList = V at *
  generalize hA : s.data.toList.all digB = A at *
  have HA0 := Lib.hid hA
  clear hA hV
  go_enter Tryd.func34, Tryd.ntmps34
  go_wp2
  go_loop [4, 5] (fun n i => ∃ k : Nat, k ≤ s.size ∧ i = .int .i64 k ∧ ∃ q : Nat, n = .int .i64 q ∧ q < 10000 ∧ Hid (q = valL 0 (s.data.toList.take k)) ∧ Hid ((s.data.toList.take k).all digB = true)) (fun _ i => s.size - (intOf i).toNat)
  case atStart => exact ⟨0, Nat.zero_le _, rfl, 0, rfl, by decide, rfl, rfl⟩
  case round =>
    obtain ⟨k, hk, rfl, q, rfl, hq, HQ, HA⟩ := hrel
    by_cases hlt : k < s.size
    · have hkl : k < s.data.toList.length := by omega
      have HE : Hid (s.data.toList[k] = s[k]) := rfl
      have hlt256 := s[k].toNat_lt
      have hdb := digitB_dig s[k]
      cases hd : digB s[k]
      · obtain ⟨hb1, hb2⟩ := HBAD.out k hkl (by rw [HE.out]; exact hd)
        have HB1 := Lib.hid hb1
        have HB2 := Lib.hid hb2
        rw [hd] at hdb
        clear hd hb1 hb2
        go_wp2_with fail
        refine (l01Digit_any _ _).mono ?_
        rintro e w' ⟨rfl, rfl⟩
        rw [hdb]
        go_wp2
        go_ret2
        exact ⟨by rw [HB1.out, HB2.out]; rfl, rfl⟩
      · obtain ⟨h48, h57⟩ := digB_iff.1 hd
        rw [hd] at hdb
        have HV := Lib.hid (valL_take hkl)
        have HA2 := Lib.hid (all_take hkl HA.out (by rw [HE.out]; exact hd))
        have hsm : ∀ r : Nat, r = 10 * q + (s[k].toNat - 48) → r < 10000 := by
          intro r hr
          have h1 := valL_small' HA2.out (by rw [List.length_take]; omega)
          have h2 := HV.out
          rw [← HQ.out, HE.out] at h2
          omega
        clear hd
        have hr := hsm _ rfl
        clear hsm
        go_wp2_with fail
        refine (l01Digit_any _ _).mono ?_
        rintro e w' ⟨rfl, rfl⟩
        rw [hdb]
        go_wp2
        go_round
        case rel => exact ⟨k + 1, by omega, by go_num, 10 * q + (s[k].toNat - 48), by go_num, hr, by have := HV.out; rw [← HQ.out, HE.out] at this; show _ = _; omega, HA2⟩
        case measure => simp [intOf]; omega
    · obtain rfl : k = s.size := by omega
      have hall := HA.out
      rw [← hlen, List.take_length] at hall
      have hq3 := HQ.out
      rw [← hlen, List.take_length] at hq3
      have HF := Lib.hid (HOK.out (HA0.out.symm.trans hall))
      have HAT := Lib.hid (HA0.out.symm.trans hall)
      have HQ3 := Lib.hid hq3
      clear hall hq3
      go_wp2
      go_ret2
      exact ⟨by rw [HF.out, ← HQ3.out, HAT.out]; rfl, rfl⟩
set_option maxRecDepth 100000 in
set_option maxHeartbeats 2000000 in
theorem l02Number_any (y m d : Int) (w : World) (hy : -1 ≤ y ∧ y ≤ 1000000) (hm : -1 ≤ m ∧ m ≤ 1000000) (hd : -1 ≤ d ∧ d ≤ 1000000) :
    Calls Tryd.prog 35 #[.int .i64 y, .int .i64 m, .int .i64 d] w fun e w' => e = .returned (.tuple #[.int .i64 (dnV y m d), .bool (decide (dateOk y m d))]) ∧ Below w.heap.size w w' := by
  cases hb1 : inB y 2000 2099
  · have hn : ¬ dateOk y m d := fun h => by have := (dateB.1 h).1; rw [hb1] at this; cases this
    have e1 : dnV y m d = 0 := if_neg hn
    have e2 : decide (dateOk y m d) = false := decide_eq_false hn
    rw [e1, e2]
    clear hn e1 e2
    go_enter Tryd.func35, Tryd.ntmps35
    go_wp2_with (go_at_call 37; refine (l00InB_any _ _ _ _).mono ?_; rintro e w' ⟨rfl, rfl⟩)
    go_ret2
    exact ⟨rfl, Below.refl _ _⟩
  · cases hb2 : inB m 1 12
    · have hn : ¬ dateOk y m d := fun h => by have := (dateB.1 h).2.1; rw [hb2] at this; cases this
      have e1 : dnV y m d = 0 := if_neg hn
      have e2 : decide (dateOk y m d) = false := decide_eq_false hn
      rw [e1, e2]
      clear hn e1 e2
      go_enter Tryd.func35, Tryd.ntmps35
      go_wp2_with (go_at_call 37; refine (l00InB_any _ _ _ _).mono ?_; rintro e w' ⟨rfl, rfl⟩)
      go_ret2
      exact ⟨rfl, Below.refl _ _⟩
    · obtain ⟨hy0, hy1⟩ := inB_true.1 hb1
      obtain ⟨hm0, hm1⟩ := inB_true.1 hb2
      have hl := fun w => l02Length_any y m w (by omega) hm0 hm1
      cases hb3 : inB d 1 (lenM y m)
      · have hn : ¬ dateOk y m d := fun h => by have := (dateB.1 h).2.2; rw [hb3] at this; cases this
        have e1 : dnV y m d = 0 := if_neg hn
        have e2 : decide (dateOk y m d) = false := decide_eq_false hn
        rw [e1, e2]
        clear hn e1 e2
        go_enter Tryd.func35, Tryd.ntmps35
        go_wp2_with (go_at_call 37; refine (l00InB_any _ _ _ _).mono ?_; rintro e w' ⟨rfl, rfl⟩)
        refine (hl _).mono ?_
        rintro e w1 ⟨rfl, hw1⟩
        go_wp2_with (go_at_call 37; refine (l00InB_any _ _ _ _).mono ?_; rintro e w' ⟨rfl, rfl⟩)
        go_ret2
        exact ⟨rfl, hw1⟩
      · have hok : dateOk y m d := dateB.2 ⟨hb1, hb2, hb3⟩
        have e1 : dnV y m d = numD y m d := if_pos hok
        have e2 : decide (dateOk y m d) = true := decide_eq_true hok
        have hlen := lenM_pos y hm0 hm1
        obtain ⟨hd0, hd1⟩ := inB_true.1 hb3
        have HD := Lib.hid (show numD y m d = yB y + cumM y m + d - 1 from rfl)
        have hyb : Hid (∀ t : Int, 2000 ≤ t → t ≤ 2099 → 0 ≤ yB t ∧ yB t ≤ 36525) := fun t h1 h2 => by unfold yB; omega
        have hst : Hid (∀ t : Int, yB (t + 1) = yB t + 365 + leapI t) := fun t => by rw [yB_step, lenM_zero]; omega
        have hcs : Hid (∀ t : Int, 1 ≤ t → t ≤ 12 → cumM y (t + 1) = cumM y t + lenM y t) := fun t h1 h2 => cumM_step y h1 h2
        have hcb : Hid (∀ t : Int, 1 ≤ t → t ≤ 12 → 0 ≤ cumM y t ∧ cumM y t ≤ 366) := fun t h1 h2 => by
          obtain ⟨p1, p2⟩ := cumM_bounds y h1 h2
          have := lenM_pos y h1 h2
          have := leapI_01 y
          omega
        have hlb : Hid (∀ t : Int, 1 ≤ t → t ≤ 12 → 28 ≤ lenM y t ∧ lenM y t ≤ 31) := fun t h1 h2 => lenM_pos y h1 h2
        rw [e1, e2]
        clear hok e1 e2
        go_enter Tryd.func35, Tryd.ntmps35
        go_wp2_with (go_at_call 37; refine (l00InB_any _ _ _ _).mono ?_; rintro e w' ⟨rfl, rfl⟩)
        refine (hl _).mono ?_
        rintro e w1 ⟨rfl, hw1⟩
        clear hl
        go_wp2_with (go_at_call 37; refine (l00InB_any _ _ _ _).mono ?_; rintro e w' ⟨rfl, rfl⟩)
        go_loop [8, 9] (fun n i => ∃ t : Int, i = .int .i64 t ∧ 2000 ≤ t ∧ t ≤ y ∧ ∃ q : Int, n = .int .i64 q ∧ 0 ≤ q ∧ q ≤ 40000 ∧ Hid (q = yB t + d - 1)) (fun _ i => (y - intOf i).toNat)
        case atStart => exact ⟨_, rfl, by omega, by omega, _, rfl, by omega, by omega, by show _ = yB 2000 + d - 1; show _ = 0 + d - 1; omega⟩
        case round =>
          obtain ⟨t, rfl, ht0, ht1, q, rfl, hq0, hq1, HQ⟩ := hrel
          by_cases hlt : t < y
          · have h4 := rem4 (y := t) (by omega)
            have hq2 : q + 366 ≤ 40000 ∨ True := .inr trivial
            have hqb : q ≤ 39000 := by have h6 := HQ.out; have := hyb.out t (by omega) (by omega); omega
            rcases leapI_01 t with hl0 | hl0
            · have e4 : (t % 4 == 0) = false := by rw [h4, hl0]; rfl
              have HL := Lib.hid hl0
              clear h4 hl0 hq2
              go_wp2
              go_round
              case rel => exact ⟨t + 1, by go_num, by omega, by omega, q + 365, by go_num, by omega, by omega, by have := HQ.out; have := hst.out t; have := HL.out; show _ = _; omega⟩
              case measure => simp [intOf]; omega
            · have e4 : (t % 4 == 0) = true := by rw [h4, hl0]; rfl
              have HL := Lib.hid hl0
              clear h4 hl0 hq2
              go_wp2
              go_round
              case rel => exact ⟨t + 1, by go_num, by omega, by omega, q + 365 + 1, by go_num, by omega, by omega, by have := HQ.out; have := hst.out t; have := HL.out; show _ = _; omega⟩
              case measure => simp [intOf]; omega
          · obtain rfl : t = y := by omega
            go_wp2
            go_loopw [8, 10] (fun n i wr => ∃ u : Int, i = .int .i64 u ∧ 1 ≤ u ∧ u ≤ m ∧ ∃ q : Int, n = .int .i64 q ∧ 0 ≤ q ∧ q ≤ 40000 ∧ Hid (q = yB t + cumM t u + d - 1) ∧ Below w.heap.size w wr) (fun _ i _ => (m - intOf i).toNat)
            case atStart => exact ⟨1, rfl, by omega, by omega, _, rfl, by omega, by omega, by have := HQ.out; have := cumM_one t; show _ = _; omega, hw1⟩
            case round =>
              obtain ⟨u, rfl, hu0, hu1, q2, rfl, hq20, hq21, HQ2, hbr⟩ := hrel
              by_cases hlt : u < m
              · have h3 := hlb.out u (by omega) (by omega)
                have hq2 : q2 + lenM t u ≤ 40000 := by
                  have h4 := hcb.out (u + 1) (by omega) (by omega)
                  have h5 := hyb.out t (by omega) (by omega)
                  have h6 := HQ2.out
                  have h2 := hcs.out u (by omega) (by omega)
                  omega
                go_wp2_with fail
                refine (l02Length_any t u _ (by omega) (by omega) (by omega)).mono ?_
                rintro e w2 ⟨rfl, hw2⟩
                go_wp2
                go_roundw
                case rel => exact ⟨u + 1, by go_num, by omega, by omega, q2 + lenM t u, by go_num, by omega, by omega, by have := HQ2.out; have := hcs.out u (by omega) (by omega); show _ = _; omega, hbr.trans (hw2.mono hbr.size)⟩
                case measure => simp [intOf]; omega
              · obtain rfl : u = m := by omega
                obtain rfl : q2 = numD t u d := by have := HQ2.out; have := HD.out; omega
                go_wp2
                go_ret2
                exact ⟨rfl, hbr⟩
theorem d2Y_any (s : ByteArray) (w : World) (h : s.size = 10) : Calls Tryd.prog 34 #[.string (s.extract 0 4)] w fun e w' => e = .returned (.tuple #[.int .i64 (dgV (s.data.toList.take 4)), .bool ((s.data.toList.take 4).all digB)]) ∧ w = w' := by
  have := l02Digits_any (s.extract 0 4) w (by rw [ByteArray.size_extract]; omega)
  rw [ex_y] at this; exact this
theorem d2M_any (s : ByteArray) (w : World) (h : s.size = 10) : Calls Tryd.prog 34 #[.string (s.extract 5 7)] w fun e w' => e = .returned (.tuple #[.int .i64 (dgV ((s.data.toList.take 7).drop 5)), .bool (((s.data.toList.take 7).drop 5).all digB)]) ∧ w = w' := by
  have := l02Digits_any (s.extract 5 7) w (by rw [ByteArray.size_extract]; omega)
  rw [ex_m] at this; exact this
theorem d2D_any (s : ByteArray) (w : World) (h : s.size = 10) : Calls Tryd.prog 34 #[.string (s.extract 8 10)] w fun e w' => e = .returned (.tuple #[.int .i64 (dgV (s.data.toList.drop 8)), .bool ((s.data.toList.drop 8).all digB)]) ∧ w = w' := by
  have := l02Digits_any (s.extract 8 s.size) w (by rw [ByteArray.size_extract]; omega)
  rw [ex_d, h] at this; exact this
theorem dgV_ok {l : List UInt8} (h : l.all digB = true) : dgV l = fN l := by unfold dgV; rw [if_pos h]
theorem rdF_dig {s : ByteArray} (h : ((s.data.toList.take 4).all digB && ((s.data.toList.take 7).drop 5).all digB && (s.data.toList.drop 8).all digB) = false) : rdF s = none := by
  refine rdF_date fun hd => ?_
  obtain ⟨⟨h1, _⟩, ⟨h2, _⟩, h3, _⟩ := hd
  have a1 := (fN_pos (l := s.data.toList.take 4) (by have : (2000 : Int) ≤ fN (s.data.toList.take 4) := h1; omega)).1
  have a2 := (fN_pos (l := (s.data.toList.take 7).drop 5) (by have : (1 : Int) ≤ fN ((s.data.toList.take 7).drop 5) := h2; omega)).1
  have a3 := (fN_pos (l := s.data.toList.drop 8) (by have : (1 : Int) ≤ fN (s.data.toList.drop 8) := h3; omega)).1
  rw [a1, a2, a3] at h; cases h
set_option maxRecDepth 100000 in
set_option maxHeartbeats 4000000 in
theorem l02Read_any (s : ByteArray) (w : World) (hs : s.size ≤ 1048576) :
    Calls Tryd.prog 20 #[.string s] w fun e w' => RdR s w e w' := by
  by_cases h10 : s.size = 10
  · have e0 : ((s.size : Int) == 10) = true := by rw [beq_iff_eq]; omega
    have h4l : 4 < s.size := by omega
    have h7l : 7 < s.size := by omega
    by_cases h4 : s[4] = 45
    · have e4 : ((s[4].toNat : Int) != 45) = false := by rw [h4]; rfl
      by_cases h7 : s[7] = 45
      · have e7 : ((s[7].toNat : Int) != 45) = false := by rw [h7]; rfl
        have HALL := Lib.hid (fun hd => rdF_some (s := s) h10 (by rw [at_listN h4l, h4]) (by rw [at_listN h7l, h7]) hd)
        have HDIG := Lib.hid (fun h => rdF_dig (s := s) h)
        have HNO := Lib.hid (fun hd => rdF_date (s := s) hd)
        obtain ⟨hry, hrm, hrd⟩ := f_range s h10
        have hcy := fun w => d2Y_any s w h10
        have hcm := fun w => d2M_any s w h10
        have hcd := fun w => d2D_any s w h10
        have e1 := fun h => dgV_ok (l := s.data.toList.take 4) h
        have e2 := fun h => dgV_ok (l := (s.data.toList.take 7).drop 5) h
        have e3 := fun h => dgV_ok (l := s.data.toList.drop 8) h
        change (s.data.toList.take 4).all digB = true → dgV (s.data.toList.take 4) = yF s.data.toList at e1
        change ((s.data.toList.take 7).drop 5).all digB = true → dgV ((s.data.toList.take 7).drop 5) = mF s.data.toList at e2
        change (s.data.toList.drop 8).all digB = true → dgV (s.data.toList.drop 8) = dF s.data.toList at e3
        have E1 := Lib.hid e1
        have E2 := Lib.hid e2
        have E3 := Lib.hid e3
        clear e1 e2 e3 h4 h7
        generalize (s.data.toList.take 4).all digB = b1 at *
        generalize ((s.data.toList.take 7).drop 5).all digB = b2 at *
        generalize (s.data.toList.drop 8).all digB = b3 at *
        generalize dgV (s.data.toList.take 4) = v1 at *
        generalize dgV ((s.data.toList.take 7).drop 5) = v2 at *
        generalize dgV (s.data.toList.drop 8) = v3 at *
        generalize yF s.data.toList = Y at *
        generalize mF s.data.toList = M at *
        generalize dF s.data.toList = Z at *
        go_enter Tryd.func20, Tryd.ntmps20
        go_wp2_with fail
        refine (hcy _).mono ?_
        rintro e w' ⟨rfl, rfl⟩
        go_wp2_with fail
        refine (hcm _).mono ?_
        rintro e w' ⟨rfl, rfl⟩
        go_wp2_with fail
        refine (hcd _).mono ?_
        rintro e w' ⟨rfl, rfl⟩
        cases hbb : (b1 && b2 && b3)
        · have HX := Lib.hid (HDIG.out hbb)
          cases b1
          · clear hbb
            go_wp2
            go_ret2
            exact RdR.no HX.out (Below.refl _ _)
          · cases b2
            · clear hbb
              go_wp2
              go_ret2
              exact RdR.no HX.out (Below.refl _ _)
            · cases b3
              · clear hbb
                go_wp2
                go_ret2
                exact RdR.no HX.out (Below.refl _ _)
              · cases hbb
        · simp only [Bool.and_eq_true] at hbb
          obtain ⟨⟨rfl, rfl⟩, rfl⟩ := hbb
          obtain rfl := E1.out rfl
          obtain rfl := E2.out rfl
          obtain rfl := E3.out rfl
          by_cases hok : dateOk v1 v2 v3
          · have q1 : dnV v1 v2 v3 = numD v1 v2 v3 := if_pos hok
            have q2 : decide (dateOk v1 v2 v3) = true := decide_eq_true hok
            have HY := Lib.hid (HALL.out hok)
            clear hok
            go_wp2_with fail
            refine (l02Number_any _ _ _ _ hry hrm hrd).mono ?_
            rintro e w1 ⟨rfl, hw1⟩
            rw [q1, q2]
            clear q1 q2
            go_wp2
            go_ret2
            exact RdR.yes HY.out hw1
          · have q1 : dnV v1 v2 v3 = 0 := if_neg hok
            have q2 : decide (dateOk v1 v2 v3) = false := decide_eq_false hok
            have HX := Lib.hid (HNO.out hok)
            clear hok
            go_wp2_with fail
            refine (l02Number_any _ _ _ _ hry hrm hrd).mono ?_
            rintro e w1 ⟨rfl, hw1⟩
            rw [q1, q2]
            clear q1 q2
            go_wp2
            go_ret2
            exact RdR.no HX.out hw1
      · have e7 : ((s[7].toNat : Int) != 45) = true := by
          rw [bne_iff_ne]; intro e
          exact h7 (UInt8.toNat_inj.1 (by have : (45 : UInt8).toNat = 45 := rfl; omega))
        have HX := Lib.hid (rdF_seven (s := s) (by rw [at_listN h7l]; intro e; exact h7 (Option.some.inj e)))
        clear h4 h7
        go_enter Tryd.func20, Tryd.ntmps20
        go_wp2
        go_ret2
        exact RdR.no HX.out (Below.refl _ _)
    · have e4 : ((s[4].toNat : Int) != 45) = true := by
        rw [bne_iff_ne]; intro e
        exact h4 (UInt8.toNat_inj.1 (by have : (45 : UInt8).toNat = 45 := rfl; omega))
      have HX := Lib.hid (rdF_four (s := s) (by rw [at_listN h4l]; intro e; exact h4 (Option.some.inj e)))
      clear h4
      go_enter Tryd.func20, Tryd.ntmps20
      go_wp2
      go_ret2
      exact RdR.no HX.out (Below.refl _ _)
  · have e0 : ((s.size : Int) == 10) = false := by rw [beq_eq_false_iff_ne]; omega
    have HZ := Lib.hid (rdF_size h10)
    go_enter Tryd.func20, Tryd.ntmps20
    go_wp2
    go_ret2
    exact RdR.no HZ.out (Below.refl _ _)

end Go.Proofs.YtaaholabodchaaaDoor
