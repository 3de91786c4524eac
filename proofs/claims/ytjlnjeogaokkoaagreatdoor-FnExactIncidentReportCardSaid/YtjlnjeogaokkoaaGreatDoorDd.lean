/- The reference's text of a day. -/
import Derived.Test.YtjlnjeogaokkoaaGreatDoorLv
namespace Go.Proofs.YtjlnjeogaokkoaaGreatDoor
open Go.RowKit
set_option linter.unusedVariables false

/-- The one loop over months: it goes on exactly before the month of the day. -/
theorem one_go {y m d t u r : Int} (h : dateOk y m d) (ht0 : 2000 ≤ t) (ht : t ≤ y) (hu0 : 1 ≤ u) (hu1 : u ≤ 12) (hum : t = y → u ≤ m) (hr : r = numD y m d - yB t - cumM t u) : 0 ≤ r ∧ (lenM t u ≤ r ↔ (t < y ∨ u < m)) := by
  have hb := cumM_bounds t hu0 hu1
  have hlz := lenM_zero t
  rcases Int.lt_or_eq_of_le ht with hlt | rfl
  · have h1 := yB_mono hlt
    have h2 := cumM_bounds y h.2.1.1 h.2.1.2
    have e : numD y m d = yB y + cumM y m + d - 1 := rfl
    have h3 := h.2.2.1
    have h4 := lenM_pos t hu0 hu1
    constructor
    · omega
    · constructor
      · intro _; exact .inl hlt
      · intro _; omega
  · have e : numD t m d = yB t + cumM t m + d - 1 := rfl
    have := month_go (t := u) (r := r) h hu0 (hum rfl) (by omega)
    constructor
    · exact this.1
    · rw [this.2]
      constructor
      · intro h; exact .inr h
      · rintro (h | h)
        · omega
        · exact h
theorem two_itoa : ∀ k : Fin 100, (if (k.1 : Int) < 10 then [(48 : UInt8)] else []) ++ Lib.itoa (k.1 : Int) = two (k.1 : Int) := by decide +kernel
theorem two_dec {n : Int} (h0 : 0 ≤ n) (h1 : n < 100) : (if n < 10 then [(48 : UInt8)] else []) ++ Lib.itoa n = two n := by
  have := two_itoa ⟨n.toNat, by omega⟩
  simp only [Int.toNat_of_nonneg h0] at this
  exact this
set_option maxRecDepth 100000 in
set_option maxHeartbeats 4000000 in
theorem l02Date_any (y m d n : Int) (w : World) (h : dateOk y m d) (hn : n = numD y m d) :
    Calls Tryz.prog 28 #[.int .i64 n] w fun e w' => e = .returned (.tuple #[.int .i64 y, .int .i64 m, .int .i64 d]) ∧ Below w.heap.size w w' := by
  have hb0 := numD_bounds h
  have HG := Lib.hid (fun (t u r : Int) h1 h2 h3 h4 h5 h6 => one_go (t := t) (u := u) (r := r) h h1 h2 h3 h4 h5 h6)
  have hyb : Hid (∀ t : Int, yB (t + 1) = yB t + lenM t 0) := yB_step
  have hc12 : Hid (∀ t : Int, cumM t 12 + lenM t 12 = lenM t 0) := fun t => by
    have := leapI_01 t
    simp [cumM, lenM]; omega
  have hcs : Hid (∀ t u : Int, 1 ≤ u → u ≤ 12 → cumM t (u + 1) = cumM t u + lenM t u) := fun t u h1 h2 => cumM_step t h1 h2
  have hlb : Hid (∀ t u : Int, 1 ≤ u → u ≤ 12 → 28 ≤ lenM t u ∧ lenM t u ≤ 31) := fun t u h1 h2 => lenM_pos t h1 h2
  have HD := Lib.hid (show numD y m d = yB y + cumM y m + d - 1 from rfl)
  have HC1 : Hid (∀ t : Int, cumM t 1 = 0) := cumM_one
  have HY0 : Hid (yB 2000 = 0) := rfl
  obtain ⟨⟨hy0, hy1⟩, ⟨hm0, hm1⟩, hd0, hd1⟩ := h
  have hlen := lenM_pos y hm0 hm1
  have HN := Lib.hid hn
  rw [← hn] at hb0
  clear hn
  go_enter Tryz.func28, Tryz.ntmps28
  go_wp2
  go_loopw [0, 5, 6] (fun a b c wr => ∃ r t u : Int, a = .int .i64 r ∧ b = .int .i64 t ∧ c = .int .i64 u ∧ 2000 ≤ t ∧ t ≤ y ∧ 1 ≤ u ∧ u ≤ 12 ∧ (t = y → u ≤ m) ∧ 0 ≤ r ∧ r ≤ 40000 ∧ Hid (r = numD y m d - yB t - cumM t u) ∧ Below w.heap.size w wr) (fun _ b c _ => (12 * (y - intOf b) + (12 - intOf c)).toNat)
  case atStart => exact ⟨n, 2000, 1, rfl, rfl, rfl, by omega, by omega, by omega, by omega, by omega, by omega, by omega, by have := HN.out; have := HC1.out 2000; have := HY0.out; show _ = _; omega, Below.refl _ _⟩
  case round =>
    obtain ⟨r, t, u, rfl, rfl, rfl, ht0, ht1, hu0, hu1, hum, hr0, hr1, HQ, hb⟩ := hrel
    have hg := (HG.out t u r ht0 ht1 hu0 hu1 hum HQ.out).2
    have hl := hlb.out t u hu0 hu1
    by_cases hlt : t < y ∨ u < m
    · have hge : lenM t u ≤ r := hg.2 hlt
      clear hg
      go_wp2_with fail
      refine (l02Length_any t u _ (by omega) hu0 hu1).mono ?_
      rintro e w1 ⟨rfl, hb1⟩
      have hB1 := hb.trans (hb1.mono hb.size)
      go_wp2_with fail
      refine (l02Length_any t u _ (by omega) hu0 hu1).mono ?_
      rintro e w2 ⟨rfl, hb2⟩
      have hB2 := hB1.trans (hb2.mono hB1.size)
      clear hb1 hb2
      by_cases h12 : u = 12
      · subst h12
        have htl : t < y := by omega
        go_wp2
        go_roundw
        case rel => exact ⟨r - lenM t 12, t + 1, 1, by go_num, by go_num, rfl, by omega, by omega, by omega, by omega, by omega, by omega, by omega, by have := HQ.out; have := hyb.out t; have := hc12.out t; have := HC1.out (t + 1); show _ = _; omega, hB2⟩
        case measure => simp [intOf]; omega
      · go_wp2
        go_roundw
        case rel => exact ⟨r - lenM t u, t, u + 1, by go_num, rfl, by go_num, by omega, by omega, by omega, by omega, by omega, by omega, by omega, by have := HQ.out; have := hcs.out t u hu0 hu1; show _ = _; omega, hB2⟩
        case measure => simp [intOf]; omega
    · have hge : ¬ lenM t u ≤ r := fun e => hlt (hg.1 e)
      clear hg
      obtain rfl : t = y := by omega
      obtain rfl : u = m := by have := hum rfl; omega
      obtain rfl : r = d - 1 := by have := HQ.out; have := HD.out; omega
      have e2 : d - 1 + 1 = d := by omega
      have e1 : wrap64 (d - 1 + 1) = d := by unfold wrap64; omega
      go_wp2_with fail
      refine (l02Length_any t u _ (by omega) hu0 hu1).mono ?_
      rintro e w1 ⟨rfl, hb1⟩
      have hB1 := hb.trans (hb1.mono hb.size)
      go_wp2
      go_ret3
      exact ⟨rfl, hB1⟩
set_option maxRecDepth 100000 in
set_option maxHeartbeats 2000000 in
theorem l02Two_any (n : Int) (w : World) (h0 : 0 ≤ n) (h1 : n < 100) :
    Calls Tryz.prog 29 #[.int .i64 n] w fun e w' => e = .returned (.string ⟨(two n).toArray⟩) ∧ Below w.heap.size w w' := by
  have h2 := two_dec h0 h1
  by_cases h : n < 10
  · rw [if_pos h] at h2
    have HX : Hid ((⟨#[48]⟩ : ByteArray) ++ decS n = ⟨(two n).toArray⟩) := by
      show _ = _
      rw [← h2]
      exact ByteArray.mk_append_mk [48] _
    have hsz : (decS n).size ≤ 30 := by rw [decS_size]; have := itoa_len20 (n := n) (by omega) (by omega); omega
    clear h2
    go_enter Tryz.func29, Tryz.ntmps29
    go_wp2_with fail
    refine (l01Dec_any n _ (by omega) (by omega)).mono ?_
    rintro e w1 ⟨rfl, hb⟩
    generalize decS n = t at *
    go_wp2
    go_ret
    exact ⟨ret_str HX.out, hb⟩
  · rw [if_neg h, List.nil_append] at h2
    have HX : Hid (decS n = ⟨(two n).toArray⟩) := by show _ = _; rw [← h2]; rfl
    clear h2
    go_enter Tryz.func29, Tryz.ntmps29
    go_wp2_with fail
    refine (l01Dec_any n _ (by omega) (by omega)).mono ?_
    rintro e w1 ⟨rfl, hb⟩
    generalize decS n = t at *
    go_wp2
    go_ret
    exact ⟨ret_str HX.out, hb⟩
set_option maxRecDepth 100000 in
set_option maxHeartbeats 2000000 in
theorem l02Text_any (y m d n : Int) (w : World) (h : dateOk y m d) (hn : n = numD y m d) :
    Calls Tryz.prog 15 #[.int .i64 n] w fun e w' => e = .returned (.string (dayS y m d)) ∧ Below w.heap.size w w' := by
  have HX := Lib.hid (dayS_cat y m d)
  have hD := fun w => l02Date_any y m d n w h hn
  obtain ⟨⟨hy0, hy1⟩, ⟨hm0, hm1⟩, hd0, hd1⟩ := id h
  have hlen := lenM_pos y hm0 hm1
  have hsz : (decS y).size ≤ 30 := by rw [decS_size]; have := itoa_len20 (n := y) (by omega) (by omega); omega
  clear hn h
  go_enter Tryz.func15, Tryz.ntmps15
  go_wp2_with fail
  refine (hD _).mono ?_
  rintro e w1 ⟨rfl, hb1⟩
  have k1 := two_size m
  have k2 := two_size d
  go_wp2_with fail
  refine (l01Dec_any y _ (by omega) (by omega)).mono ?_
  rintro e w2 ⟨rfl, hb2⟩
  have hB2 := hb1.trans (hb2.mono hb1.size)
  generalize decS y = a at *
  have s1 : (a ++ ⟨#[45]⟩).size ≤ 31 := by rw [ByteArray.size_append]; show _ + 1 ≤ _; omega
  go_wp2_with fail
  refine (l02Two_any m _ (by omega) (by omega)).mono ?_
  rintro e w3 ⟨rfl, hb3⟩
  have hB3 := hB2.trans (hb3.mono hB2.size)
  generalize (⟨(two m).toArray⟩ : ByteArray) = b at *
  have s2 : (a ++ ⟨#[45]⟩ ++ b).size ≤ 33 := by rw [ByteArray.size_append]; omega
  have s3 : (a ++ ⟨#[45]⟩ ++ b ++ ⟨#[45]⟩).size ≤ 34 := by rw [ByteArray.size_append]; show _ + 1 ≤ _; omega
  go_wp2_with fail
  refine (l02Two_any d _ (by omega) (by omega)).mono ?_
  rintro e w4 ⟨rfl, hb4⟩
  have hB4 := hB3.trans (hb4.mono hB3.size)
  generalize (⟨(two d).toArray⟩ : ByteArray) = c at *
  go_wp2
  go_ret
  exact ⟨ret_str HX.out, hB4⟩
end Go.Proofs.YtjlnjeogaokkoaaGreatDoor
