/- Parts of the proof: Nu, Dt, Nm. -/
import Derived.Test.YthabmofkjdiccaaGreatDoorG01
import Derived.Lib.ParseIntBTie
namespace Go.Proofs.YthabmofkjdiccaaGreatDoor
open Go.RowKit
set_option linter.unusedVariables false

def digB (c : UInt8) : Bool := decide (48 ≤ c.toNat) && decide (c.toNat ≤ 57)
def valL (a : Nat) (l : List UInt8) : Nat := l.foldl (fun n c => 10 * n + (c.toNat - 48)) a
theorem valL_nil (a : Nat) : valL a [] = a := rfl
theorem valL_cons (a : Nat) (c : UInt8) (l : List UInt8) : valL a (c :: l) = valL (10 * a + (c.toNat - 48)) l := by unfold valL; rw [List.foldl_cons]
theorem valL_snoc (a : Nat) (l : List UInt8) (c : UInt8) : valL a (l ++ [c]) = 10 * valL a l + (c.toNat - 48) := by
  unfold valL; rw [List.foldl_append]; rfl
theorem digB_of (k : Nat) : digB (UInt8.ofNat (48 + k % 10)) = true := by
  unfold digB; rw [UInt8.toNat_ofNat']
  simp only [Bool.and_eq_true, decide_eq_true_eq]; omega
theorem digB_val (k : Nat) : (UInt8.ofNat (48 + k % 10)).toNat - 48 = k % 10 := by
  rw [UInt8.toNat_ofNat']; omega
theorem dig_all : ∀ u, (dig u).all digB = true := by
  intro u
  induction u using Nat.strongRecOn with
  | _ u ih =>
    by_cases h : u = 0
    · subst h; rw [dig_zero]; rfl
    · rw [dig_step h, List.all_append, ih (u / 10) (by omega)]
      simp only [List.all_cons, List.all_nil, Bool.and_true, Bool.true_and]
      exact digB_of u
theorem dig_val : ∀ u, valL 0 (dig u) = u := by
  intro u
  induction u using Nat.strongRecOn with
  | _ u ih =>
    by_cases h : u = 0
    · subst h; rw [dig_zero]; rfl
    · rw [dig_step h, valL_snoc, ih (u / 10) (by omega), digB_val]; omega
theorem dig_ge : ∀ (k u : Nat), 10 ^ k ≤ u → k + 1 ≤ (dig u).length
  | 0, u, h => by
    rw [Nat.pow_zero] at h
    rw [dig_step (by omega)]; simp
  | k + 1, u, h => by
    have hp : 0 < 10 ^ k := Nat.pow_pos (by decide)
    rw [Nat.pow_succ] at h
    have := dig_ge k (u / 10) (by omega)
    rw [dig_step (by omega), List.length_append]; simp; omega
theorem dig_lt {k u : Nat} (h : (dig u).length ≤ k) : u < 10 ^ k := by
  rcases Nat.lt_or_ge u (10 ^ k) with h1 | h1
  · exact h1
  · have := dig_ge k u h1; omega
theorem dig_head : ∀ u, (dig u).head? ≠ some 48 := by
  intro u
  induction u using Nat.strongRecOn with
  | _ u ih =>
    by_cases h : u = 0
    · subst h; rw [dig_zero]; simp
    · rw [dig_step h]
      by_cases h1 : u / 10 = 0
      · rw [h1, dig_zero]
        simp only [List.nil_append, List.head?_cons, ne_eq, Option.some.injEq]
        intro e
        have e2 := congrArg UInt8.toNat e
        rw [UInt8.toNat_ofNat'] at e2
        have : (48 : UInt8).toNat = 48 := rfl
        omega
      · have ih1 := ih (u / 10) (by omega)
        rw [dig_step h1] at ih1 ⊢
        rw [List.head?_append] at ih1 ⊢
        simp only [List.head?_append] at ih1 ⊢
        revert ih1
        generalize (dig (u / 10 / 10)).head? = o
        cases o <;> simp
theorem dig_first (u : Nat) (h : u ≠ 0) : ∃ c r, dig u = c :: r := by
  rcases hd : dig u with _ | ⟨c, r⟩
  · rw [dig_step h] at hd; simp at hd
  · exact ⟨c, r, rfl⟩
/-- Digits that do not begin with 0 spell their number's digits. -/
theorem dig_back : ∀ (n : Nat) (l : List UInt8), l.length = n → l.all digB = true → l.head? ≠ some 48 → dig (valL 0 l) = l ∧ (l ≠ [] → valL 0 l ≠ 0) := by
  intro n
  induction n with
  | zero => intro l hl _ _; obtain rfl := List.eq_nil_of_length_eq_zero hl; exact ⟨by rw [valL_nil, dig_zero], fun h => absurd rfl h⟩
  | succ n ih =>
    intro l hl ha hh
    obtain ⟨p, c, rfl⟩ : ∃ p c, l = p ++ [c] := ⟨l.dropLast, l.getLast (by intro h; subst h; simp at hl), (List.dropLast_concat_getLast _).symm⟩
    rw [List.all_append] at ha
    simp only [List.all_cons, List.all_nil, Bool.and_true, Bool.and_eq_true] at ha
    obtain ⟨ha1, ha2⟩ := ha
    unfold digB at ha2
    simp only [Bool.and_eq_true, decide_eq_true_eq] at ha2
    have hpl : p.length = n := by simp at hl; exact hl
    rw [valL_snoc]
    rcases Nat.eq_zero_or_pos n with h0 | h0
    · obtain rfl : p = [] := List.eq_nil_of_length_eq_zero (by omega)
      have hc : c.toNat ≠ 48 := by
        intro e
        refine hh ?_
        simp only [List.nil_append, List.head?_cons, Option.some.injEq]
        exact UInt8.toNat_inj.1 e
      rw [valL_nil]
      refine ⟨?_, fun _ => by omega⟩
      rw [dig_step (by omega), show (10 * 0 + (c.toNat - 48)) / 10 = 0 by omega, dig_zero]
      rw [show 48 + (10 * 0 + (c.toNat - 48)) % 10 = c.toNat by omega, UInt8.ofNat_toNat]
    · have hpn : p ≠ [] := by intro h; subst h; simp at hpl; omega
      have hph : p.head? ≠ some 48 := by
        cases p with
        | nil => exact absurd rfl hpn
        | cons x p => simpa using hh
      obtain ⟨i1, i2⟩ := ih p hpl ha1 hph
      have i3 := i2 hpn
      refine ⟨?_, fun _ => by omega⟩
      rw [dig_step (by omega), show (10 * valL 0 p + (c.toNat - 48)) / 10 = valL 0 p by omega, i1]
      rw [show 48 + (10 * valL 0 p + (c.toNat - 48)) % 10 = c.toNat by omega, UInt8.ofNat_toNat]
theorem valL_lt : ∀ (l : List UInt8) (a k : Nat), l.all digB = true → a < 10 ^ k → valL a l < 10 ^ (k + l.length)
  | [], a, k, _, h => h
  | c :: l, a, k, ha, h => by
    simp only [List.all_cons, Bool.and_eq_true] at ha
    have h1 := ha.1
    unfold digB at h1
    simp only [Bool.and_eq_true, decide_eq_true_eq] at h1
    have := valL_lt l (10 * a + (c.toNat - 48)) (k + 1) ha.2 (by rw [Nat.pow_succ]; omega)
    rw [valL_cons, List.length_cons, show k + (l.length + 1) = k + 1 + l.length by omega]
    exact this

/-- The number behind a sign. -/
def bodyL (l : List UInt8) : List UInt8 := if l.head? = some 45 then l.drop 1 else l
def numL (l : List UInt8) : Option Int :=
  if (bodyL l).isEmpty || decide (18 < (bodyL l).length) || (decide ((bodyL l).head? = some 48) && decide (1 < l.length)) || !(bodyL l).all digB then none
  else some (if l.head? = some 45 then -(valL 0 (bodyL l) : Int) else (valL 0 (bodyL l) : Int))
theorem itoa_natL {u : Nat} (h : u ≠ 0) : Lib.itoa (u : Int) = dig u := by rw [itoa_ne (by omega), if_neg (by omega)]; rfl
theorem itoa_negL {u : Nat} (h : u ≠ 0) : Lib.itoa (-(u : Int)) = 45 :: dig u := by rw [itoa_ne (by omega), if_pos (by omega), Int.natAbs_neg]; rfl
theorem itoa_zeroL : Lib.itoa 0 = [48] := by
  have h := decS_zero
  unfold decS at h
  have := congrArg (fun s : ByteArray => s.data.toList) h
  simpa using this
theorem dig_head45 (u : Nat) : (dig u).head? ≠ some 45 := by
  intro h
  have ha := dig_all u
  cases hd : dig u with
  | nil => rw [hd] at h; cases h
  | cons c r =>
    rw [hd] at h ha
    injection h with h
    subst h
    simp [digB] at ha
theorem itoa_body {v : Int} : (bodyL (Lib.itoa v)).length = if v = 0 then 1 else (dig v.natAbs).length := by
  by_cases h0 : v = 0
  · subst h0; rw [itoa_zeroL, if_pos rfl]; rfl
  · rw [if_neg h0]
    by_cases hn : v < 0
    · obtain ⟨u, rfl⟩ : ∃ u : Nat, v = -(u : Int) := ⟨v.natAbs, by omega⟩
      rw [itoa_negL (by omega), Int.natAbs_neg]; rfl
    · obtain ⟨u, rfl⟩ : ∃ u : Nat, v = (u : Int) := ⟨v.natAbs, by omega⟩
      rw [itoa_natL (by omega)]
      unfold bodyL
      rw [if_neg (dig_head45 u)]; rfl
/-- The number whose decimal form the bytes are. -/
theorem numL_itoa (v : Int) (h : v.natAbs < 10 ^ 18) : numL (Lib.itoa v) = some v := by
  by_cases h0 : v = 0
  · subst h0; rw [itoa_zeroL]; decide
  · have hne : v.natAbs ≠ 0 := by omega
    obtain ⟨c, r, hcr⟩ := dig_first v.natAbs hne
    have hl := dig_len 18 v.natAbs h
    have hv := dig_val v.natAbs
    have hh := dig_head v.natAbs
    have h45 := dig_head45 v.natAbs
    have ha := dig_all v.natAbs
    by_cases hn : v < 0
    · obtain ⟨u, rfl⟩ : ∃ u : Nat, v = -(u : Int) := ⟨v.natAbs, by omega⟩
      rw [Int.natAbs_neg, Int.natAbs_natCast] at *
      rw [itoa_negL (by omega)]
      have hb : bodyL (45 :: dig u) = dig u := rfl
      unfold numL
      rw [hb, if_neg, List.head?_cons, if_pos rfl, hv]
      rw [ha, hcr]
      rw [hcr] at hh hl
      simp only [List.head?_cons, Option.some.injEq, ne_eq] at hh
      simp [hh]; simpa using hl
    · obtain ⟨u, rfl⟩ : ∃ u : Nat, v = (u : Int) := ⟨v.natAbs, by omega⟩
      rw [Int.natAbs_natCast] at *
      rw [itoa_natL (by omega)]
      have hb : bodyL (dig u) = dig u := by unfold bodyL; rw [if_neg h45]
      unfold numL
      rw [hb, if_neg, if_neg h45, hv]
      rw [ha, hcr]
      rw [hcr] at hh hl
      simp only [List.head?_cons, Option.some.injEq, ne_eq] at hh
      simp [hh]; simpa using hl
theorem numL_back {l : List UInt8} {v : Int} (h : numL l = some v) : Lib.itoa v = l ∧ v.natAbs < 10 ^ 18 ∧ (bodyL l).length ≤ 18 := by
  unfold numL at h
  split at h
  · cases h
  · rename_i hc
    simp only [Bool.or_eq_true, decide_eq_true_eq, Bool.and_eq_true, Bool.not_eq_true', not_or, List.isEmpty_iff] at hc
    obtain ⟨⟨⟨h1, h2⟩, h3⟩, h4⟩ := hc
    have ha : (bodyL l).all digB = true := by simpa using h4
    have h18 : (bodyL l).length ≤ 18 := by omega
    have hlt := valL_lt (bodyL l) 0 0 ha (by decide)
    have hlt2 : valL 0 (bodyL l) < 10 ^ 18 := Nat.lt_of_lt_of_le hlt (Nat.pow_le_pow_right (by decide) (by omega))
    injection h with h
    by_cases h45 : l.head? = some 45
    · rw [if_pos h45] at h
      have hb : bodyL l = l.drop 1 := by unfold bodyL; rw [if_pos h45]
      obtain ⟨r, rfl⟩ : ∃ r, l = 45 :: r := by
        cases l with
        | nil => cases h45
        | cons c r => injection h45 with h45; exact ⟨r, by rw [h45]⟩
      rw [show bodyL (45 :: r) = r from rfl] at *
      have h48 : r.head? ≠ some 48 := by
        intro e
        refine h3 ⟨e, ?_⟩
        cases r with
        | nil => exact absurd rfl h1
        | cons _ _ => simp
      obtain ⟨d1, d2⟩ := dig_back _ r rfl ha h48
      have d3 := d2 h1
      refine ⟨?_, by omega, h18⟩
      rw [← h, itoa_negL d3, d1]
    · rw [if_neg h45] at h
      have hb : bodyL l = l := by unfold bodyL; rw [if_neg h45]
      rw [hb] at h h1 h2 h3 ha h18 hlt hlt2
      by_cases h48 : l.head? = some 48
      · have hl1 : l.length = 1 := by
          have hp : l.length ≠ 0 := by intro e; exact h1 (List.eq_nil_of_length_eq_zero e)
          have : ¬ 1 < l.length := fun e => h3 ⟨h48, e⟩
          omega
        match l, hl1, h48 with
        | [c], _, h48 =>
          injection h48 with h48
          subst h48
          subst h
          exact ⟨itoa_zeroL, by decide, by decide⟩
      · obtain ⟨d1, d2⟩ := dig_back _ l rfl ha h48
        have d3 := d2 h1
        refine ⟨?_, by omega, by rw [hb]; exact h18⟩
        rw [← h, itoa_natL d3, d1]
theorem parseUintM_digits (M : Nat) : ∀ (l : List UInt8) (a k : Nat), l.all digB = true → a < 10 ^ k → k + l.length ≤ 18 → 10 ^ 18 ≤ M → Lib.parseUintM M a l = .ok (valL a l)
  | [], a, k, _, _, _, _ => rfl
  | c :: l, a, k, ha, h, hk, hM => by
    simp only [List.all_cons, Bool.and_eq_true] at ha
    have h1 := ha.1
    unfold digB at h1
    simp only [Bool.and_eq_true, decide_eq_true_eq] at h1
    rw [List.length_cons] at hk
    have h10 : a * 10 + (c.toNat - 48) < 10 ^ (k + 1) := by rw [Nat.pow_succ]; omega
    have h18 : 10 ^ (k + 1) ≤ 10 ^ 18 := Nat.pow_le_pow_right (by decide) (by omega)
    have h17 : (10 : Nat) ^ 18 = 1000000000000000000 := by decide
    unfold Lib.parseUintM
    rw [if_pos h1, if_neg (by omega), if_neg (by omega), parseUintM_digits M l _ (k + 1) ha.2 h10 (by omega) hM, valL_cons, Nat.mul_comm]
theorem parse_of_num {l : List UInt8} {v : Int} (h : numL l = some v) : Lib.parseIntB 64 l = .ok v := by
  obtain ⟨e, hv, _⟩ := numL_back h
  subst e
  have h17 : (10 : Nat) ^ 18 = 1000000000000000000 := by decide
  by_cases h0 : v = 0
  · subst h0; rw [itoa_zeroL]; rfl
  · have hne : v.natAbs ≠ 0 := by omega
    obtain ⟨c, r, hcr⟩ := dig_first v.natAbs hne
    have hl := dig_len 18 v.natAbs hv
    have hval := dig_val v.natAbs
    have ha := dig_all v.natAbs
    have h45 := dig_head45 v.natAbs
    have hp := parseUintM_digits (2 ^ 64 - 1) (dig v.natAbs) 0 0 ha (by decide) (by omega) (by decide)
    rw [hval] at hp
    have hpu : Lib.parseUintB 64 (dig v.natAbs) = .ok v.natAbs := by
      unfold Lib.parseUintB; rw [if_neg (by rw [hcr]; simp)]; exact hp
    by_cases hn : v < 0
    · obtain ⟨u, rfl⟩ : ∃ u : Nat, v = -(u : Int) := ⟨v.natAbs, by omega⟩
      rw [Int.natAbs_neg, Int.natAbs_natCast] at *
      rw [itoa_negL (by omega), Lib.parseIntB_minus, hpu]
      unfold Lib.signedC
      simp only
      rw [if_neg (by omega)]
    · obtain ⟨u, rfl⟩ : ∃ u : Nat, v = (u : Int) := ⟨v.natAbs, by omega⟩
      rw [Int.natAbs_natCast] at *
      rw [itoa_natL (by omega), hcr]
      rw [hcr] at ha h45 hpu
      simp only [List.all_cons, Bool.and_eq_true] at ha
      have h1 := ha.1
      unfold digB at h1
      simp only [Bool.and_eq_true, decide_eq_true_eq] at h1
      rw [Lib.parseIntB_plain 64 c r (by omega) (by omega), hpu]
      unfold Lib.signlessC
      simp only
      rw [if_neg (by omega)]
/-- What the program's reading asks: it parses, is short, and spells itself. -/
theorem num_of_parse {l : List UInt8} {v : Int} (h1 : (bodyL l).length ≤ 18) (h2 : Lib.itoa v = l) : numL l = some v := by
  subst h2
  refine numL_itoa v ?_
  have hb := itoa_body (v := v)
  by_cases h0 : v = 0
  · subst h0; decide
  · rw [if_neg h0] at hb
    rw [hb] at h1
    exact dig_lt h1
end Go.Proofs.YthabmofkjdiccaaGreatDoor

namespace Go.Proofs.YthabmofkjdiccaaGreatDoor
open Go.RowKit
set_option linter.unusedVariables false

/-- The days of a month, or of the year for the month 0. -/
def leapI (y : Int) : Int := if y % 4 = 0 then 1 else 0
def lenM (y m : Int) : Int := if m = 0 then 365 + leapI y else if m = 2 then 28 + leapI y else if m = 4 ∨ m = 6 ∨ m = 9 ∨ m = 11 then 30 else 31
def cumM (y m : Int) : Int := if m = 1 then 0 else if m = 2 then 31 else (if m = 3 then 59 else if m = 4 then 90 else if m = 5 then 120 else if m = 6 then 151 else if m = 7 then 181 else if m = 8 then 212 else if m = 9 then 243 else if m = 10 then 273 else if m = 11 then 304 else if m = 12 then 334 else 365) + leapI y
def yB (y : Int) : Int := 365 * (y - 2000) + (y - 2000 + 3) / 4
def numD (y m d : Int) : Int := yB y + cumM y m + d - 1
def dateOk (y m d : Int) : Prop := (2000 ≤ y ∧ y ≤ 2099) ∧ (1 ≤ m ∧ m ≤ 12) ∧ (1 ≤ d ∧ d ≤ lenM y m)
instance (y m d : Int) : Decidable (dateOk y m d) := by unfold dateOk; infer_instance
theorem leapI_01 (y : Int) : leapI y = 0 ∨ leapI y = 1 := by unfold leapI; split <;> simp
theorem monthC {m : Int} (h1 : 1 ≤ m) (h2 : m ≤ 12) : m = 1 ∨ m = 2 ∨ m = 3 ∨ m = 4 ∨ m = 5 ∨ m = 6 ∨ m = 7 ∨ m = 8 ∨ m = 9 ∨ m = 10 ∨ m = 11 ∨ m = 12 := by omega
theorem cumM_step (y : Int) {m : Int} (h1 : 1 ≤ m) (h2 : m ≤ 12) : cumM y (m + 1) = cumM y m + lenM y m := by
  rcases monthC h1 h2 with h | h | h | h | h | h | h | h | h | h | h | h <;> subst h <;> simp [cumM, lenM] <;> omega
theorem cumM_one (y : Int) : cumM y 1 = 0 := rfl
theorem lenM_pos (y : Int) {m : Int} (h1 : 1 ≤ m) (h2 : m ≤ 12) : 28 ≤ lenM y m ∧ lenM y m ≤ 31 := by
  have := leapI_01 y
  rcases monthC h1 h2 with h | h | h | h | h | h | h | h | h | h | h | h <;> subst h <;> simp [lenM] <;> omega
theorem cumM_bounds (y : Int) {m : Int} (h1 : 1 ≤ m) (h2 : m ≤ 12) : 0 ≤ cumM y m ∧ cumM y m + lenM y m ≤ 365 + leapI y := by
  have := leapI_01 y
  rcases monthC h1 h2 with h | h | h | h | h | h | h | h | h | h | h | h <;> subst h <;> simp [cumM, lenM] <;> omega
theorem cumM_mono (y : Int) {a b : Int} (h1 : 1 ≤ a) (h2 : a < b) (h3 : b ≤ 12) : cumM y a + lenM y a ≤ cumM y b := by
  have := leapI_01 y
  rcases monthC h1 (by omega) with h | h | h | h | h | h | h | h | h | h | h | h <;> subst h <;> rcases monthC (m := b) (by omega) h3 with h | h | h | h | h | h | h | h | h | h | h | h <;> subst h <;> first | omega | (simp [cumM, lenM] <;> omega)
theorem lenM_zero (y : Int) : lenM y 0 = 365 + leapI y := rfl
theorem yB_step (y : Int) : yB (y + 1) = yB y + lenM y 0 := by
  rw [lenM_zero]; unfold yB leapI; split <;> omega
theorem yB_mono {a b : Int} (h : a < b) : yB a + lenM a 0 ≤ yB b := by
  rw [← yB_step]; unfold yB; omega
theorem numD_bounds {y m d : Int} (h : dateOk y m d) : 0 ≤ numD y m d ∧ numD y m d ≤ 36524 := by
  obtain ⟨⟨h1, h2⟩, ⟨h3, h4⟩, h5, h6⟩ := h
  have ⟨h7, h8⟩ := cumM_bounds y h3 h4
  have h9 : leapI y = if y % 4 = 0 then 1 else 0 := rfl
  unfold numD yB
  split at h9 <;> omega
theorem yB_four (y : Int) : (y - 2000) / 4 * 1461 = yB (y / 4 * 4) := by unfold yB; omega
theorem yB_rest (n : Int) : yB (2000 + n / 1461 * 4) = n - n % 1461 := by unfold yB; omega
theorem year_le {y m d : Int} (h : dateOk y m d) : 2000 + numD y m d / 1461 * 4 ≤ y := by
  obtain ⟨⟨h1, h2⟩, ⟨h3, h4⟩, h5, h6⟩ := h
  have ⟨h7, h8⟩ := cumM_bounds y h3 h4
  have h9 : leapI y = if y % 4 = 0 then 1 else 0 := rfl
  have e : numD y m d = yB y + cumM y m + d - 1 := rfl
  generalize numD y m d = n at *
  unfold yB at e
  split at h9 <;> omega
/-- The year's loop: it goes on exactly below the year. -/
theorem year_go {y m d t r : Int} (h : dateOk y m d) (ht : t ≤ y) (hr : r = numD y m d - yB t) : 0 ≤ r ∧ (lenM t 0 ≤ r ↔ t < y) := by
  obtain ⟨⟨h1, h2⟩, ⟨h3, h4⟩, h5, h6⟩ := h
  have ⟨h7, h8⟩ := cumM_bounds y h3 h4
  have e : numD y m d = yB y + cumM y m + d - 1 := rfl
  have hz := lenM_zero y
  rcases Int.lt_or_eq_of_le ht with hlt | rfl
  · have := yB_mono hlt
    have h9 := leapI_01 t
    have hz := lenM_zero t
    omega
  · omega
theorem month_go {y m d t r : Int} (h : dateOk y m d) (h0 : 1 ≤ t) (ht : t ≤ m) (hr : r = cumM y m + d - 1 - cumM y t) : 0 ≤ r ∧ (lenM y t ≤ r ↔ t < m) := by
  obtain ⟨⟨h1, h2⟩, ⟨h3, h4⟩, h5, h6⟩ := h
  rcases Int.lt_or_eq_of_le ht with hlt | rfl
  · have := cumM_mono y h0 hlt h4
    have := lenM_pos y h0 (by omega)
    omega
  · omega

/-! ### The text of a date -/
theorem digB_iff {c : UInt8} : digB c = true ↔ 48 ≤ c.toNat ∧ c.toNat ≤ 57 := by unfold digB; simp
theorem digB_back {c : UInt8} (h : digB c = true) : UInt8.ofNat (48 + (c.toNat - 48)) = c := by
  have := digB_iff.1 h
  rw [show 48 + (c.toNat - 48) = c.toNat by omega, UInt8.ofNat_toNat]
def two (n : Int) : List UInt8 := [UInt8.ofNat (48 + n.toNat / 10), UInt8.ofNat (48 + n.toNat % 10)]
theorem two_back {a b : UInt8} (ha : digB a = true) (hb : digB b = true) : two ((valL 0 [a, b] : Nat) : Int) = [a, b] := by
  have h1 := digB_iff.1 ha
  have h2 := digB_iff.1 hb
  have e : valL 0 [a, b] = 10 * (a.toNat - 48) + (b.toNat - 48) := by rw [valL_cons, valL_cons, valL_nil]; omega
  unfold two
  rw [Int.toNat_natCast, e, show (10 * (a.toNat - 48) + (b.toNat - 48)) / 10 = a.toNat - 48 by omega, show (10 * (a.toNat - 48) + (b.toNat - 48)) % 10 = b.toNat - 48 by omega, digB_back ha, digB_back hb]
theorem year_back {a b c d : UInt8} (ha : digB a = true) (hb : digB b = true) (hc : digB c = true) (hd : digB d = true) (h : 1000 ≤ valL 0 [a, b, c, d]) : Lib.itoa ((valL 0 [a, b, c, d] : Nat) : Int) = [a, b, c, d] := by
  have h1 := digB_iff.1 ha
  have h2 := digB_iff.1 hb
  have h3 := digB_iff.1 hc
  have h4 := digB_iff.1 hd
  rw [itoa_natL (by omega)]
  refine (dig_back 4 [a, b, c, d] rfl (by simp [ha, hb, hc, hd]) ?_).1
  intro e
  have e2 : a = 48 := by simpa using e
  subst e2
  rw [valL_cons, valL_cons, valL_cons, valL_cons, valL_nil] at h
  have : (48 : UInt8).toNat = 48 := rfl
  omega
/-- The number of a field of digits, -1 if there is another byte. -/
def fN (l : List UInt8) : Int := if l.all digB then ((valL 0 l : Nat) : Int) else -1
theorem fN_pos {l : List UInt8} (h : 0 ≤ fN l) : l.all digB = true ∧ fN l = ((valL 0 l : Nat) : Int) := by
  unfold fN at h ⊢
  split
  · rename_i h1; exact ⟨h1, rfl⟩
  · rename_i h1; rw [if_neg h1] at h; omega
theorem fN_ok {l : List UInt8} (h : l.all digB = true) : fN l = ((valL 0 l : Nat) : Int) := by unfold fN; rw [if_pos h]
theorem fN_bad {l : List UInt8} (h : l.all digB = false) : fN l = -1 := by unfold fN; rw [if_neg (by rw [h]; decide)]
def dayL (y m d : Int) : List UInt8 := Lib.itoa y ++ [45] ++ two m ++ [45] ++ two d
def yF (l : List UInt8) : Int := fN (l.take 4)
def mF (l : List UInt8) : Int := fN ((l.take 7).drop 5)
def dF (l : List UInt8) : Int := fN (l.drop 8)
theorem text_iff {l : List UInt8} (h : l.length = 10) (hd : dateOk (yF l) (mF l) (dF l)) : dayL (yF l) (mF l) (dF l) = l ↔ (l[4]? = some 45 ∧ l[7]? = some 45) := by
  match l, h with
  | [a, b, c, d, e, f, g, h, i, j], _ =>
    obtain ⟨⟨h1, _⟩, ⟨h2, _⟩, h3, _⟩ := hd
    obtain ⟨ha, ea⟩ := fN_pos (l := [a, b, c, d]) (by have : (2000 : Int) ≤ fN [a, b, c, d] := h1; omega)
    obtain ⟨hb, eb⟩ := fN_pos (l := [f, g]) (by have : (1 : Int) ≤ fN [f, g] := h2; omega)
    obtain ⟨hc, ec⟩ := fN_pos (l := [i, j]) (by have : (1 : Int) ≤ fN [i, j] := h3; omega)
    have h1' : (2000 : Int) ≤ fN [a, b, c, d] := h1
    rw [ea] at h1'
    simp only [List.all_cons, List.all_nil, Bool.and_true, Bool.and_eq_true] at ha hb hc
    have e1 : yF [a, b, c, d, e, f, g, h, i, j] = ((valL 0 [a, b, c, d] : Nat) : Int) := ea
    have e2 : mF [a, b, c, d, e, f, g, h, i, j] = ((valL 0 [f, g] : Nat) : Int) := eb
    have e3 : dF [a, b, c, d, e, f, g, h, i, j] = ((valL 0 [i, j] : Nat) : Int) := ec
    unfold dayL
    rw [e1, e2, e3, year_back ha.1 ha.2.1 ha.2.2.1 ha.2.2.2 (by omega), two_back hb.1 hb.2, two_back hc.1 hc.2]
    simp
    constructor
    · rintro ⟨rfl, rfl⟩; exact ⟨rfl, rfl⟩
    · rintro ⟨rfl, rfl⟩; exact ⟨rfl, rfl⟩
/-- The day of a text. -/
def rdF (s : ByteArray) : Option Int :=
  if s.size = 10 ∧ s.data.toList[4]? = some 45 ∧ s.data.toList[7]? = some 45 ∧ dateOk (yF s.data.toList) (mF s.data.toList) (dF s.data.toList) then some (numD (yF s.data.toList) (mF s.data.toList) (dF s.data.toList)) else none
theorem rdF_size {s : ByteArray} (h : ¬ s.size = 10) : rdF s = none := by unfold rdF; rw [if_neg (fun e => h e.1)]
theorem rdF_four {s : ByteArray} (h : ¬ s.data.toList[4]? = some 45) : rdF s = none := by unfold rdF; rw [if_neg (fun e => h e.2.1)]
theorem rdF_seven {s : ByteArray} (h : ¬ s.data.toList[7]? = some 45) : rdF s = none := by unfold rdF; rw [if_neg (fun e => h e.2.2.1)]
theorem rdF_date {s : ByteArray} (h : ¬ dateOk (yF s.data.toList) (mF s.data.toList) (dF s.data.toList)) : rdF s = none := by unfold rdF; rw [if_neg (fun e => h e.2.2.2)]
theorem rdF_some {s : ByteArray} (h : s.size = 10) (h4 : s.data.toList[4]? = some 45) (h7 : s.data.toList[7]? = some 45) (hd : dateOk (yF s.data.toList) (mF s.data.toList) (dF s.data.toList)) : rdF s = some (numD (yF s.data.toList) (mF s.data.toList) (dF s.data.toList)) := by unfold rdF; rw [if_pos ⟨h, h4, h7, hd⟩]
theorem rdF_text {s : ByteArray} (h : s.size = 10) (hd : dateOk (yF s.data.toList) (mF s.data.toList) (dF s.data.toList)) :
    (dayL (yF s.data.toList) (mF s.data.toList) (dF s.data.toList) = s.data.toList → rdF s = some (numD (yF s.data.toList) (mF s.data.toList) (dF s.data.toList))) ∧ (¬ dayL (yF s.data.toList) (mF s.data.toList) (dF s.data.toList) = s.data.toList → rdF s = none) := by
  have hl : s.data.toList.length = 10 := by simpa using h
  have ht := text_iff hl hd
  constructor
  · intro e
    have := ht.1 e
    exact rdF_some h this.1 this.2 hd
  · intro e
    unfold rdF
    rw [if_neg (fun c => e (ht.2 ⟨c.2.1, c.2.2.1⟩))]
/-- What is read is a date, and its text is the text that was read. -/
theorem rdF_is {s : ByteArray} {n : Int} (h : rdF s = some n) : ∃ y m d, dateOk y m d ∧ n = numD y m d ∧ s = ⟨(dayL y m d).toArray⟩ := by
  unfold rdF at h
  split at h
  · rename_i c
    injection h with h
    refine ⟨_, _, _, c.2.2.2, h.symm, ?_⟩
    rw [(text_iff (by simpa using c.1) c.2.2.2).2 ⟨c.2.1, c.2.2.1⟩]
  · cases h
theorem yearL {y : Int} (h : 2000 ≤ y) (h2 : y ≤ 2099) : Lib.itoa y = [UInt8.ofNat (48 + y.toNat / 1000), UInt8.ofNat (48 + y.toNat / 100 % 10), UInt8.ofNat (48 + y.toNat / 10 % 10), UInt8.ofNat (48 + y.toNat % 10)] := by
  have hd : ∀ k, k < 10 → digB (UInt8.ofNat (48 + k)) = true ∧ (UInt8.ofNat (48 + k)).toNat = 48 + k := by
    intro k hk
    have e : (UInt8.ofNat (48 + k)).toNat = 48 + k := by rw [UInt8.toNat_ofNat']; omega
    exact ⟨digB_iff.2 (by omega), e⟩
  have e : y = ((valL 0 [UInt8.ofNat (48 + y.toNat / 1000), UInt8.ofNat (48 + y.toNat / 100 % 10), UInt8.ofNat (48 + y.toNat / 10 % 10), UInt8.ofNat (48 + y.toNat % 10)] : Nat) : Int) := by
    rw [valL_cons, valL_cons, valL_cons, valL_cons, valL_nil, (hd (y.toNat / 1000) (by omega)).2, (hd (y.toNat / 100 % 10) (by omega)).2, (hd (y.toNat / 10 % 10) (by omega)).2, (hd (y.toNat % 10) (by omega)).2]
    omega
  have := year_back (hd (y.toNat / 1000) (by omega)).1 (hd (y.toNat / 100 % 10) (by omega)).1 (hd (y.toNat / 10 % 10) (by omega)).1 (hd (y.toNat % 10) (by omega)).1 (by omega)
  rw [← e] at this
  exact this
theorem dayL_len {y m d : Int} (h : dateOk y m d) : (dayL y m d).length = 10 := by
  unfold dayL; rw [yearL h.1.1 h.1.2]; simp [two]
theorem two_dig {n : Int} (h0 : 0 ≤ n) (h1 : n < 100) : ∀ b ∈ two n, b ≠ 32 := by
  intro b hb
  have hn : ∀ k, k < 10 → UInt8.ofNat (48 + k) ≠ 32 := by
    intro k hk e
    have := congrArg UInt8.toNat e
    rw [UInt8.toNat_ofNat'] at this
    simp at this
    omega
  unfold two at hb
  simp only [List.mem_cons, List.not_mem_nil, or_false] at hb
  rcases hb with rfl | rfl
  · exact hn _ (by omega)
  · exact hn _ (by omega)
/-! ### Every day has a date -/
theorem year_of : ∀ (k : Nat) (n : Int), 0 ≤ n → n < yB (2000 + (k : Int)) → ∃ y, 2000 ≤ y ∧ y < 2000 + (k : Int) ∧ yB y ≤ n ∧ n < yB (y + 1)
  | 0, n, h0, h => absurd h (by show ¬ n < yB (2000 + 0); unfold yB; omega)
  | k + 1, n, h0, h => by
    by_cases hk : n < yB (2000 + (k : Int))
    · obtain ⟨y, h1, h2, h3, h4⟩ := year_of k n h0 hk
      exact ⟨y, h1, by omega, h3, h4⟩
    · exact ⟨2000 + (k : Int), by omega, by omega, by omega, by rw [show (2000 : Int) + k + 1 = 2000 + ((k + 1 : Nat) : Int) by omega]; exact h⟩
theorem month_of (y : Int) : ∀ (k : Nat) (r : Int), k ≤ 12 → 0 ≤ r → r < cumM y (1 + (k : Int)) → ∃ m, 1 ≤ m ∧ m ≤ (k : Int) ∧ cumM y m ≤ r ∧ r < cumM y (m + 1)
  | 0, r, _, h0, h => absurd h (by show ¬ r < cumM y (1 + 0); rw [show (1 : Int) + 0 = 1 from rfl, cumM_one]; omega)
  | k + 1, r, hk12, h0, h => by
    by_cases hk : r < cumM y (1 + (k : Int))
    · obtain ⟨m, h1, h2, h3, h4⟩ := month_of y k r (by omega) h0 hk
      exact ⟨m, h1, by omega, h3, h4⟩
    · exact ⟨1 + (k : Int), by omega, by omega, by omega, by rw [show (1 : Int) + k + 1 = 1 + ((k + 1 : Nat) : Int) by omega]; exact h⟩
theorem day_has {n : Int} (h0 : 0 ≤ n) (h1 : n ≤ 36524) : ∃ y m d, dateOk y m d ∧ n = numD y m d := by
  obtain ⟨y, hy1, hy2, hy3, hy4⟩ := year_of 100 n h0 (by show n < yB (2000 + 100); unfold yB; omega)
  have hlen := yB_step y
  rw [lenM_zero] at hlen
  obtain ⟨m, hm1, hm2, hm3, hm4⟩ := month_of y 12 (n - yB y) (by omega) (by omega) (by show _ < cumM y 13; show _ < 365 + leapI y; omega)
  have hs := cumM_step y hm1 hm2
  exact ⟨y, m, n - yB y - cumM y m + 1, ⟨⟨hy1, by omega⟩, ⟨hm1, hm2⟩, by omega, by omega⟩, by unfold numD; omega⟩

end Go.Proofs.YthabmofkjdiccaaGreatDoor

namespace Go.Proofs.YthabmofkjdiccaaGreatDoor
open Go.RowKit

def inB (a lo hi : Int) : Bool := decide (lo ≤ a) && decide (a ≤ hi)
theorem inB_true {a lo hi : Int} : inB a lo hi = true ↔ lo ≤ a ∧ a ≤ hi := by simp [inB]
theorem inB_false {a lo hi : Int} : inB a lo hi = false ↔ a < lo ∨ hi < a := by
  simp [inB]
  omega

set_option maxRecDepth 100000 in
set_option maxHeartbeats 400000 in
theorem l00InB_any (a b c : Int) (w : World) :
    Calls Tryz.prog 132 #[.int .i64 a, .int .i64 b, .int .i64 c] w fun e w' => e = .returned (.bool (inB a b c)) ∧ w = w' := by
  go_enter Tryz.func132, Tryz.ntmps132
  go_wp2
  all_goals
    go_ret
    exact ⟨ret_bool (by simp [inB, *] <;> omega), rfl⟩
set_option maxRecDepth 100000 in
set_option maxHeartbeats 400000 in
theorem withinB_any (a b c : Int) (w : World) :
    Calls Tryz.prog 100 #[.int .i64 a, .int .i64 b, .int .i64 c] w fun e w' => e = .returned (.bool (inB a b c)) ∧ w = w' := by
  go_enter Tryz.func100, Tryz.ntmps100
  go_wp2
  all_goals
    go_ret
    exact ⟨ret_bool (by simp [inB, *] <;> omega), rfl⟩

def smallB (c : Int) : Bool := inB c 97 122
def digitB (c : Int) : Bool := inB c 48 57
def okNm (c : UInt8) : Bool := smallB c.toNat || digitB c.toNat
def allNm (l : List UInt8) : Bool := l.all okNm
def headNm (s : ByteArray) : Bool := match s.data.toList with | [] => false | c :: _ => smallB c.toNat
def nameB (s : ByteArray) : Bool := decide (s.size ≤ 10) && headNm s && allNm s.data.toList

theorem headNm_zero {s : ByteArray} (h : s.size = 0) : headNm s = false := by
  unfold headNm
  have : s.data.toList = [] := List.eq_nil_of_length_eq_zero (by simpa using h)
  rw [this]
theorem headNm_pos {s : ByteArray} (h : 0 < s.size) : headNm s = smallB s[0].toNat := by
  obtain ⟨⟨l⟩⟩ := s
  cases l with
  | nil => exact absurd h (by show ¬ 0 < 0; omega)
  | cons c r => rfl
theorem allNm_step {s : ByteArray} {k : Nat} (h : k < s.size) (h0 : allNm (s.data.toList.take k) = true) (h1 : okNm s[k] = true) : allNm (s.data.toList.take (k + 1)) = true := by
  rw [List.take_succ_eq_append_getElem (by simpa using h)]
  unfold allNm at *
  rw [List.all_append, h0]
  simp only [List.all_cons, List.all_nil, Bool.and_true, Bool.true_and]
  exact h1
theorem allNm_bad {s : ByteArray} {k : Nat} (h : k < s.size) (h1 : okNm s[k] = false) : allNm s.data.toList = false := by
  unfold allNm
  rw [List.all_eq_false]
  exact ⟨s[k], Array.mem_toList_iff.2 (Array.getElem_mem _), by rw [h1]; simp⟩
theorem allNm_full {s : ByteArray} {k : Nat} (h : s.size ≤ k) (h0 : allNm (s.data.toList.take k) = true) : allNm s.data.toList = true := by
  rwa [List.take_of_length_le (by simpa using h)] at h0

theorem okNm_true {c : UInt8} (h : (97 ≤ (c.toNat : Int) ∧ (c.toNat : Int) ≤ 122) ∨ (48 ≤ (c.toNat : Int) ∧ (c.toNat : Int) ≤ 57)) : okNm c = true := by
  simp only [okNm, smallB, digitB, Bool.or_eq_true, inB_true]; exact h
theorem okNm_false {c : UInt8} (h : ((c.toNat : Int) < 97 ∨ 122 < (c.toNat : Int)) ∧ ((c.toNat : Int) < 48 ∨ 57 < (c.toNat : Int))) : okNm c = false := by
  simp only [okNm, smallB, digitB, Bool.or_eq_false_iff, inB_false]; exact h

set_option maxRecDepth 100000 in
set_option maxHeartbeats 1000000 in
theorem onlyNameBytes_any (s : ByteArray) (w : World) (hs : s.size ≤ 9223372036854775807) :
    Calls Tryz.prog 120 #[.string s] w fun e w' => e = .returned (.bool (allNm s.data.toList)) ∧ w = w' := by
  go_enter Tryz.func120, Tryz.ntmps120
  go_wp2
  go_loop [7] (fun i => ∃ k : Nat, k ≤ s.size ∧ i = .int .i64 k ∧ allNm (s.data.toList.take k) = true) (fun i => s.size - (intOf i).toNat)
  case atStart => exact ⟨0, Nat.zero_le _, rfl, rfl⟩
  case round =>
    obtain ⟨k, hk, rfl, h0⟩ := hrel
    have H0 := Lib.hid h0
    clear h0
    by_cases hlt : k < s.size
    · go_wp2
      all_goals first
        | (go_ret; exact ⟨ret_bool (allNm_bad hlt (okNm_false (by omega))).symm, rfl⟩)
        | (go_round
           case rel => exact ⟨k + 1, by omega, by go_num, allNm_step hlt H0.out (okNm_true (by omega))⟩
           case measure => simp [intOf]; omega)
    · go_wp2
      go_ret
      exact ⟨ret_bool (allNm_full (by omega) H0.out).symm, rfl⟩
theorem nameB_empty {s : ByteArray} (h : s.size = 0) : nameB s = false := by simp [nameB, headNm_zero h]
theorem nameB_long {s : ByteArray} (h : 10 < s.size) : nameB s = false := by
  have : decide (s.size ≤ 10) = false := by simp; omega
  simp [nameB, this]
theorem nameB_head {s : ByteArray} (h : 0 < s.size) (h1 : (s[0].toNat : Int) < 97 ∨ 122 < (s[0].toNat : Int)) : nameB s = false := by
  have : headNm s = false := by rw [headNm_pos h]; exact inB_false.2 h1
  simp [nameB, this]
theorem nameB_rest {s : ByteArray} (h : 0 < s.size) (h0 : s.size ≤ 10) (h1 : 97 ≤ (s[0].toNat : Int) ∧ (s[0].toNat : Int) ≤ 122) : nameB s = allNm s.data.toList := by
  have : headNm s = true := by rw [headNm_pos h]; exact inB_true.2 h1
  simp [nameB, this, h0]

set_option maxRecDepth 100000 in
set_option maxHeartbeats 1000000 in
theorem implIsName_any (s : ByteArray) (w : World) (hs : s.size ≤ 9223372036854775807) :
    Calls Tryz.prog 99 #[.string s] w fun e w' => e = .returned (.bool (nameB s)) ∧ w = w' := by
  by_cases c0 : s.size = 0
  · rw [nameB_empty c0]
    have c0' : (s.size : Int) < 1 := by omega
    clear c0
    go_enter Tryz.func99, Tryz.ntmps99
    go_wp2
    go_ret
    exact ⟨rfl, rfl⟩
  · by_cases c1 : 10 < s.size
    · rw [nameB_long c1]
      go_enter Tryz.func99, Tryz.ntmps99
      go_wp2
      go_ret
      exact ⟨rfl, rfl⟩
    · have c2 : 0 < s.size := by omega
      by_cases c3 : 97 ≤ (s[0].toNat : Int) ∧ (s[0].toNat : Int) ≤ 122
      · rw [nameB_rest c2 (by omega) c3]
        obtain ⟨c4, c5⟩ := c3
        go_enter Tryz.func99, Tryz.ntmps99
        go_wp2_with (go_at_call 120; refine (onlyNameBytes_any _ _ hs).mono ?_; rintro e w' ⟨rfl, rfl⟩)
        go_ret
        exact ⟨rfl, rfl⟩
      · rw [nameB_head c2 (by omega)]
        by_cases c4 : (s[0].toNat : Int) < 97
        · clear c3
          go_enter Tryz.func99, Tryz.ntmps99
          go_wp2
          go_ret
          exact ⟨rfl, rfl⟩
        · have c5 : 122 < (s[0].toNat : Int) := by omega
          clear c3
          go_enter Tryz.func99, Tryz.ntmps99
          go_wp2
          go_ret
          exact ⟨rfl, rfl⟩
set_option maxRecDepth 100000 in
set_option maxHeartbeats 400000 in
theorem l01Small_any (c : Int) (w : World) :
    Calls Tryz.prog 148 #[.int .u8 c] w fun e w' => e = .returned (.bool (smallB c)) ∧ w = w' := by
  go_enter Tryz.func148, Tryz.ntmps148
  go_wp2
  all_goals
    go_ret
    exact ⟨ret_bool (by simp [smallB, inB, *] <;> omega), rfl⟩
set_option maxRecDepth 100000 in
set_option maxHeartbeats 400000 in
theorem l01Digit_any (c : Int) (w : World) :
    Calls Tryz.prog 149 #[.int .u8 c] w fun e w' => e = .returned (.bool (digitB c)) ∧ w = w' := by
  go_enter Tryz.func149, Tryz.ntmps149
  go_wp2
  all_goals
    go_ret
    exact ⟨ret_bool (by simp [digitB, inB, *] <;> omega), rfl⟩

set_option maxRecDepth 100000 in
set_option maxHeartbeats 1000000 in
theorem l01Name_any (s : ByteArray) (w : World) (hs : s.size ≤ 9223372036854775807) :
    Calls Tryz.prog 131 #[.string s] w fun e w' => e = .returned (.bool (nameB s)) ∧ w = w' := by
  by_cases c0 : s.size = 0
  · rw [nameB_empty c0]
    have e0 : s = ⟨#[]⟩ := ByteArray.ext (Array.eq_empty_of_size_eq_zero c0)
    subst e0
    clear c0
    go_enter Tryz.func131, Tryz.ntmps131
    go_wp2
    go_ret
    exact ⟨rfl, rfl⟩
  · have hemp : s.toList.isEmpty = false := by
      rw [ByteArray.toList_eq]
      cases hl : s.data.toList with
      | nil => exact absurd (by have := congrArg List.length hl; simpa using this) c0
      | cons => rfl
    by_cases c1 : 10 < s.size
    · rw [nameB_long c1]
      go_enter Tryz.func131, Tryz.ntmps131
      go_wp2
      go_ret
      exact ⟨rfl, rfl⟩
    · have c2 : 0 < s.size := by omega
      by_cases c3 : 97 ≤ (s[0].toNat : Int) ∧ (s[0].toNat : Int) ≤ 122
      · rw [nameB_rest c2 (by omega) c3]
        have c4 : smallB s[0].toNat = true := inB_true.2 c3
        clear c3
        go_enter Tryz.func131, Tryz.ntmps131
        go_wp2_with (go_at_call 148; refine (l01Small_any _ _).mono ?_; rintro e w' ⟨rfl, rfl⟩)
        clear c4
        go_loop [3] (fun i => ∃ k : Nat, k ≤ s.size ∧ i = .int .i64 k ∧ allNm (s.data.toList.take k) = true) (fun i => s.size - (intOf i).toNat)
        case atStart => exact ⟨0, Nat.zero_le _, rfl, rfl⟩
        case round =>
          obtain ⟨k, hk, rfl, h0⟩ := hrel
          have H0 := Lib.hid h0
          clear h0
          by_cases hlt : k < s.size
          · cases d1 : smallB s[k].toNat <;> cases d2 : digitB s[k].toNat
            all_goals
              go_wp2_with (first | (go_at_call 148; refine (l01Small_any _ _).mono ?_; rintro e w' ⟨rfl, rfl⟩) | (go_at_call 149; refine (l01Digit_any _ _).mono ?_; rintro e w' ⟨rfl, rfl⟩))
              first
                | (go_ret; exact ⟨ret_bool (allNm_bad hlt (by simp [okNm, *])).symm, rfl⟩)
                | (go_round
                   case rel => exact ⟨k + 1, by omega, by go_num, allNm_step hlt H0.out (by simp [okNm, *])⟩
                   case measure => simp [intOf]; omega)
          · go_wp2
            go_ret
            exact ⟨ret_bool (allNm_full (by omega) H0.out).symm, rfl⟩
      · rw [nameB_head c2 (by omega)]
        have c4 : smallB s[0].toNat = false := inB_false.2 (by omega)
        clear c3
        go_enter Tryz.func131, Tryz.ntmps131
        go_wp2_with (go_at_call 148; refine (l01Small_any _ _).mono ?_; rintro e w' ⟨rfl, rfl⟩)
        go_ret
        exact ⟨rfl, rfl⟩
end Go.Proofs.YthabmofkjdiccaaGreatDoor
