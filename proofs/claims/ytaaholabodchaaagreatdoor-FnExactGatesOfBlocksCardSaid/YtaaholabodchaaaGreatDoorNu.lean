/- Numbers read from decimal digits: plain laws. -/
import Derived.Test.YtaaholabodchaaaGreatDoorDe
import Derived.Lib.ParseIntBTie
namespace Go.Proofs.YtaaholabodchaaaGreatDoor
open Go.RowKit
set_option linter.unusedVariables false

def digB (c : UInt8) : Bool := decide (48 ≤ c.toNat) && decide (c.toNat ≤ 57)
def valL (a : Nat) (l : List UInt8) : Nat := l.foldl (fun n c => 10 * n + (c.toNat - 48)) a
theorem valL_nil (a : Nat) : valL a [] = a := rfl
theorem valL_cons (a : Nat) (c : UInt8) (l : List UInt8) : valL a (c :: l) = valL (10 * a + (c.toNat - 48)) l := by unfold valL; rw [List.foldl_cons]
theorem valL_snoc (a : Nat) (l : List UInt8) (c : UInt8) : valL a (l ++ [c]) = 10 * valL a l + (c.toNat - 48) := by
  unfold valL; rw [List.foldl_append]; rfl
theorem digB_of (k : Nat) : digB (UInt8.ofNat (48 + k % 10)) = true := by
  unfold digB; rw [UInt8.toNat_ofNat']
  simp only [Bool.and_eq_true, decide_eq_true_eq]; omega
theorem digB_val (k : Nat) : (UInt8.ofNat (48 + k % 10)).toNat - 48 = k % 10 := by
  rw [UInt8.toNat_ofNat']; omega
theorem dig_all : ∀ u, (dig u).all digB = true := by
  intro u
  induction u using Nat.strongRecOn with
  | _ u ih =>
    by_cases h : u = 0
    · subst h; rw [dig_zero]; rfl
    · rw [dig_step h, List.all_append, ih (u / 10) (by omega)]
      simp only [List.all_cons, List.all_nil, Bool.and_true, Bool.true_and]
      exact digB_of u
theorem dig_val : ∀ u, valL 0 (dig u) = u := by
  intro u
  induction u using Nat.strongRecOn with
  | _ u ih =>
    by_cases h : u = 0
    · subst h; rw [dig_zero]; rfl
    · rw [dig_step h, valL_snoc, ih (u / 10) (by omega), digB_val]; omega
theorem dig_ge : ∀ (k u : Nat), 10 ^ k ≤ u → k + 1 ≤ (dig u).length
  | 0, u, h => by
    rw [Nat.pow_zero] at h
    rw [dig_step (by omega)]; simp
  | k + 1, u, h => by
    have hp : 0 < 10 ^ k := Nat.pow_pos (by decide)
    rw [Nat.pow_succ] at h
    have := dig_ge k (u / 10) (by omega)
    rw [dig_step (by omega), List.length_append]; simp; omega
theorem dig_lt {k u : Nat} (h : (dig u).length ≤ k) : u < 10 ^ k := by
  rcases Nat.lt_or_ge u (10 ^ k) with h1 | h1
  · exact h1
  · have := dig_ge k u h1; omega
theorem dig_head : ∀ u, (dig u).head? ≠ some 48 := by
  intro u
  induction u using Nat.strongRecOn with
  | _ u ih =>
    by_cases h : u = 0
    · subst h; rw [dig_zero]; simp
    · rw [dig_step h]
      by_cases h1 : u / 10 = 0
      · rw [h1, dig_zero]
        simp only [List.nil_append, List.head?_cons, ne_eq, Option.some.injEq]
        intro e
        have e2 := congrArg UInt8.toNat e
        rw [UInt8.toNat_ofNat'] at e2
        have : (48 : UInt8).toNat = 48 := rfl
        omega
      · have ih1 := ih (u / 10) (by omega)
        rw [dig_step h1] at ih1 ⊢
        rw [List.head?_append] at ih1 ⊢
        simp only [List.head?_append] at ih1 ⊢
        revert ih1
        generalize (dig (u / 10 / 10)).head? = o
        cases o <;> simp
theorem dig_first (u : Nat) (h : u ≠ 0) : ∃ c r, dig u = c :: r := by
  rcases hd : dig u with _ | ⟨c, r⟩
  · rw [dig_step h] at hd; simp at hd
  · exact ⟨c, r, rfl⟩
/-- Digits that do not begin with 0 spell their number's digits. -/
theorem dig_back : ∀ (n : Nat) (l : List UInt8), l.length = n → l.all digB = true → l.head? ≠ some 48 → dig (valL 0 l) = l ∧ (l ≠ [] → valL 0 l ≠ 0) := by
  intro n
  induction n with
  | zero => intro l hl _ _; obtain rfl := List.eq_nil_of_length_eq_zero hl; exact ⟨by rw [valL_nil, dig_zero], fun h => absurd rfl h⟩
  | succ n ih =>
    intro l hl ha hh
    obtain ⟨p, c, rfl⟩ : ∃ p c, l = p ++ [c] := ⟨l.dropLast, l.getLast (by intro h; subst h; simp at hl), (List.dropLast_concat_getLast _).symm⟩
    rw [List.all_append] at ha
    simp only [List.all_cons, List.all_nil, Bool.and_true, Bool.and_eq_true] at ha
    obtain ⟨ha1, ha2⟩ := ha
    unfold digB at ha2
    simp only [Bool.and_eq_true, decide_eq_true_eq] at ha2
    have hpl : p.length = n := by simp at hl; exact hl
    rw [valL_snoc]
    rcases Nat.eq_zero_or_pos n with h0 | h0
    · obtain rfl : p = [] := List.eq_nil_of_length_eq_zero (by omega)
      have hc : c.toNat ≠ 48 := by
        intro e
        refine hh ?_
        simp only [List.nil_append, List.head?_cons, Option.some.injEq]
        exact UInt8.toNat_inj.1 e
      rw [valL_nil]
      refine ⟨?_, fun _ => by omega⟩
      rw [dig_step (by omega), show (10 * 0 + (c.toNat - 48)) / 10 = 0 by omega, dig_zero]
      rw [show 48 + (10 * 0 + (c.toNat - 48)) % 10 = c.toNat by omega, UInt8.ofNat_toNat]
    · have hpn : p ≠ [] := by intro h; subst h; simp at hpl; omega
      have hph : p.head? ≠ some 48 := by
        cases p with
        | nil => exact absurd rfl hpn
        | cons x p => simpa using hh
      obtain ⟨i1, i2⟩ := ih p hpl ha1 hph
      have i3 := i2 hpn
      refine ⟨?_, fun _ => by omega⟩
      rw [dig_step (by omega), show (10 * valL 0 p + (c.toNat - 48)) / 10 = valL 0 p by omega, i1]
      rw [show 48 + (10 * valL 0 p + (c.toNat - 48)) % 10 = c.toNat by omega, UInt8.ofNat_toNat]
theorem valL_lt : ∀ (l : List UInt8) (a k : Nat), l.all digB = true → a < 10 ^ k → valL a l < 10 ^ (k + l.length)
  | [], a, k, _, h => h
  | c :: l, a, k, ha, h => by
    simp only [List.all_cons, Bool.and_eq_true] at ha
    have h1 := ha.1
    unfold digB at h1
    simp only [Bool.and_eq_true, decide_eq_true_eq] at h1
    have := valL_lt l (10 * a + (c.toNat - 48)) (k + 1) ha.2 (by rw [Nat.pow_succ]; omega)
    rw [valL_cons, List.length_cons, show k + (l.length + 1) = k + 1 + l.length by omega]
    exact this

/-- The number behind a sign. -/
def bodyL (l : List UInt8) : List UInt8 := if l.head? = some 45 then l.drop 1 else l
def numL (l : List UInt8) : Option Int :=
  if (bodyL l).isEmpty || decide (18 < (bodyL l).length) || (decide ((bodyL l).head? = some 48) && decide (1 < l.length)) || !(bodyL l).all digB then none
  else some (if l.head? = some 45 then -(valL 0 (bodyL l) : Int) else (valL 0 (bodyL l) : Int))
theorem itoa_natL {u : Nat} (h : u ≠ 0) : Lib.itoa (u : Int) = dig u := by rw [itoa_ne (by omega), if_neg (by omega)]; rfl
theorem itoa_negL {u : Nat} (h : u ≠ 0) : Lib.itoa (-(u : Int)) = 45 :: dig u := by rw [itoa_ne (by omega), if_pos (by omega), Int.natAbs_neg]; rfl
theorem itoa_zeroL : Lib.itoa 0 = [48] := by
  have h := decS_zero
  unfold decS at h
  have := congrArg (fun s : ByteArray => s.data.toList) h
  simpa using this
theorem dig_head45 (u : Nat) : (dig u).head? ≠ some 45 := by
  intro h
  have ha := dig_all u
  cases hd : dig u with
  | nil => rw [hd] at h; cases h
  | cons c r =>
    rw [hd] at h ha
    injection h with h
    subst h
    simp [digB] at ha
theorem itoa_body {v : Int} : (bodyL (Lib.itoa v)).length = if v = 0 then 1 else (dig v.natAbs).length := by
  by_cases h0 : v = 0
  · subst h0; rw [itoa_zeroL, if_pos rfl]; rfl
  · rw [if_neg h0]
    by_cases hn : v < 0
    · obtain ⟨u, rfl⟩ : ∃ u : Nat, v = -(u : Int) := ⟨v.natAbs, by omega⟩
      rw [itoa_negL (by omega), Int.natAbs_neg]; rfl
    · obtain ⟨u, rfl⟩ : ∃ u : Nat, v = (u : Int) := ⟨v.natAbs, by omega⟩
      rw [itoa_natL (by omega)]
      unfold bodyL
      rw [if_neg (dig_head45 u)]; rfl
/-- The number whose decimal form the bytes are. -/
theorem numL_itoa (v : Int) (h : v.natAbs < 10 ^ 18) : numL (Lib.itoa v) = some v := by
  by_cases h0 : v = 0
  · subst h0; rw [itoa_zeroL]; decide
  · have hne : v.natAbs ≠ 0 := by omega
    obtain ⟨c, r, hcr⟩ := dig_first v.natAbs hne
    have hl := dig_len 18 v.natAbs h
    have hv := dig_val v.natAbs
    have hh := dig_head v.natAbs
    have h45 := dig_head45 v.natAbs
    have ha := dig_all v.natAbs
    by_cases hn : v < 0
    · obtain ⟨u, rfl⟩ : ∃ u : Nat, v = -(u : Int) := ⟨v.natAbs, by omega⟩
      rw [Int.natAbs_neg, Int.natAbs_natCast] at *
      rw [itoa_negL (by omega)]
      have hb : bodyL (45 :: dig u) = dig u := rfl
      unfold numL
      rw [hb, if_neg, List.head?_cons, if_pos rfl, hv]
      rw [ha, hcr]
      rw [hcr] at hh hl
      simp only [List.head?_cons, Option.some.injEq, ne_eq] at hh
      simp [hh]; simpa using hl
    · obtain ⟨u, rfl⟩ : ∃ u : Nat, v = (u : Int) := ⟨v.natAbs, by omega⟩
      rw [Int.natAbs_natCast] at *
      rw [itoa_natL (by omega)]
      have hb : bodyL (dig u) = dig u := by unfold bodyL; rw [if_neg h45]
      unfold numL
      rw [hb, if_neg, if_neg h45, hv]
      rw [ha, hcr]
      rw [hcr] at hh hl
      simp only [List.head?_cons, Option.some.injEq, ne_eq] at hh
      simp [hh]; simpa using hl
theorem numL_back {l : List UInt8} {v : Int} (h : numL l = some v) : Lib.itoa v = l ∧ v.natAbs < 10 ^ 18 ∧ (bodyL l).length ≤ 18 := by
  unfold numL at h
  split at h
  · cases h
  · rename_i hc
    simp only [Bool.or_eq_true, decide_eq_true_eq, Bool.and_eq_true, Bool.not_eq_true', not_or, List.isEmpty_iff] at hc
    obtain ⟨⟨⟨h1, h2⟩, h3⟩, h4⟩ := hc
    have ha : (bodyL l).all digB = true := by simpa using h4
    have h18 : (bodyL l).length ≤ 18 := by omega
    have hlt := valL_lt (bodyL l) 0 0 ha (by decide)
    have hlt2 : valL 0 (bodyL l) < 10 ^ 18 := Nat.lt_of_lt_of_le hlt (Nat.pow_le_pow_right (by decide) (by omega))
    injection h with h
    by_cases h45 : l.head? = some 45
    · rw [if_pos h45] at h
      have hb : bodyL l = l.drop 1 := by unfold bodyL; rw [if_pos h45]
      obtain ⟨r, rfl⟩ : ∃ r, l = 45 :: r := by
        cases l with
        | nil => cases h45
        | cons c r => injection h45 with h45; exact ⟨r, by rw [h45]⟩
      rw [show bodyL (45 :: r) = r from rfl] at *
      have h48 : r.head? ≠ some 48 := by
        intro e
        refine h3 ⟨e, ?_⟩
        cases r with
        | nil => exact absurd rfl h1
        | cons _ _ => simp
      obtain ⟨d1, d2⟩ := dig_back _ r rfl ha h48
      have d3 := d2 h1
      refine ⟨?_, by omega, h18⟩
      rw [← h, itoa_negL d3, d1]
    · rw [if_neg h45] at h
      have hb : bodyL l = l := by unfold bodyL; rw [if_neg h45]
      rw [hb] at h h1 h2 h3 ha h18 hlt hlt2
      by_cases h48 : l.head? = some 48
      · have hl1 : l.length = 1 := by
          have hp : l.length ≠ 0 := by intro e; exact h1 (List.eq_nil_of_length_eq_zero e)
          have : ¬ 1 < l.length := fun e => h3 ⟨h48, e⟩
          omega
        match l, hl1, h48 with
        | [c], _, h48 =>
          injection h48 with h48
          subst h48
          subst h
          exact ⟨itoa_zeroL, by decide, by decide⟩
      · obtain ⟨d1, d2⟩ := dig_back _ l rfl ha h48
        have d3 := d2 h1
        refine ⟨?_, by omega, by rw [hb]; exact h18⟩
        rw [← h, itoa_natL d3, d1]
theorem parseUintM_digits (M : Nat) : ∀ (l : List UInt8) (a k : Nat), l.all digB = true → a < 10 ^ k → k + l.length ≤ 18 → 10 ^ 18 ≤ M → Lib.parseUintM M a l = .ok (valL a l)
  | [], a, k, _, _, _, _ => rfl
  | c :: l, a, k, ha, h, hk, hM => by
    simp only [List.all_cons, Bool.and_eq_true] at ha
    have h1 := ha.1
    unfold digB at h1
    simp only [Bool.and_eq_true, decide_eq_true_eq] at h1
    rw [List.length_cons] at hk
    have h10 : a * 10 + (c.toNat - 48) < 10 ^ (k + 1) := by rw [Nat.pow_succ]; omega
    have h18 : 10 ^ (k + 1) ≤ 10 ^ 18 := Nat.pow_le_pow_right (by decide) (by omega)
    have h17 : (10 : Nat) ^ 18 = 1000000000000000000 := by decide
    unfold Lib.parseUintM
    rw [if_pos h1, if_neg (by omega), if_neg (by omega), parseUintM_digits M l _ (k + 1) ha.2 h10 (by omega) hM, valL_cons, Nat.mul_comm]
theorem parse_of_num {l : List UInt8} {v : Int} (h : numL l = some v) : Lib.parseIntB 64 l = .ok v := by
  obtain ⟨e, hv, _⟩ := numL_back h
  subst e
  have h17 : (10 : Nat) ^ 18 = 1000000000000000000 := by decide
  by_cases h0 : v = 0
  · subst h0; rw [itoa_zeroL]; rfl
  · have hne : v.natAbs ≠ 0 := by omega
    obtain ⟨c, r, hcr⟩ := dig_first v.natAbs hne
    have hl := dig_len 18 v.natAbs hv
    have hval := dig_val v.natAbs
    have ha := dig_all v.natAbs
    have h45 := dig_head45 v.natAbs
    have hp := parseUintM_digits (2 ^ 64 - 1) (dig v.natAbs) 0 0 ha (by decide) (by omega) (by decide)
    rw [hval] at hp
    have hpu : Lib.parseUintB 64 (dig v.natAbs) = .ok v.natAbs := by
      unfold Lib.parseUintB; rw [if_neg (by rw [hcr]; simp)]; exact hp
    by_cases hn : v < 0
    · obtain ⟨u, rfl⟩ : ∃ u : Nat, v = -(u : Int) := ⟨v.natAbs, by omega⟩
      rw [Int.natAbs_neg, Int.natAbs_natCast] at *
      rw [itoa_negL (by omega), Lib.parseIntB_minus, hpu]
      unfold Lib.signedC
      simp only
      rw [if_neg (by omega)]
    · obtain ⟨u, rfl⟩ : ∃ u : Nat, v = (u : Int) := ⟨v.natAbs, by omega⟩
      rw [Int.natAbs_natCast] at *
      rw [itoa_natL (by omega), hcr]
      rw [hcr] at ha h45 hpu
      simp only [List.all_cons, Bool.and_eq_true] at ha
      have h1 := ha.1
      unfold digB at h1
      simp only [Bool.and_eq_true, decide_eq_true_eq] at h1
      rw [Lib.parseIntB_plain 64 c r (by omega) (by omega), hpu]
      unfold Lib.signlessC
      simp only
      rw [if_neg (by omega)]
/-- What the program's reading asks: it parses, is short, and spells itself. -/
theorem num_of_parse {l : List UInt8} {v : Int} (h1 : (bodyL l).length ≤ 18) (h2 : Lib.itoa v = l) : numL l = some v := by
  subst h2
  refine numL_itoa v ?_
  have hb := itoa_body (v := v)
  by_cases h0 : v = 0
  · subst h0; decide
  · rw [if_neg h0] at hb
    rw [hb] at h1
    exact dig_lt h1
end Go.Proofs.YtaaholabodchaaaGreatDoor
