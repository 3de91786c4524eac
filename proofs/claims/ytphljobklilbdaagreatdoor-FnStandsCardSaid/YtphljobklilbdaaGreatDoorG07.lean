/- Parts of the proof: Dt, Dc, Rn, Rw, TxStand, Ms, B10, WStands, LawL, Dr, Open, Ob. -/
import Derived.Test.YtphljobklilbdaaGreatDoorG06
import Derived.Test.YtphljobklilbdaaGreatDoorG01
import Derived.Test.YtphljobklilbdaaGreatDoorG02
import Derived.Test.YtphljobklilbdaaGreatDoorG04
import Derived.Deep.CutRange
import Derived.LaidMore
import Derived.Stop.Joined
import Derived.Laws.Tables
import GoSem.PinnedTables
import Derived.Deep.Slices
import Derived.Deep.Fields
import Derived.OpenShut
namespace Go.Proofs.YtphljobklilbdaaGreatDoor
open Go.RowKit
set_option linter.unusedVariables false

/-- The days of a month, or of the year for the month 0. -/
def leapI (y : Int) : Int := if y % 4 = 0 then 1 else 0
def lenM (y m : Int) : Int := if m = 0 then 365 + leapI y else if m = 2 then 28 + leapI y else if m = 4 ∨ m = 6 ∨ m = 9 ∨ m = 11 then 30 else 31
def cumM (y m : Int) : Int := if m = 1 then 0 else if m = 2 then 31 else (if m = 3 then 59 else if m = 4 then 90 else if m = 5 then 120 else if m = 6 then 151 else if m = 7 then 181 else if m = 8 then 212 else if m = 9 then 243 else if m = 10 then 273 else if m = 11 then 304 else if m = 12 then 334 else 365) + leapI y
def yB (y : Int) : Int := 365 * (y - 2000) + (y - 2000 + 3) / 4
def numD (y m d : Int) : Int := yB y + cumM y m + d - 1
def dateOk (y m d : Int) : Prop := (2000 ≤ y ∧ y ≤ 2099) ∧ (1 ≤ m ∧ m ≤ 12) ∧ (1 ≤ d ∧ d ≤ lenM y m)
instance (y m d : Int) : Decidable (dateOk y m d) := by unfold dateOk; infer_instance
theorem leapI_01 (y : Int) : leapI y = 0 ∨ leapI y = 1 := by unfold leapI; split <;> simp
theorem monthC {m : Int} (h1 : 1 ≤ m) (h2 : m ≤ 12) : m = 1 ∨ m = 2 ∨ m = 3 ∨ m = 4 ∨ m = 5 ∨ m = 6 ∨ m = 7 ∨ m = 8 ∨ m = 9 ∨ m = 10 ∨ m = 11 ∨ m = 12 := by omega
theorem cumM_step (y : Int) {m : Int} (h1 : 1 ≤ m) (h2 : m ≤ 12) : cumM y (m + 1) = cumM y m + lenM y m := by
  rcases monthC h1 h2 with h | h | h | h | h | h | h | h | h | h | h | h <;> subst h <;> simp [cumM, lenM] <;> omega
theorem cumM_one (y : Int) : cumM y 1 = 0 := rfl
theorem lenM_pos (y : Int) {m : Int} (h1 : 1 ≤ m) (h2 : m ≤ 12) : 28 ≤ lenM y m ∧ lenM y m ≤ 31 := by
  have := leapI_01 y
  rcases monthC h1 h2 with h | h | h | h | h | h | h | h | h | h | h | h <;> subst h <;> simp [lenM] <;> omega
theorem cumM_bounds (y : Int) {m : Int} (h1 : 1 ≤ m) (h2 : m ≤ 12) : 0 ≤ cumM y m ∧ cumM y m + lenM y m ≤ 365 + leapI y := by
  have := leapI_01 y
  rcases monthC h1 h2 with h | h | h | h | h | h | h | h | h | h | h | h <;> subst h <;> simp [cumM, lenM] <;> omega
theorem cumM_mono (y : Int) {a b : Int} (h1 : 1 ≤ a) (h2 : a < b) (h3 : b ≤ 12) : cumM y a + lenM y a ≤ cumM y b := by
  have := leapI_01 y
  rcases monthC h1 (by omega) with h | h | h | h | h | h | h | h | h | h | h | h <;> subst h <;> rcases monthC (m := b) (by omega) h3 with h | h | h | h | h | h | h | h | h | h | h | h <;> subst h <;> first | omega | (simp [cumM, lenM] <;> omega)
theorem lenM_zero (y : Int) : lenM y 0 = 365 + leapI y := rfl
theorem yB_step (y : Int) : yB (y + 1) = yB y + lenM y 0 := by
  rw [lenM_zero]; unfold yB leapI; split <;> omega
theorem yB_mono {a b : Int} (h : a < b) : yB a + lenM a 0 ≤ yB b := by
  rw [← yB_step]; unfold yB; omega
theorem numD_bounds {y m d : Int} (h : dateOk y m d) : 0 ≤ numD y m d ∧ numD y m d ≤ 36524 := by
  obtain ⟨⟨h1, h2⟩, ⟨h3, h4⟩, h5, h6⟩ := h
  have ⟨h7, h8⟩ := cumM_bounds y h3 h4
  have h9 : leapI y = if y % 4 = 0 then 1 else 0 := rfl
  unfold numD yB
  split at h9 <;> omega
theorem yB_four (y : Int) : (y - 2000) / 4 * 1461 = yB (y / 4 * 4) := by unfold yB; omega
theorem yB_rest (n : Int) : yB (2000 + n / 1461 * 4) = n - n % 1461 := by unfold yB; omega
theorem year_le {y m d : Int} (h : dateOk y m d) : 2000 + numD y m d / 1461 * 4 ≤ y := by
  obtain ⟨⟨h1, h2⟩, ⟨h3, h4⟩, h5, h6⟩ := h
  have ⟨h7, h8⟩ := cumM_bounds y h3 h4
  have h9 : leapI y = if y % 4 = 0 then 1 else 0 := rfl
  have e : numD y m d = yB y + cumM y m + d - 1 := rfl
  generalize numD y m d = n at *
  unfold yB at e
  split at h9 <;> omega
/-- The year's loop: it goes on exactly below the year. -/
theorem year_go {y m d t r : Int} (h : dateOk y m d) (ht : t ≤ y) (hr : r = numD y m d - yB t) : 0 ≤ r ∧ (lenM t 0 ≤ r ↔ t < y) := by
  obtain ⟨⟨h1, h2⟩, ⟨h3, h4⟩, h5, h6⟩ := h
  have ⟨h7, h8⟩ := cumM_bounds y h3 h4
  have e : numD y m d = yB y + cumM y m + d - 1 := rfl
  have hz := lenM_zero y
  rcases Int.lt_or_eq_of_le ht with hlt | rfl
  · have := yB_mono hlt
    have h9 := leapI_01 t
    have hz := lenM_zero t
    omega
  · omega
theorem month_go {y m d t r : Int} (h : dateOk y m d) (h0 : 1 ≤ t) (ht : t ≤ m) (hr : r = cumM y m + d - 1 - cumM y t) : 0 ≤ r ∧ (lenM y t ≤ r ↔ t < m) := by
  obtain ⟨⟨h1, h2⟩, ⟨h3, h4⟩, h5, h6⟩ := h
  rcases Int.lt_or_eq_of_le ht with hlt | rfl
  · have := cumM_mono y h0 hlt h4
    have := lenM_pos y h0 (by omega)
    omega
  · omega

/-! ### The text of a date -/
theorem digB_iff {c : UInt8} : digB c = true ↔ 48 ≤ c.toNat ∧ c.toNat ≤ 57 := by unfold digB; simp
theorem digB_back {c : UInt8} (h : digB c = true) : UInt8.ofNat (48 + (c.toNat - 48)) = c := by
  have := digB_iff.1 h
  rw [show 48 + (c.toNat - 48) = c.toNat by omega, UInt8.ofNat_toNat]
def two (n : Int) : List UInt8 := [UInt8.ofNat (48 + n.toNat / 10), UInt8.ofNat (48 + n.toNat % 10)]
theorem two_back {a b : UInt8} (ha : digB a = true) (hb : digB b = true) : two ((valL 0 [a, b] : Nat) : Int) = [a, b] := by
  have h1 := digB_iff.1 ha
  have h2 := digB_iff.1 hb
  have e : valL 0 [a, b] = 10 * (a.toNat - 48) + (b.toNat - 48) := by rw [valL_cons, valL_cons, valL_nil]; omega
  unfold two
  rw [Int.toNat_natCast, e, show (10 * (a.toNat - 48) + (b.toNat - 48)) / 10 = a.toNat - 48 by omega, show (10 * (a.toNat - 48) + (b.toNat - 48)) % 10 = b.toNat - 48 by omega, digB_back ha, digB_back hb]
theorem year_back {a b c d : UInt8} (ha : digB a = true) (hb : digB b = true) (hc : digB c = true) (hd : digB d = true) (h : 1000 ≤ valL 0 [a, b, c, d]) : Lib.itoa ((valL 0 [a, b, c, d] : Nat) : Int) = [a, b, c, d] := by
  have h1 := digB_iff.1 ha
  have h2 := digB_iff.1 hb
  have h3 := digB_iff.1 hc
  have h4 := digB_iff.1 hd
  rw [itoa_natL (by omega)]
  refine (dig_back 4 [a, b, c, d] rfl (by simp [ha, hb, hc, hd]) ?_).1
  intro e
  have e2 : a = 48 := by simpa using e
  subst e2
  rw [valL_cons, valL_cons, valL_cons, valL_cons, valL_nil] at h
  have : (48 : UInt8).toNat = 48 := rfl
  omega
/-- The number of a field of digits, -1 if there is another byte. -/
def fN (l : List UInt8) : Int := if l.all digB then ((valL 0 l : Nat) : Int) else -1
theorem fN_pos {l : List UInt8} (h : 0 ≤ fN l) : l.all digB = true ∧ fN l = ((valL 0 l : Nat) : Int) := by
  unfold fN at h ⊢
  split
  · rename_i h1; exact ⟨h1, rfl⟩
  · rename_i h1; rw [if_neg h1] at h; omega
theorem fN_ok {l : List UInt8} (h : l.all digB = true) : fN l = ((valL 0 l : Nat) : Int) := by unfold fN; rw [if_pos h]
theorem fN_bad {l : List UInt8} (h : l.all digB = false) : fN l = -1 := by unfold fN; rw [if_neg (by rw [h]; decide)]
def dayL (y m d : Int) : List UInt8 := Lib.itoa y ++ [45] ++ two m ++ [45] ++ two d
def yF (l : List UInt8) : Int := fN (l.take 4)
def mF (l : List UInt8) : Int := fN ((l.take 7).drop 5)
def dF (l : List UInt8) : Int := fN (l.drop 8)
theorem text_iff {l : List UInt8} (h : l.length = 10) (hd : dateOk (yF l) (mF l) (dF l)) : dayL (yF l) (mF l) (dF l) = l ↔ (l[4]? = some 45 ∧ l[7]? = some 45) := by
  match l, h with
  | [a, b, c, d, e, f, g, h, i, j], _ =>
    obtain ⟨⟨h1, _⟩, ⟨h2, _⟩, h3, _⟩ := hd
    obtain ⟨ha, ea⟩ := fN_pos (l := [a, b, c, d]) (by have : (2000 : Int) ≤ fN [a, b, c, d] := h1; omega)
    obtain ⟨hb, eb⟩ := fN_pos (l := [f, g]) (by have : (1 : Int) ≤ fN [f, g] := h2; omega)
    obtain ⟨hc, ec⟩ := fN_pos (l := [i, j]) (by have : (1 : Int) ≤ fN [i, j] := h3; omega)
    have h1' : (2000 : Int) ≤ fN [a, b, c, d] := h1
    rw [ea] at h1'
    simp only [List.all_cons, List.all_nil, Bool.and_true, Bool.and_eq_true] at ha hb hc
    have e1 : yF [a, b, c, d, e, f, g, h, i, j] = ((valL 0 [a, b, c, d] : Nat) : Int) := ea
    have e2 : mF [a, b, c, d, e, f, g, h, i, j] = ((valL 0 [f, g] : Nat) : Int) := eb
    have e3 : dF [a, b, c, d, e, f, g, h, i, j] = ((valL 0 [i, j] : Nat) : Int) := ec
    unfold dayL
    rw [e1, e2, e3, year_back ha.1 ha.2.1 ha.2.2.1 ha.2.2.2 (by omega), two_back hb.1 hb.2, two_back hc.1 hc.2]
    simp
    constructor
    · rintro ⟨rfl, rfl⟩; exact ⟨rfl, rfl⟩
    · rintro ⟨rfl, rfl⟩; exact ⟨rfl, rfl⟩
/-- The day of a text. -/
def rdF (s : ByteArray) : Option Int :=
  if s.size = 10 ∧ s.data.toList[4]? = some 45 ∧ s.data.toList[7]? = some 45 ∧ dateOk (yF s.data.toList) (mF s.data.toList) (dF s.data.toList) then some (numD (yF s.data.toList) (mF s.data.toList) (dF s.data.toList)) else none
theorem rdF_size {s : ByteArray} (h : ¬ s.size = 10) : rdF s = none := by unfold rdF; rw [if_neg (fun e => h e.1)]
theorem rdF_four {s : ByteArray} (h : ¬ s.data.toList[4]? = some 45) : rdF s = none := by unfold rdF; rw [if_neg (fun e => h e.2.1)]
theorem rdF_seven {s : ByteArray} (h : ¬ s.data.toList[7]? = some 45) : rdF s = none := by unfold rdF; rw [if_neg (fun e => h e.2.2.1)]
theorem rdF_date {s : ByteArray} (h : ¬ dateOk (yF s.data.toList) (mF s.data.toList) (dF s.data.toList)) : rdF s = none := by unfold rdF; rw [if_neg (fun e => h e.2.2.2)]
theorem rdF_some {s : ByteArray} (h : s.size = 10) (h4 : s.data.toList[4]? = some 45) (h7 : s.data.toList[7]? = some 45) (hd : dateOk (yF s.data.toList) (mF s.data.toList) (dF s.data.toList)) : rdF s = some (numD (yF s.data.toList) (mF s.data.toList) (dF s.data.toList)) := by unfold rdF; rw [if_pos ⟨h, h4, h7, hd⟩]
theorem rdF_text {s : ByteArray} (h : s.size = 10) (hd : dateOk (yF s.data.toList) (mF s.data.toList) (dF s.data.toList)) :
    (dayL (yF s.data.toList) (mF s.data.toList) (dF s.data.toList) = s.data.toList → rdF s = some (numD (yF s.data.toList) (mF s.data.toList) (dF s.data.toList))) ∧ (¬ dayL (yF s.data.toList) (mF s.data.toList) (dF s.data.toList) = s.data.toList → rdF s = none) := by
  have hl : s.data.toList.length = 10 := by simpa using h
  have ht := text_iff hl hd
  constructor
  · intro e
    have := ht.1 e
    exact rdF_some h this.1 this.2 hd
  · intro e
    unfold rdF
    rw [if_neg (fun c => e (ht.2 ⟨c.2.1, c.2.2.1⟩))]
/-- What is read is a date, and its text is the text that was read. -/
theorem rdF_is {s : ByteArray} {n : Int} (h : rdF s = some n) : ∃ y m d, dateOk y m d ∧ n = numD y m d ∧ s = ⟨(dayL y m d).toArray⟩ := by
  unfold rdF at h
  split at h
  · rename_i c
    injection h with h
    refine ⟨_, _, _, c.2.2.2, h.symm, ?_⟩
    rw [(text_iff (by simpa using c.1) c.2.2.2).2 ⟨c.2.1, c.2.2.1⟩]
  · cases h
theorem yearL {y : Int} (h : 2000 ≤ y) (h2 : y ≤ 2099) : Lib.itoa y = [UInt8.ofNat (48 + y.toNat / 1000), UInt8.ofNat (48 + y.toNat / 100 % 10), UInt8.ofNat (48 + y.toNat / 10 % 10), UInt8.ofNat (48 + y.toNat % 10)] := by
  have hd : ∀ k, k < 10 → digB (UInt8.ofNat (48 + k)) = true ∧ (UInt8.ofNat (48 + k)).toNat = 48 + k := by
    intro k hk
    have e : (UInt8.ofNat (48 + k)).toNat = 48 + k := by rw [UInt8.toNat_ofNat']; omega
    exact ⟨digB_iff.2 (by omega), e⟩
  have e : y = ((valL 0 [UInt8.ofNat (48 + y.toNat / 1000), UInt8.ofNat (48 + y.toNat / 100 % 10), UInt8.ofNat (48 + y.toNat / 10 % 10), UInt8.ofNat (48 + y.toNat % 10)] : Nat) : Int) := by
    rw [valL_cons, valL_cons, valL_cons, valL_cons, valL_nil, (hd (y.toNat / 1000) (by omega)).2, (hd (y.toNat / 100 % 10) (by omega)).2, (hd (y.toNat / 10 % 10) (by omega)).2, (hd (y.toNat % 10) (by omega)).2]
    omega
  have := year_back (hd (y.toNat / 1000) (by omega)).1 (hd (y.toNat / 100 % 10) (by omega)).1 (hd (y.toNat / 10 % 10) (by omega)).1 (hd (y.toNat % 10) (by omega)).1 (by omega)
  rw [← e] at this
  exact this
theorem dayL_len {y m d : Int} (h : dateOk y m d) : (dayL y m d).length = 10 := by
  unfold dayL; rw [yearL h.1.1 h.1.2]; simp [two]
theorem two_dig {n : Int} (h0 : 0 ≤ n) (h1 : n < 100) : ∀ b ∈ two n, b ≠ 32 := by
  intro b hb
  have hn : ∀ k, k < 10 → UInt8.ofNat (48 + k) ≠ 32 := by
    intro k hk e
    have := congrArg UInt8.toNat e
    rw [UInt8.toNat_ofNat'] at this
    simp at this
    omega
  unfold two at hb
  simp only [List.mem_cons, List.not_mem_nil, or_false] at hb
  rcases hb with rfl | rfl
  · exact hn _ (by omega)
  · exact hn _ (by omega)
/-! ### Every day has a date -/
theorem year_of : ∀ (k : Nat) (n : Int), 0 ≤ n → n < yB (2000 + (k : Int)) → ∃ y, 2000 ≤ y ∧ y < 2000 + (k : Int) ∧ yB y ≤ n ∧ n < yB (y + 1)
  | 0, n, h0, h => absurd h (by show ¬ n < yB (2000 + 0); unfold yB; omega)
  | k + 1, n, h0, h => by
    by_cases hk : n < yB (2000 + (k : Int))
    · obtain ⟨y, h1, h2, h3, h4⟩ := year_of k n h0 hk
      exact ⟨y, h1, by omega, h3, h4⟩
    · exact ⟨2000 + (k : Int), by omega, by omega, by omega, by rw [show (2000 : Int) + k + 1 = 2000 + ((k + 1 : Nat) : Int) by omega]; exact h⟩
theorem month_of (y : Int) : ∀ (k : Nat) (r : Int), k ≤ 12 → 0 ≤ r → r < cumM y (1 + (k : Int)) → ∃ m, 1 ≤ m ∧ m ≤ (k : Int) ∧ cumM y m ≤ r ∧ r < cumM y (m + 1)
  | 0, r, _, h0, h => absurd h (by show ¬ r < cumM y (1 + 0); rw [show (1 : Int) + 0 = 1 from rfl, cumM_one]; omega)
  | k + 1, r, hk12, h0, h => by
    by_cases hk : r < cumM y (1 + (k : Int))
    · obtain ⟨m, h1, h2, h3, h4⟩ := month_of y k r (by omega) h0 hk
      exact ⟨m, h1, by omega, h3, h4⟩
    · exact ⟨1 + (k : Int), by omega, by omega, by omega, by rw [show (1 : Int) + k + 1 = 1 + ((k + 1 : Nat) : Int) by omega]; exact h⟩
theorem day_has {n : Int} (h0 : 0 ≤ n) (h1 : n ≤ 36524) : ∃ y m d, dateOk y m d ∧ n = numD y m d := by
  obtain ⟨y, hy1, hy2, hy3, hy4⟩ := year_of 100 n h0 (by show n < yB (2000 + 100); unfold yB; omega)
  have hlen := yB_step y
  rw [lenM_zero] at hlen
  obtain ⟨m, hm1, hm2, hm3, hm4⟩ := month_of y 12 (n - yB y) (by omega) (by omega) (by show _ < cumM y 13; show _ < 365 + leapI y; omega)
  have hs := cumM_step y hm1 hm2
  exact ⟨y, m, n - yB y - cumM y m + 1, ⟨⟨hy1, by omega⟩, ⟨hm1, hm2⟩, by omega, by omega⟩, by unfold numD; omega⟩

end Go.Proofs.YtphljobklilbdaaGreatDoor

namespace Go.Proofs.YtphljobklilbdaaGreatDoor
open Go.RowKit
set_option linter.unusedVariables false

theorem rem4 {y : Int} (h : 0 ≤ y) : (y % 4 == 0) = (leapI y == 1) := by
  unfold leapI
  by_cases e : y % 4 = 0
  · rw [if_pos e, e]; rfl
  · rw [if_neg e, beq_eq_false_iff_ne.2 e]; rfl
/-- The days of a month of a year without a day more. -/
def lenT (m : Int) : Int := if m = 0 then 365 else if m = 2 then 28 else if m = 4 ∨ m = 6 ∨ m = 9 ∨ m = 11 then 30 else 31
theorem monthC0 {m : Int} (h1 : 0 ≤ m) (h2 : m ≤ 12) : m = 0 ∨ m = 1 ∨ m = 2 ∨ m = 3 ∨ m = 4 ∨ m = 5 ∨ m = 6 ∨ m = 7 ∨ m = 8 ∨ m = 9 ∨ m = 10 ∨ m = 11 ∨ m = 12 := by omega
theorem lenM_plain {y m : Int} (h : ¬ (leapI y = 1 ∧ (m = 0 ∨ m = 2))) : lenM y m = lenT m := by
  have := leapI_01 y
  unfold lenM lenT
  repeat' split
  all_goals omega
theorem lenM_more {y m : Int} (h : leapI y = 1 ∧ (m = 0 ∨ m = 2)) : lenM y m = lenT m + 1 := by
  unfold lenM lenT
  repeat' split
  all_goals omega
theorem lenT_range (m : Int) : 28 ≤ lenT m ∧ lenT m ≤ 365 := by
  unfold lenT
  repeat' split
  all_goals omega
def dayS (y m d : Int) : ByteArray := ⟨(dayL y m d).toArray⟩
theorem dayS_size {y m d : Int} (h : dateOk y m d) : (dayS y m d).size = 10 := by unfold dayS; rw [mkL_size, dayL_len h]
theorem dayS_cat (y m d : Int) : decS y ++ ⟨#[45]⟩ ++ ⟨(two m).toArray⟩ ++ ⟨#[45]⟩ ++ ⟨(two d).toArray⟩ = dayS y m d := by
  have e45 : (⟨#[45]⟩ : ByteArray) = ⟨([45] : List UInt8).toArray⟩ := rfl
  unfold dayS dayL decS
  rw [e45, bytesL_append, bytesL_append, bytesL_append, bytesL_append]
theorem two_size (n : Int) : (⟨(two n).toArray⟩ : ByteArray).size = 2 := rfl
theorem fN_range {l : List UInt8} (h : l.length ≤ 4) : -1 ≤ fN l ∧ fN l ≤ 1000000 := by
  cases hd : l.all digB
  · rw [fN_bad hd]; omega
  · rw [fN_ok hd]
    have := valL_lt l 0 0 hd (by decide)
    have h2 : 10 ^ (0 + l.length) ≤ 10 ^ 4 := Nat.pow_le_pow_right (by decide) (by omega)
    have h3 : (10 : Nat) ^ 4 = 10000 := by decide
    omega
theorem ex_y (s : ByteArray) : (s.extract 0 4).data.toList = s.data.toList.take 4 := by rw [extract_toList, List.drop_zero]
theorem ex_m (s : ByteArray) : (s.extract 5 7).data.toList = (s.data.toList.take 7).drop 5 := by rw [extract_toList]
theorem ex_d (s : ByteArray) : (s.extract 8 s.size).data.toList = s.data.toList.drop 8 := by rw [extract_toList, List.take_of_length_le (by simp)]
theorem f_range (s : ByteArray) (h : s.size = 10) : (-1 ≤ yF s.data.toList ∧ yF s.data.toList ≤ 1000000) ∧ (-1 ≤ mF s.data.toList ∧ mF s.data.toList ≤ 1000000) ∧ (-1 ≤ dF s.data.toList ∧ dF s.data.toList ≤ 1000000) := by
  have hl : s.data.toList.length = 10 := by simpa using h
  unfold yF mF dF
  exact ⟨fN_range (by rw [List.length_take]; omega), fN_range (by rw [List.length_drop, List.length_take]; omega), fN_range (by rw [List.length_drop]; omega)⟩

end Go.Proofs.YtphljobklilbdaaGreatDoor

namespace Go.Proofs.YtphljobklilbdaaGreatDoor
open Go.RowKit
set_option linter.unusedVariables false

def oneK (k : Nat) (b : ByteArray) : Bool := match rlF b with | some xs => decide (xs.length = k) | none => false
def numK (k : Nat) (b : ByteArray) : List Int := match rlF b with | some xs => if xs.length = k then xs else List.replicate k 0 | none => List.replicate k 0
theorem oneK_some {k : Nat} {b : ByteArray} {xs : List Int} (h : rlF b = some xs) : oneK k b = decide (xs.length = k) := by unfold oneK; rw [h]
theorem oneK_none {k : Nat} {b : ByteArray} (h : rlF b = none) : oneK k b = false := by unfold oneK; rw [h]
theorem numK_some {k : Nat} {b : ByteArray} {xs : List Int} (h : rlF b = some xs) (hl : xs.length = k) : numK k b = xs := by unfold numK; rw [h]; exact if_pos hl
theorem oneK_yes {k : Nat} {b : ByteArray} (h : oneK k b = true) : rlF b = some (numK k b) ∧ (numK k b).length = k := by
  cases hr : rlF b with
  | none => rw [oneK_none hr] at h; cases h
  | some xs =>
    rw [oneK_some hr] at h
    have hl : xs.length = k := of_decide_eq_true h
    rw [numK_some hr hl]
    exact ⟨rfl, hl⟩
theorem oneK_no {k : Nat} {b : ByteArray} (h : oneK k b = false) : numK k b = List.replicate k 0 := by
  cases hr : rlF b with
  | none => unfold numK; rw [hr]
  | some xs =>
    rw [oneK_some hr] at h
    have hl : ¬ xs.length = k := of_decide_eq_false h
    unfold numK; rw [hr]; exact if_neg hl
theorem numK_len (k : Nat) (b : ByteArray) : (numK k b).length = k := by
  cases h : oneK k b
  · rw [oneK_no h]; simp
  · exact (oneK_yes h).2
theorem numK_ok {k : Nat} {b : ByteArray} : ∀ x ∈ numK k b, fInt.ok x := by
  cases h : oneK k b
  · rw [oneK_no h]; intro x hx
    have := List.eq_of_mem_replicate hx
    subst this; show _ ∧ _; simp
  · have h1 := (rlF_text (oneK_yes h).1).1
    intro x hx
    unfold fitsL at h1
    simp only [Bool.and_eq_true] at h1
    have := inB_true.1 (List.all_eq_true.1 h1.2 x hx)
    show _ ∧ _
    omega
theorem name_noblank {x : ByteArray} (h : nameB x = true) : ∀ b ∈ x.data.toList, b ≠ 32 := by
  intro b hb e
  subst e
  unfold nameB at h
  simp only [Bool.and_eq_true] at h
  have ha : allNm x.data.toList = true := by first | exact h.2 | exact h.1.2 | exact h.1.1.2 | exact h.1.1.1
  unfold allNm at ha
  have := List.all_eq_true.1 ha 32 hb
  revert this; decide
theorem joinX_bytes : ∀ (L : List (List UInt8)), (∀ x ∈ L, ∀ b ∈ x, b ≠ 32) → ∀ b ∈ joinX L, b ≠ 32
  | [], _, b, hb => by simp [joinX] at hb
  | x :: r, h, b, hb => by
    unfold joinX at hb
    rw [List.mem_append, List.mem_flatMap] at hb
    rcases hb with hb | ⟨y, hy, hb⟩
    · exact h x (by simp) b hb
    · rcases List.mem_cons.1 hb with rfl | hb
      · decide
      · exact h y (by simp [hy]) b hb
theorem listS_noblank (xs : List Int) : ∀ b ∈ (listS xs).data.toList, b ≠ 32 := by
  by_cases h : xs = []
  · subst h; intro b hb; have : b = 45 := by simpa [listS] using hb
    subst this; decide
  · rw [listS_data h]
    exact joinX_bytes _ (fun y hy b hb => by obtain ⟨v, _, rfl⟩ := List.mem_map.1 hy; exact (itoa_bytes v b hb).2)
/-- A list of numbers that was read has the text that it was read from. -/
theorem numK_text {k : Nat} {b : ByteArray} (h : oneK k b = true) : listT (numK k b) = b ∧ ∀ y ∈ b.data.toList, y ≠ 32 := by
  obtain ⟨h1, h2⟩ := rlF_text (oneK_yes h).1
  have e : listT (numK k b) = b := by unfold listT; rw [if_pos h1, h2]
  exact ⟨e, fun y hy => listS_noblank (numK k b) y (by rw [h2]; exact hy)⟩
theorem ixL_split (c : UInt8) : ∀ l : List UInt8, ixL c l < l.length → l = l.take (ixL c l) ++ c :: l.drop (ixL c l + 1) ∧ ∀ b ∈ l.take (ixL c l), b ≠ c
  | [], h => by simp at h
  | b :: l, h => by
    rw [ixL_cons] at h ⊢
    by_cases e : b = c
    · rw [if_pos e]; subst e; exact ⟨rfl, by simp⟩
    · rw [if_neg e] at h ⊢
      obtain ⟨h1, h2⟩ := ixL_split c l (by simpa using h)
      refine ⟨?_, ?_⟩
      · rw [List.take_succ_cons, List.drop_succ_cons, List.cons_append, ← h1]
      · intro x hx
        rw [List.take_succ_cons] at hx
        rcases List.mem_cons.1 hx with rfl | hx
        · exact e
        · exact h2 x hx
theorem ixL_free (c : UInt8) : ∀ l : List UInt8, ¬ ixL c l < l.length → ∀ b ∈ l, b ≠ c
  | [], _ => by simp
  | b :: l, h => by
    rw [ixL_cons] at h
    by_cases e : b = c
    · rw [if_pos e] at h; simp at h
    · rw [if_neg e] at h
      intro x hx
      rcases List.mem_cons.1 hx with rfl | hx
      · exact e
      · exact ixL_free c l (by simpa using h) x hx
theorem cut_cases (l : List UInt8) : ((∀ b ∈ l, b ≠ 32) ∧ Lib.cut l [32] = (l, [], false)) ∨ ∃ x y, l = x ++ 32 :: y ∧ (∀ b ∈ x, b ≠ 32) ∧ Lib.cut l [32] = (x, y, true) := by
  have hi := ixL_index 32 l
  by_cases h : ixL 32 l < l.length
  · obtain ⟨h1, h2⟩ := ixL_split 32 l h
    refine .inr ⟨_, _, h1, h2, ?_⟩
    rw [if_pos h] at hi
    unfold Lib.cut
    rw [hi, if_pos (by omega)]
    rfl
  · refine .inl ⟨ixL_free 32 l h, ?_⟩
    rw [if_neg h] at hi
    unfold Lib.cut
    rw [hi, if_neg (by omega)]
def cA (s : ByteArray) : ByteArray := ⟨(Lib.cut s.data.toList [32]).1.toArray⟩
def cZ (s : ByteArray) : ByteArray := ⟨(Lib.cut s.data.toList [32]).2.1.toArray⟩
theorem cAZ_size (s : ByteArray) : (cA s).size ≤ s.size ∧ (cZ s).size ≤ s.size := by
  have hl : s.data.toList.length = s.size := by simp
  have e1 : (cA s).size = (Lib.cut s.data.toList [32]).1.length := mkL_size _
  have e2 : (cZ s).size = (Lib.cut s.data.toList [32]).2.1.length := mkL_size _
  rw [e1, e2]
  rcases cut_cases s.data.toList with ⟨_, h⟩ | ⟨x, y, hxy, _, h⟩
  · rw [h, ← hl]; exact ⟨Nat.le_refl _, Nat.zero_le _⟩
  · rw [h]
    have := congrArg List.length hxy
    rw [hl, List.length_append, List.length_cons] at this
    show x.length ≤ _ ∧ y.length ≤ _
    omega
/-- A name and a list of numbers behind the first blank. -/
theorem words_of {s : ByteArray} {k : Nat} (h : oneK k (cZ s) = true) : splS 32 s = [cA s, cZ s] ∧ cA s ++ ⟨#[32]⟩ ++ cZ s = s := by
  rcases cut_cases s.data.toList with ⟨_, hc⟩ | ⟨x, y, hxy, hx, hc⟩
  · exfalso
    have : cZ s = ⟨#[]⟩ := by unfold cZ; rw [hc]
    rw [this] at h
    rw [oneK_none (show rlF ⟨#[]⟩ = none from rfl)] at h
    cases h
  · have hA : (cA s).data.toList = x := by unfold cA; rw [hc]
    have hZ : (cZ s).data.toList = y := by unfold cZ; rw [hc]
    have hy := (numK_text h).2
    rw [hZ] at hy
    constructor
    · refine (splS_of ?_).symm
      rw [List.map_cons, List.map_cons, List.map_nil, hA, hZ, hxy, splL_app 32 x y hx, splL_none hy]
    · refine data_inj ?_
      rw [Go.Joins.data_append, Go.Joins.data_append, hA, hZ, hxy]; simp
theorem words_back {s a b : ByteArray} (h : splS 32 s = [a, b]) : cA s = a ∧ cZ s = b := by
  have hd := splS_data 32 s
  rw [h] at hd
  rcases cut_cases s.data.toList with ⟨hn, hc⟩ | ⟨x, y, hxy, hx, hc⟩
  · rw [splL_none hn] at hd; exact absurd (congrArg List.length hd) (by simp)
  · rw [hxy, splL_app 32 x y hx, List.map_cons, List.map_cons, List.map_nil] at hd
    obtain ⟨h1, h2⟩ := List.cons.inj hd
    have h3 := splL_join 32 y [] b.data.toList h2.symm
    have hA : (cA s).data.toList = x := by unfold cA; rw [hc]
    have hZ : (cZ s).data.toList = y := by unfold cZ; rw [hc]
    exact ⟨data_inj (by rw [hA, h1]), data_inj (by rw [hZ, ← h3]; simp)⟩
theorem words_few {s : ByteArray} {k : Nat} (h : ¬ (splS 32 s).length = 2) : oneK k (cZ s) = false := by
  cases hk : oneK k (cZ s) with
  | false => rfl
  | true => rw [(words_of hk).1] at h; exact absurd rfl h
theorem words4 {s a b c d : ByteArray} (h : splS 32 s = [a, b, c, d]) : a ++ ⟨#[32]⟩ ++ b ++ ⟨#[32]⟩ ++ c ++ ⟨#[32]⟩ ++ d = s := by
  have hd := splS_data 32 s
  rw [h] at hd
  have hj := splL_join 32 s.data.toList [a.data.toList, b.data.toList, c.data.toList] d.data.toList hd.symm
  refine data_inj ?_
  rw [Go.Joins.data_append, Go.Joins.data_append, Go.Joins.data_append, Go.Joins.data_append, Go.Joins.data_append, Go.Joins.data_append, ← hj]; simp
theorem made2 (v : Value) : madeCells #[v] 2 = #[v, v] := by
  unfold madeCells
  rw [show Array.range 2 = #[0, 1] from by decide]
  simp [Nat.mod_one]
theorem made3R (v : Value) : madeCells #[v] 3 = #[v, v, v] := by
  unfold madeCells
  rw [show Array.range 3 = #[0, 1, 2] from by decide]
  simp [Nat.mod_one]
theorem New.drewR {α : Type} {E : Cod α} {w w' : World} {v : Value} {xs : List α} (h : New E w v xs w') : New E w v xs w'.drew := by
  obtain ⟨⟨fp, h1, h2, h3⟩, hb⟩ := h
  exact ⟨⟨fp, h1.below' (Below.drew (Below.refl _ _)), h2, h3⟩, Below.drew hb⟩
def wiA (s : ByteArray) : ByteArray := if oneK 2 (cZ s) then cA s else ⟨#[]⟩
set_option maxRecDepth 100000 in
set_option maxHeartbeats 4000000 in
theorem readWithId_any (s : ByteArray) (m : Int) (w : World) (hs : s.size ≤ 1048576) (hm : w.cell? ⟨0, 0, none⟩ = some (.int .i64 m)) (ht : RdTabs w) :
    Calls Tryz.prog 40 #[.string s, .int .i64 2] w fun e w' => ∃ v, e = .returned (.tuple #[.string (wiA s), v, .bool (oneK 2 (cZ s))]) ∧ New fInt.cod w v (numK 2 (cZ s)) w' := by
  obtain ⟨i0, hi, hz0, hz1, hz2⟩ := info_parts infoIntR
  have hmk : ∀ W : World, (Instr.makeSlice 34 (.int .i64 2) (.int .i64 2)).run Tryz.prog W = .ok (.slice (some ⟨W.heap.size, 0, none⟩) 2 2) (W.alloc (.cells (madeCells (Value.int .i64 0).cells (2 * i0.size)) 2)) := fun W => run_make_rowN (P := Tryz.prog) 34 2 i0 _ Tryz.underlying34 hi hz0 .i64 .i64 2 2 (Nat.le_refl _) (by rw [hz2]; decide) (by decide) W
  rw [hz1] at hmk
  have hzero : ∀ W : World, Own fInt (W.alloc (.cells (madeCells #[Value.int .i64 0] 2) 2)) W.heap.size 2 (.slice (some ⟨W.heap.size, 0, none⟩) 2 2) [0, 0] := fun W => by
    rw [made2]
    exact World.ownsRow_lit (e := 2) (size := 1) W #[Value.int .i64 0, .int .i64 0] 2 (Nat.le_refl _) (by decide) rfl
  have hsz := (cAZ_size s).2
  have hsA := (cAZ_size s).1
  have hcut : Calls Tryz.prog 57 #[.string s, .string ⟨#[32]⟩] w fun e w' => e = .returned (.tuple #[.string (cA s), .string (cZ s), .bool (Lib.cut s.data.toList [32]).2.2]) ∧ ∃ n, w' = w.drewN n := Tryz.strings_Cut s ⟨#[32]⟩ m w (by omega) hm
  have hWA : wiA s = if oneK 2 (cZ s) then cA s else ⟨#[]⟩ := rfl
  generalize (Lib.cut s.data.toList [32]).2.2 = fnd at *
  generalize cA s = sa at *
  generalize cZ s = sz at *
  generalize wiA s = ra at *
  go_enter Tryz.func40, Tryz.ntmps40
  go_wp2_with fail
  refine hcut.mono ?_
  rintro e w' ⟨rfl, n, rfl⟩
  have hW : Below w.heap.size w (w.drewN n) := below_drewN (Below.refl _ _) _
  generalize hwn : w.drewN n = wn at *
  go_wp2_with fail
  refine (implReadList_any sz m _ (by omega) (cell_below hW hm) (ht.below hW)).mono ?_
  rintro e w1 ⟨v1, rfl, hn1⟩
  have hb1 := hW.trans (hn1.below.mono hW.size)
  have hn1' := hn1.later hW
  have HFAIL : Hid (oneK 2 sz = false → ∃ v, Ending.returned (.tuple #[.string ⟨#[]⟩, .slice (some ⟨w1.heap.size, 0, none⟩) 2 2, .bool false]) = .returned (.tuple #[.string ra, v, .bool (oneK 2 sz)]) ∧ New fInt.cod w v (numK 2 sz) (w1.alloc (.cells (madeCells #[Value.int .i64 0] 2) 2)).drew) := fun h => by
    refine ⟨_, by rw [hWA, h]; rfl, ?_⟩
    rw [oneK_no h]
    exact (((hzero w1).new ((Below.refl _ _).alloc (Nat.le_refl _) _) (by intro x hx; simp at hx; subst hx; show _ ∧ _; simp)).later hb1).drewR
  clear hzero
  cases hr : rlF sz with
  | none =>
    have h1 := oneK_none (k := 2) hr
    rw [show (none : Option (List Int)).isSome = false from rfl]
    clear hn1 hn1' hr hWA
    go_wp2
    refine wp_region_mixed [0, 2, 1, 3, 4] (C := fun w' => ∃ p : Regrown, w' = Go.Sort.grow (redrawn w1 p.d) p.os) [true, true, false, true, true] (by kernel_rfl) (by kernel_rfl) (by kernel_rfl) (fun _ _ d _ _ h => by cases d <;> exact h) (regrown_of_below (Below.drew (Below.refl _ _))) ?_
    simp only [List.map_cons, List.map_nil, List.getD_cons_zero, List.getD_cons_succ]
    have hS0 : Below (w1.heap.size) w1 w1.drew := Below.drew (Below.refl _ _)
    refine wpMix_pure (by kernel_rfl) (fun K hK => ?_); go_big_quiet_op; refine hK _ ?_; clear hK K
    refine wpMix_pure (by kernel_rfl) (fun K hK => ?_); go_big_quiet_op; refine hK _ ?_; clear hK K
    refine wpMix_act (by kernel_rfl) (fun K hK => ?_)
    go_big_op
    refine hK _ _ (regrown_of_below (by first | exact hS0.alloc hS0.size _ | exact Below.drew ((Below.refl _ _).alloc (Nat.le_refl _) _) | exact (Below.drew (Below.refl _ _)).alloc (Nat.le_refl _) _)) ?_
    clear hK K
    refine wpMix_pure (by kernel_rfl) (fun K hK => ?_); go_big_quiet_op; refine hK _ ?_; clear hK K
    refine wpMix_pure (by kernel_rfl) (fun K hK => ?_); go_big_quiet_op; refine hK _ ?_; clear hK K
    refine wpMix_nil ?_
    have HQ := Lib.hid (HFAIL.out h1)
    clear h1 hS0
    go_wp2
    go_ret3
    exact HQ.out
  | some xs =>
    have h1 := oneK_some (k := 2) hr
    rw [show (some xs : Option (List Int)).isSome = true from rfl]
    rw [hr] at hn1'
    have hn2 : New fInt.cod w v1 xs w1 := hn1'
    obtain ⟨⟨fpy, hsy, _, _⟩, _⟩ := id hn2
    obtain ⟨A, cap, rfl, _, _⟩ := hsy.form
    clear hn1 hn1' hsy
    by_cases h2 : xs.length = 2
    · rw [decide_eq_true h2] at h1
      have HN := Lib.hid (numK_some hr h2)
      have hn3 : New fInt.cod w (.slice A 2 cap) xs w1 := by rw [← h2]; exact hn2
      have HA : Hid (ra = sa) := by show _ = _; rw [hWA, h1]; rfl
      have H1 := Lib.hid h1
      have e5 : ((xs.length : Int) == 2) = true := by rw [beq_iff_eq]; omega
      have e6 : ((xs.length : Int) != 2) = false := by unfold bne; rw [e5]; rfl
      clear hr h1 hWA
      go_wp2
      go_ret3
      exact ⟨_, by rw [H1.out, HA.out]; rfl, by rw [HN.out]; exact hn3⟩
    · rw [decide_eq_false h2] at h1
      have e5 : ((xs.length : Int) == 2) = false := by rw [beq_eq_false_iff_ne]; omega
      have e6 : ((xs.length : Int) != 2) = true := by unfold bne; rw [e5]; rfl
      clear hr hn2 hWA
      go_wp2
      refine wp_region_mixed [0, 2, 1, 3, 4] (C := fun w' => ∃ p : Regrown, w' = Go.Sort.grow (redrawn w1 p.d) p.os) [true, true, false, true, true] (by kernel_rfl) (by kernel_rfl) (by kernel_rfl) (fun _ _ d _ _ h => by cases d <;> exact h) (regrown_of_below (Below.drew (Below.refl _ _))) ?_
      simp only [List.map_cons, List.map_nil, List.getD_cons_zero, List.getD_cons_succ]
      have hS0 : Below (w1.heap.size) w1 w1.drew := Below.drew (Below.refl _ _)
      refine wpMix_pure (by kernel_rfl) (fun K hK => ?_); go_big_quiet_op; refine hK _ ?_; clear hK K
      refine wpMix_pure (by kernel_rfl) (fun K hK => ?_); go_big_quiet_op; refine hK _ ?_; clear hK K
      refine wpMix_act (by kernel_rfl) (fun K hK => ?_)
      go_big_op
      refine hK _ _ (regrown_of_below (by first | exact hS0.alloc hS0.size _ | exact Below.drew ((Below.refl _ _).alloc (Nat.le_refl _) _) | exact (Below.drew (Below.refl _ _)).alloc (Nat.le_refl _) _)) ?_
      clear hK K
      refine wpMix_pure (by kernel_rfl) (fun K hK => ?_); go_big_quiet_op; refine hK _ ?_; clear hK K
      refine wpMix_pure (by kernel_rfl) (fun K hK => ?_); go_big_quiet_op; refine hK _ ?_; clear hK K
      refine wpMix_nil ?_
      have HQ := Lib.hid (HFAIL.out h1)
      clear h1 hS0
      go_wp2
      go_ret3
      exact HQ.out

end Go.Proofs.YtphljobklilbdaaGreatDoor

namespace Go.Proofs.YtphljobklilbdaaGreatDoor
open Go.RowKit
set_option linter.unusedVariables false

/-- The text of a name and numbers. -/
def widT (i : ByteArray) (xs : List Int) : ByteArray := i ++ ⟨#[32]⟩ ++ listT xs
theorem widT_cut {i : ByteArray} {xs : List Int} (hi : ∀ b ∈ i.data.toList, b ≠ 32) (hf : fitsL xs = true) : cA (widT i xs) = i ∧ cZ (widT i xs) = listS xs := by
  have e : listT xs = listS xs := by unfold listT; rw [if_pos hf]
  refine words_back ?_
  refine (splS_of ?_).symm
  unfold widT
  rw [e, List.map_cons, List.map_cons, List.map_nil, Go.Joins.data_append, Go.Joins.data_append]
  rw [show i.data.toList ++ (⟨#[32]⟩ : ByteArray).data.toList ++ (listS xs).data.toList = i.data.toList ++ 32 :: (listS xs).data.toList by simp]
  rw [splL_app 32 _ _ hi, splL_none (listS_noblank xs)]
theorem fitsL_of {xs : List Int} (hl : xs.length ≤ 64) (h : ∀ x ∈ xs, -1000000000000 ≤ x ∧ x ≤ 1000000000000) : fitsL xs = true := by
  unfold fitsL
  rw [decide_eq_true hl, Bool.true_and, List.all_eq_true]
  exact fun x hx => inB_true.2 (h x hx)
set_option maxRecDepth 100000 in
set_option maxHeartbeats 4000000 in
theorem readWithId_of (i : ByteArray) (xs : List Int) (k : Nat) (w : World) (hi : ∀ b ∈ i.data.toList, b ≠ 32) (hiz : i.size ≤ 100) (hf : fitsL xs = true) (hk : xs.length = k) (m : Int) (hm : w.cell? ⟨0, 0, none⟩ = some (.int .i64 m)) (ht : RdTabs w) :
    Calls Tryz.prog 40 #[.string (widT i xs), .int .i64 k] w fun e w' => ∃ v, e = .returned (.tuple #[.string i, v, .bool true]) ∧ New fInt.cod w v xs w' := by
  have hxo : ∀ x ∈ xs, fInt.ok x := fun x hx => by
    unfold fitsL at hf
    rw [Bool.and_eq_true, List.all_eq_true] at hf
    have := inB_true.1 (hf.2 x hx)
    show _ ∧ _; omega
  have hl64 : xs.length ≤ 64 := by
    unfold fitsL at hf
    rw [Bool.and_eq_true] at hf
    exact of_decide_eq_true hf.1
  have hsz := listS_size hxo
  have hlt : listT xs = listS xs := by unfold listT; rw [if_pos hf]
  have hs : (widT i xs).size ≤ 1048576 := by
    unfold widT
    rw [hlt, ByteArray.size_append, ByteArray.size_append]
    show _ + 1 + _ ≤ _; omega
  obtain ⟨hA, hZ⟩ := widT_cut hi hf
  have hcut : Calls Tryz.prog 57 #[.string (widT i xs), .string ⟨#[32]⟩] w fun e w' => e = .returned (.tuple #[.string (cA (widT i xs)), .string (cZ (widT i xs)), .bool (Lib.cut (widT i xs).data.toList [32]).2.2]) ∧ ∃ n, w' = w.drewN n := Tryz.strings_Cut _ ⟨#[32]⟩ m w (by omega) hm
  rw [hA, hZ] at hcut
  have hr := rlF_list hf
  generalize (Lib.cut (widT i xs).data.toList [32]).2.2 = fnd at *
  generalize widT i xs = s at *
  clear hA hZ hlt
  go_enter Tryz.func40, Tryz.ntmps40
  go_wp2_with fail
  refine hcut.mono ?_
  rintro e w' ⟨rfl, n, rfl⟩
  have hW : Below w.heap.size w (w.drewN n) := below_drewN (Below.refl _ _) _
  generalize hwn : w.drewN n = wn at *
  go_wp2_with fail
  refine (implReadList_any (listS xs) m _ (by omega) (cell_below hW hm) (ht.below hW)).mono ?_
  rintro e w1 ⟨v1, rfl, hn1⟩
  have hn1' := hn1.later hW
  rw [hr] at hn1'
  have hn2 : New fInt.cod w v1 xs w1 := hn1'
  obtain ⟨⟨fpy, hsy, _, _⟩, _⟩ := id hn2
  obtain ⟨A, cap, rfl, _, _⟩ := hsy.form
  rw [hr, show (some xs : Option (List Int)).isSome = true from rfl]
  have hn3 : New fInt.cod w (.slice A k cap) xs w1 := by rw [← hk]; exact hn2
  have e5 : ((xs.length : Int) == (k : Int)) = true := by rw [beq_iff_eq]; omega
  have e6 : ((xs.length : Int) != (k : Int)) = false := by unfold bne; rw [e5]; rfl
  clear hn1 hn1' hsy hr hn2
  go_wp2
  go_ret3
  exact ⟨_, rfl, by first | exact hn3 | (rw [hk]; exact hn3)⟩
end Go.Proofs.YtphljobklilbdaaGreatDoor

namespace Go.Proofs.YtphljobklilbdaaGreatDoor
open Go.RowKit
set_option linter.unusedVariables false

def standT (x : DStand) : ByteArray := widT x.id [x.trees, x.height, x.cover, x.gap]
theorem stand_fits {x : DStand} (h : standB x = true) : fitsL [x.trees, x.height, x.cover, x.gap] = true := by
  have hb := standB_bounds h
  refine fitsL_of (by show 4 ≤ 64; decide) (fun y hy => ?_)
  simp only [List.mem_cons, List.not_mem_nil, or_false] at hy
  omega
set_option maxRecDepth 100000 in
set_option maxHeartbeats 4000000 in
theorem StandText_any (x : DStand) (w : World) (hv : standB x = true) (hok : fStand.ok x) (ht : Tab10 w) :
    Calls Tryz.prog 17 #[.agg #[.string x.id, .int .i64 x.trees, .int .i64 x.height, .int .i64 x.cover, .int .i64 x.gap]] w fun e w' => e = .returned (.string (standT x)) ∧ Below w.heap.size w w' := by
  have hp := PStand.box w x 25
  have hB0 : Below w.heap.size w (w.alloc (.cells #[.string x.id, .int .i64 x.trees, .int .i64 x.height, .int .i64 x.cover, .int .i64 x.gap] 25)) := (Below.refl _ _).alloc (Nat.le_refl _) _
  have hl4 : Hid (∀ y ∈ [x.trees, x.height, x.cover, x.gap], fInt.ok y) := fun y hy => by
    obtain ⟨o0, o1, o2, o3, o4⟩ := hok
    simp only [List.mem_cons, List.not_mem_nil, or_false] at hy
    rcases hy with rfl | rfl | rfl | rfl <;> assumption
  have hid : x.id.size ≤ 10 := nameB_len ((standB_bounds hv).1)
  have HT := Lib.hid (show standT x = x.id ++ ⟨#[32]⟩ ++ listT [x.trees, x.height, x.cover, x.gap] from rfl)
  generalize standT x = R at *
  go_enter Tryz.func17, Tryz.ntmps17
  go_wp2_with fail
  refine (validStand_any x _ hok).mono ?_
  rintro e w1 ⟨rfl, hb1⟩
  rw [hv]
  have hp1 := hp.below' hb1
  have hB1 := hB0.trans (hb1.mono hB0.size)
  have ht1 := ht.below hB1
  obtain ⟨c0, c1, c2, c3, c4⟩ := hp1
  clear hp hb1 hB0 hv hok
  have hBL : Below w1.heap.size w1 (w1.alloc (.cells #[.int .i64 x.trees, .int .i64 x.height, .int .i64 x.cover, .int .i64 x.gap] 2)) := (Below.refl _ _).alloc (Nat.le_refl _) _
  have hsl := Sl.lit2 (E := fInt) w1 [x.trees, x.height, x.cover, x.gap] 2 _ rfl hl4.out (by show 0 < 4; decide) (by show 4 ≤ _; decide)
  have hB2 := hB1.trans (hBL.mono hB1.size)
  have ht2 := ht1.below hBL
  clear hl4
  go_wp2_with fail
  refine (withId_any _ _ [x.trees, x.height, x.cover, x.gap] _ _ hsl (by show 4 ≤ _; decide) (by omega) ht2).mono ?_
  rintro e w2 ⟨rfl, hb2⟩
  go_wp2
  go_ret
  exact ⟨ret_str HT.out.symm, hB2.trans (hb2.mono hB2.size)⟩
set_option maxRecDepth 100000 in
set_option maxHeartbeats 8000000 in
theorem ReadStand_of (x : DStand) (w : World) (hv : standB x = true) (hok : fStand.ok x) (m : Int) (hm : w.cell? ⟨0, 0, none⟩ = some (.int .i64 m)) (ht : RdTabs w) :
    Calls Tryz.prog 16 #[.string (standT x)] w fun e w' => e = .returned (.tuple #[agStand x, .bool true]) ∧ Below w.heap.size w w' := by
  have hnm := (standB_bounds hv).1
  go_enter Tryz.func16, Tryz.ntmps16
  go_wp2_with fail
  refine (readWithId_of x.id [x.trees, x.height, x.cover, x.gap] 4 _ (name_noblank hnm) (by have := nameB_len hnm; omega) (stand_fits hv) rfl m (cell_below ((Below.refl _ _).alloc (Nat.le_refl _) _) hm) (ht.below ((Below.refl _ _).alloc (Nat.le_refl _) _))).mono ?_
  rintro e w1 ⟨v1, rfl, ⟨⟨fpy, hsy, hlo, _⟩, hb1⟩⟩
  have hX1 : BxStand w1 w.heap.size := (BxStand.new w _).belowB hb1 (by simp)
  have hB1 : Below w.heap.size w w1 := ((Below.refl _ _).alloc (Nat.le_refl _) _).trans (hb1.mono (by simp))
  have hg1 : w.heap.size < w1.heap.size := hX1.lt
  clear hb1 hnm
  obtain ⟨A2, cap2, rfl, hle2, _⟩ := hsy.form
  obtain ⟨g2, o2, rfl, _, _, n0, _⟩ := hsy.cell1 rfl (k := 0) (by simp) rfl
  obtain ⟨g3, o3, hA2, _, _, n1, _⟩ := hsy.cell1 rfl (k := 1) (by simp) rfl
  injection hA2 with hA2; injection hA2 with ha1 ha2 _; subst ha1 ha2
  obtain ⟨g3, o3, hA2, _, _, n2, _⟩ := hsy.cell1 rfl (k := 2) (by simp) rfl
  injection hA2 with hA2; injection hA2 with ha1 ha2 _; subst ha1 ha2
  obtain ⟨g3, o3, hA2, _, _, n3, _⟩ := hsy.cell1 rfl (k := 3) (by simp) rfl
  injection hA2 with hA2; injection hA2 with ha1 ha2 _; subst ha1 ha2
  replace n0 : w1.cell? ⟨g2, o2, none⟩ = some (.int .i64 x.trees) := by simpa using n0
  replace n1 : w1.cell? ⟨g2, o2 + 1, none⟩ = some (.int .i64 x.height) := n1
  replace n2 : w1.cell? ⟨g2, o2 + 2, none⟩ = some (.int .i64 x.cover) := n2
  replace n3 : w1.cell? ⟨g2, o2 + 3, none⟩ = some (.int .i64 x.gap) := n3
  have e3 : (([x.trees, x.height, x.cover, x.gap] : List Int).length : Int) = 4 := rfl
  have e3' : ([x.trees, x.height, x.cover, x.gap] : List Int).length = 4 := rfl
  clear hsy hlo
  go_wp2
  have gn0 := cell_regrown n0
  have gn1 := cell_regrown n1
  have gn2 := cell_regrown n2
  have gn3 := cell_regrown n3
  refine wp_region_mix (C := fun w' => ∃ p : Regrown, w' = Go.Sort.grow (redrawn w1 p.d) p.os) [true, true, true, true, true, true, true, true, true, true, true, true, true, true, false, false] (by kernel_rfl) (by kernel_rfl) (by kernel_rfl) (fun _ _ d _ _ h => by cases d <;> exact h) (regrown_of_below (Below.drew (Below.refl _ _))) ?_
  have hS0 : Below (w1.heap.size) w1 w1.drew := Below.drew (Below.refl _ _)
  refine wpMix_pure (by kernel_rfl) (fun K hK => ?_); go_big_quiet_op; refine hK _ ?_; clear hK K
  refine wpMix_pure (by kernel_rfl) (fun K hK => ?_); go_big_quiet_op; refine hK _ ?_; clear hK K
  refine wpMix_pure (by kernel_rfl) (fun K hK => ?_); go_big_quiet_op; refine hK _ ?_; clear hK K
  refine wpMix_pure (by kernel_rfl) (fun K hK => ?_); go_big_quiet_op; refine hK _ ?_; clear hK K
  refine wpMix_pure (by kernel_rfl) (fun K hK => ?_); go_big_quiet_op; refine hK _ ?_; clear hK K
  refine wpMix_pure (by kernel_rfl) (fun K hK => ?_); go_big_quiet_op; refine hK _ ?_; clear hK K
  refine wpMix_pure (by kernel_rfl) (fun K hK => ?_); go_big_quiet_op; refine hK _ ?_; clear hK K
  refine wpMix_pure (by kernel_rfl) (fun K hK => ?_); go_big_quiet_op; refine hK _ ?_; clear hK K
  refine wpMix_pure (by kernel_rfl) (fun K hK => ?_); go_big_quiet_op; refine hK _ ?_; clear hK K
  refine wpMix_pure (by kernel_rfl) (fun K hK => ?_); go_big_quiet_op; refine hK _ ?_; clear hK K
  refine wpMix_pure (by kernel_rfl) (fun K hK => ?_); go_big_quiet_op; refine hK _ ?_; clear hK K
  refine wpMix_pure (by kernel_rfl) (fun K hK => ?_); go_big_quiet_op; refine hK _ ?_; clear hK K
  refine wpMix_pure (by kernel_rfl) (fun K hK => ?_); go_big_quiet_op; refine hK _ ?_; clear hK K
  refine wpMix_pure (by kernel_rfl) (fun K hK => ?_); go_big_quiet_op; refine hK _ ?_; clear hK K
  refine wpMix_act (by kernel_rfl) (fun K hK => ?_)
  go_big_op
  refine hK _ _ (regrown_of_below (by first | exact hS0.alloc hS0.size _ | exact Below.drew ((Below.refl _ _).alloc (Nat.le_refl _) _) | exact (Below.drew (Below.refl _ _)).alloc (Nat.le_refl _) _ | exact Below.drew (((Below.refl _ _).alloc (Nat.le_refl _) _).alloc (by simp) _))) ?_
  clear hK K
  refine wpMix_act (by kernel_rfl) (fun K hK => ?_)
  go_big_op
  refine hK _ _ (regrown_of_below (by first | exact hS0.alloc hS0.size _ | exact Below.drew ((Below.refl _ _).alloc (Nat.le_refl _) _) | exact (Below.drew (Below.refl _ _)).alloc (Nat.le_refl _) _ | exact Below.drew (((Below.refl _ _).alloc (Nat.le_refl _) _).alloc (by simp) _))) ?_
  clear hK K
  refine wpMix_nil ?_
  have hBx : Below w1.heap.size w1 (w1.alloc (.cells #[.string x.id, .int .i64 x.trees, .int .i64 x.height, .int .i64 x.cover, .int .i64 x.gap] 25)).drew := Below.drew ((Below.refl _ _).alloc (Nat.le_refl _) _)
  have hBV := hB1.trans (hBx.mono hB1.size)
  have hXV := hX1.belowB hBx hg1
  have hpx : PStand (w1.alloc (.cells #[.string x.id, .int .i64 x.trees, .int .i64 x.height, .int .i64 x.cover, .int .i64 x.gap] 25)).drew w1.heap.size 0 x := (PStand.box w1 x _).below' (Below.drew (Below.refl _ _))
  clear hX1 n0 gn0 n1 gn1 n2 gn2 n3 gn3 hBx hS0
  generalize (w1.alloc (.cells #[.string x.id, .int .i64 x.trees, .int .i64 x.height, .int .i64 x.cover, .int .i64 x.gap] 25)).drew = V at *
  generalize w1.heap.size = b at *
  obtain ⟨x0, x1, x2, x3, x4⟩ := id hpx
  go_wp2_with fail
  refine (StandText_any x _ hv hok (ht.below hBV).tab).mono ?_
  rintro e U ⟨rfl, hbU⟩
  have hBU := hBV.trans (hbU.mono hBV.size)
  have hXU := hXV.belowB hbU hXV.lt
  have hpU := hpx.below' hbU
  have hXlt := hXV.lt
  clear hXV hpx x0 x1 x2 x3 x4
  obtain ⟨d0, d1, d2, d3, d4, z0, z1, z2, z3, z4⟩ := hXU
  obtain ⟨x0, x1, x2, x3, x4⟩ := hpU
  have e9 : ((standT x).toList == (standT x).toList) = true := beq_self_eq_true _
  have e10 : ((standT x).toList != (standT x).toList) = false := by unfold bne; rw [e9]; rfl
  generalize standT x = s at *
  have hrr := Nat.le_refl w.heap.size
  go_wp2
  exact bodyPost_ret (v := .tuple #[agStand x, .bool true]) (by simp [agStand, results, hit_cellX, d0, d1, d2, d3, d4, Tryz.results16, go_sem]) rfl ⟨rfl, by (repeat (refine Below.setCell ?_ hrr _)); exact hBU⟩

end Go.Proofs.YtphljobklilbdaaGreatDoor

namespace Go.Proofs.YtphljobklilbdaaGreatDoor
open Go.RowKit
set_option linter.unusedVariables false

/-! ### strings in a list -/
def memS (s : ByteArray) (xs : List ByteArray) : Bool := xs.any fun x => decide (x = s)
def NotS (xs : List ByteArray) (s : ByteArray) (k : Nat) : Prop := ∀ j (hj : j < k) (h : j < xs.length), xs[j] ≠ s
theorem NotS.zero {xs : List ByteArray} {s : ByteArray} : NotS xs s 0 := fun j hj => absurd hj (Nat.not_lt_zero _)
theorem NotS.step {xs : List ByteArray} {s : ByteArray} {k : Nat} (h : k < xs.length) (he : xs[k] ≠ s) (h0 : NotS xs s k) : NotS xs s (k + 1) := by
  intro j hj hl
  by_cases e : j = k
  · subst e; exact he
  · exact h0 j (by omega) hl
theorem NotS.none {xs : List ByteArray} {s : ByteArray} {k : Nat} (h : xs.length ≤ k) (h0 : NotS xs s k) : memS s xs = false := by
  unfold memS
  rw [List.any_eq_false]
  intro x hm
  obtain ⟨j, hj, e⟩ := List.getElem_of_mem hm
  have := h0 j (by omega) hj
  rw [e] at this
  simpa using this
theorem inS {xs : List ByteArray} {s : ByteArray} {k : Nat} (h : k < xs.length) (he : xs[k] = s) : memS s xs = true := by
  unfold memS
  rw [List.any_eq_true]
  exact ⟨xs[k], List.getElem_mem h, by simpa using he⟩
theorem memS_true {xs : List ByteArray} {s : ByteArray} : memS s xs = true ↔ s ∈ xs := by
  unfold memS; rw [List.any_eq_true]
  constructor
  · rintro ⟨x, hx, he⟩
    have he := of_decide_eq_true he
    subst he; exact hx
  · intro h; exact ⟨s, h, decide_eq_true rfl⟩
def memI (n : Int) (xs : List Int) : Bool := xs.any fun x => decide (x = n)
def NotI (xs : List Int) (n : Int) (k : Nat) : Prop := ∀ j (hj : j < k) (h : j < xs.length), xs[j] ≠ n
theorem NotI.zero {xs : List Int} {n : Int} : NotI xs n 0 := fun j hj => absurd hj (Nat.not_lt_zero _)
theorem NotI.step {xs : List Int} {n : Int} {k : Nat} (h : k < xs.length) (he : xs[k] ≠ n) (h0 : NotI xs n k) : NotI xs n (k + 1) := by
  intro j hj hl
  by_cases e : j = k
  · subst e; exact he
  · exact h0 j (by omega) hl
theorem NotI.none {xs : List Int} {n : Int} {k : Nat} (h : xs.length ≤ k) (h0 : NotI xs n k) : memI n xs = false := by
  unfold memI
  rw [List.any_eq_false]
  intro x hm
  obtain ⟨j, hj, e⟩ := List.getElem_of_mem hm
  have := h0 j (by omega) hj
  rw [e] at this
  simpa using this
theorem inI {xs : List Int} {n : Int} {k : Nat} (h : k < xs.length) (he : xs[k] = n) : memI n xs = true := by
  unfold memI
  rw [List.any_eq_true]
  exact ⟨xs[k], List.getElem_mem h, by simpa using he⟩
theorem memI_true {xs : List Int} {n : Int} : memI n xs = true ↔ n ∈ xs := by
  unfold memI; rw [List.any_eq_true]
  constructor
  · rintro ⟨x, hx, he⟩
    have he := of_decide_eq_true he
    subst he; exact hx
  · intro h; exact ⟨n, h, decide_eq_true rfl⟩
end Go.Proofs.YtphljobklilbdaaGreatDoor

namespace Go.Proofs.YtphljobklilbdaaGreatDoor
open Go.RowKit
set_option linter.unusedVariables false

set_option maxRecDepth 100000 in
set_option maxHeartbeats 400000 in
theorem b10Long_any (v : Value) (xs : List UInt8) (fp : List Nat) (w : World) (hx : Sl fByte.cod w v xs fp) :
    Calls Tryz.prog 4 #[v] w fun e w' => e = .returned (.bool (decide (1048576 < xs.length))) ∧ w = w' := by
  obtain ⟨A, cap, rfl, hlen, hcap⟩ := hx.form
  go_enter Tryz.func4, Tryz.ntmps4
  go_wp2
  go_ret
  refine ⟨?_, rfl⟩
  show Ending.returned (.bool _) = _
  congr 2
  rw [Bool.eq_iff_iff]
  simp <;> omega
/-- The number at index i lies in 0 .. n-1, and is greater than the one before it. -/
def riseAt (xs : List Int) (n : Int) (i : Nat) : Bool := inB (xs.getD i 0) 0 (n - 1) && (i == 0 || decide (xs.getD (i - 1) 0 < xs.getD i 0))
def risesB (xs : List Int) (n : Int) : Bool := allIdx (riseAt xs n) xs.length
theorem riseAt_in {xs : List Int} {n : Int} {k : Nat} (h : k < xs.length) : riseAt xs n k = (inB xs[k] 0 (n - 1) && (k == 0 || decide (xs.getD (k - 1) 0 < xs[k]))) := by
  unfold riseAt; rw [getD_of_lt h]
theorem riseAt_neg {xs : List Int} {n : Int} {k : Nat} (h : k < xs.length) (h1 : xs[k] < 0) : riseAt xs n k = false := by
  rw [riseAt_in h]; unfold inB; rw [decide_eq_false (by omega)]; rfl
theorem riseAt_far {xs : List Int} {n : Int} {k : Nat} (h : k < xs.length) (h1 : n ≤ xs[k]) : riseAt xs n k = false := by
  rw [riseAt_in h]; unfold inB; rw [decide_eq_false (by omega : ¬ xs[k] ≤ n - 1)]; simp
theorem riseAt_low {xs : List Int} {n : Int} {m : Nat} (h : m + 1 < xs.length) (h1 : xs[m + 1] ≤ xs[m]) : riseAt xs n (m + 1) = false := by
  rw [riseAt_in h, show m + 1 - 1 = m from rfl, getD_of_lt (by omega : m < xs.length), decide_eq_false (by omega)]
  simp
theorem riseAt_zero {xs : List Int} {n : Int} (h : 0 < xs.length) (h0 : (0 : Int) ≤ xs[0]) (h1 : xs[0] < n) : riseAt xs n 0 = true := by
  rw [riseAt_in h]; unfold inB; rw [decide_eq_true h0, decide_eq_true (by omega)]; rfl
theorem riseAt_ok {xs : List Int} {n : Int} {m : Nat} (h : m + 1 < xs.length) (h0 : (0 : Int) ≤ xs[m + 1]) (h1 : xs[m + 1] < n) (h2 : xs[m] < xs[m + 1]) : riseAt xs n (m + 1) = true := by
  rw [riseAt_in h, show m + 1 - 1 = m from rfl, getD_of_lt (by omega : m < xs.length), decide_eq_true h2]
  unfold inB; rw [decide_eq_true h0, decide_eq_true (by omega)]; simp
set_option maxRecDepth 100000 in
set_option maxHeartbeats 2000000 in
theorem b10Rises_any (v : Value) (xs : List Int) (fp : List Nat) (n : Int) (w : World) (hx : Sl fInt.cod w v xs fp) :
    Calls Tryz.prog 11 #[v, .int .i64 n] w fun e w' => e = .returned (.bool (risesB xs n)) ∧ Below w.heap.size w w' := by
  obtain ⟨A, cap, rfl, hlen, hcap⟩ := hx.form
  go_enter Tryz.func11, Tryz.ntmps11
  go_wp2
  go_loopw [5] (fun i wr => ∃ k : Nat, k ≤ xs.length ∧ i = .int .i64 k ∧ Hid (allIdx (riseAt xs n) k = true) ∧ Below w.heap.size w wr) (fun i _ => xs.length - (intOf i).toNat)
  case atStart => exact ⟨0, Nat.zero_le _, rfl, rfl, Below.refl _ _⟩
  case round =>
    obtain ⟨k, hk, rfl, H0, hb⟩ := hrel
    by_cases hlt : k < xs.length
    · have hxk := hx.below' hb
      obtain ⟨b, off, rfl, _, hok, hc, _⟩ := hxk.cell1 rfl hlt rfl
      rcases Nat.eq_zero_or_pos k with rfl | hpos
      · have hc0 : wr.cell? ⟨b, off, none⟩ = some (.int .i64 xs[0]) := by simpa using hc
        go_wp2
        have ghc0 := cell_regrown hc0
        refine wp_region_mix (C := fun w' => ∃ p : Regrown, w' = Go.Sort.grow (redrawn wr p.d) p.os) [true, true, true, true, true, true, true, true, true, true, true, true, true, true, true, true, true, true, true, true, true, true, true, true, true, true, true, true, true] (by kernel_rfl) (by kernel_rfl) (by kernel_rfl) (fun _ _ d _ _ h => by cases d <;> exact h) (regrown_of_below (Below.drew (Below.refl _ _))) ?_
        have hS0 : Below (wr.heap.size) wr wr.drew := Below.drew (Below.refl _ _)
        refine wpMix_pure (by kernel_rfl) (fun K hK => ?_); go_big_quiet_op; refine hK _ ?_; clear hK K
        refine wpMix_pure (by kernel_rfl) (fun K hK => ?_); go_big_quiet_op; refine hK _ ?_; clear hK K
        refine wpMix_pure (by kernel_rfl) (fun K hK => ?_); go_big_quiet_op; refine hK _ ?_; clear hK K
        refine wpMix_pure (by kernel_rfl) (fun K hK => ?_); go_big_quiet_op; refine hK _ ?_; clear hK K
        by_cases hq4 : xs[0] < 0
        · skip
          refine wpMix_pure (by kernel_rfl) (fun K hK => ?_); go_big_quiet_op; refine hK _ ?_; clear hK K
          refine wpMix_pure (by kernel_rfl) (fun K hK => ?_); go_big_quiet_op; refine hK _ ?_; clear hK K
          refine wpMix_skip (by kernel_rfl) (fun K hK => ?_)
          simp only [Act.put, List.setIfInBounds_toArray, List.set_cons_zero, List.set_cons_succ]
          refine hK _ ?_; clear hK K
          refine wpMix_skip (by kernel_rfl) (fun K hK => ?_)
          simp only [Act.put, List.setIfInBounds_toArray, List.set_cons_zero, List.set_cons_succ]
          refine hK _ ?_; clear hK K
          refine wpMix_skip (by kernel_rfl) (fun K hK => ?_)
          simp only [Act.put, List.setIfInBounds_toArray, List.set_cons_zero, List.set_cons_succ]
          refine hK _ ?_; clear hK K
          refine wpMix_skip (by kernel_rfl) (fun K hK => ?_)
          simp only [Act.put, List.setIfInBounds_toArray, List.set_cons_zero, List.set_cons_succ]
          refine hK _ ?_; clear hK K
          refine wpMix_skip (by kernel_rfl) (fun K hK => ?_)
          simp only [Act.put, List.setIfInBounds_toArray, List.set_cons_zero, List.set_cons_succ]
          refine hK _ ?_; clear hK K
          refine wpMix_skip (by kernel_rfl) (fun K hK => ?_)
          simp only [Act.put, List.setIfInBounds_toArray, List.set_cons_zero, List.set_cons_succ]
          refine hK _ ?_; clear hK K
          refine wpMix_pure (by kernel_rfl) (fun K hK => ?_); go_big_quiet_op; refine hK _ ?_; clear hK K
          refine wpMix_pure (by kernel_rfl) (fun K hK => ?_); go_big_quiet_op; refine hK _ ?_; clear hK K
          refine wpMix_skip (by kernel_rfl) (fun K hK => ?_)
          simp only [Act.put, List.setIfInBounds_toArray, List.set_cons_zero, List.set_cons_succ]
          refine hK _ ?_; clear hK K
          refine wpMix_skip (by kernel_rfl) (fun K hK => ?_)
          simp only [Act.put, List.setIfInBounds_toArray, List.set_cons_zero, List.set_cons_succ]
          refine hK _ ?_; clear hK K
          refine wpMix_skip (by kernel_rfl) (fun K hK => ?_)
          simp only [Act.put, List.setIfInBounds_toArray, List.set_cons_zero, List.set_cons_succ]
          refine hK _ ?_; clear hK K
          refine wpMix_skip (by kernel_rfl) (fun K hK => ?_)
          simp only [Act.put, List.setIfInBounds_toArray, List.set_cons_zero, List.set_cons_succ]
          refine hK _ ?_; clear hK K
          refine wpMix_skip (by kernel_rfl) (fun K hK => ?_)
          simp only [Act.put, List.setIfInBounds_toArray, List.set_cons_zero, List.set_cons_succ]
          refine hK _ ?_; clear hK K
          refine wpMix_skip (by kernel_rfl) (fun K hK => ?_)
          simp only [Act.put, List.setIfInBounds_toArray, List.set_cons_zero, List.set_cons_succ]
          refine hK _ ?_; clear hK K
          refine wpMix_skip (by kernel_rfl) (fun K hK => ?_)
          simp only [Act.put, List.setIfInBounds_toArray, List.set_cons_zero, List.set_cons_succ]
          refine hK _ ?_; clear hK K
          refine wpMix_skip (by kernel_rfl) (fun K hK => ?_)
          simp only [Act.put, List.setIfInBounds_toArray, List.set_cons_zero, List.set_cons_succ]
          refine hK _ ?_; clear hK K
          refine wpMix_skip (by kernel_rfl) (fun K hK => ?_)
          simp only [Act.put, List.setIfInBounds_toArray, List.set_cons_zero, List.set_cons_succ]
          refine hK _ ?_; clear hK K
          refine wpMix_skip (by kernel_rfl) (fun K hK => ?_)
          simp only [Act.put, List.setIfInBounds_toArray, List.set_cons_zero, List.set_cons_succ]
          refine hK _ ?_; clear hK K
          refine wpMix_skip (by kernel_rfl) (fun K hK => ?_)
          simp only [Act.put, List.setIfInBounds_toArray, List.set_cons_zero, List.set_cons_succ]
          refine hK _ ?_; clear hK K
          refine wpMix_skip (by kernel_rfl) (fun K hK => ?_)
          simp only [Act.put, List.setIfInBounds_toArray, List.set_cons_zero, List.set_cons_succ]
          refine hK _ ?_; clear hK K
          refine wpMix_skip (by kernel_rfl) (fun K hK => ?_)
          simp only [Act.put, List.setIfInBounds_toArray, List.set_cons_zero, List.set_cons_succ]
          refine hK _ ?_; clear hK K
          refine wpMix_skip (by kernel_rfl) (fun K hK => ?_)
          simp only [Act.put, List.setIfInBounds_toArray, List.set_cons_zero, List.set_cons_succ]
          refine hK _ ?_; clear hK K
          refine wpMix_pure (by kernel_rfl) (fun K hK => ?_); go_big_quiet_op; refine hK _ ?_; clear hK K
          refine wpMix_nil ?_
          have HF := Lib.hid (allIdx_bad hlt (riseAt_neg (n := n) hlt hq4))
          go_wp2
          go_ret
          exact ⟨ret_bool HF.out.symm, hb.trans (hS0.mono hb.size)⟩
        · skip
          refine wpMix_pure (by kernel_rfl) (fun K hK => ?_); go_big_quiet_op; refine hK _ ?_; clear hK K
          refine wpMix_pure (by kernel_rfl) (fun K hK => ?_); go_big_quiet_op; refine hK _ ?_; clear hK K
          refine wpMix_pure (by kernel_rfl) (fun K hK => ?_); go_big_quiet_op; refine hK _ ?_; clear hK K
          refine wpMix_pure (by kernel_rfl) (fun K hK => ?_); go_big_quiet_op; refine hK _ ?_; clear hK K
          refine wpMix_pure (by kernel_rfl) (fun K hK => ?_); go_big_quiet_op; refine hK _ ?_; clear hK K
          refine wpMix_pure (by kernel_rfl) (fun K hK => ?_); go_big_quiet_op; refine hK _ ?_; clear hK K
          refine wpMix_pure (by kernel_rfl) (fun K hK => ?_); go_big_quiet_op; refine hK _ ?_; clear hK K
          by_cases hq11 : n ≤ xs[0]
          · skip
            refine wpMix_pure (by kernel_rfl) (fun K hK => ?_); go_big_quiet_op; refine hK _ ?_; clear hK K
            refine wpMix_pure (by kernel_rfl) (fun K hK => ?_); go_big_quiet_op; refine hK _ ?_; clear hK K
            refine wpMix_pure (by kernel_rfl) (fun K hK => ?_); go_big_quiet_op; refine hK _ ?_; clear hK K
            refine wpMix_skip (by kernel_rfl) (fun K hK => ?_)
            simp only [Act.put, List.setIfInBounds_toArray, List.set_cons_zero, List.set_cons_succ]
            refine hK _ ?_; clear hK K
            refine wpMix_skip (by kernel_rfl) (fun K hK => ?_)
            simp only [Act.put, List.setIfInBounds_toArray, List.set_cons_zero, List.set_cons_succ]
            refine hK _ ?_; clear hK K
            refine wpMix_skip (by kernel_rfl) (fun K hK => ?_)
            simp only [Act.put, List.setIfInBounds_toArray, List.set_cons_zero, List.set_cons_succ]
            refine hK _ ?_; clear hK K
            refine wpMix_skip (by kernel_rfl) (fun K hK => ?_)
            simp only [Act.put, List.setIfInBounds_toArray, List.set_cons_zero, List.set_cons_succ]
            refine hK _ ?_; clear hK K
            refine wpMix_skip (by kernel_rfl) (fun K hK => ?_)
            simp only [Act.put, List.setIfInBounds_toArray, List.set_cons_zero, List.set_cons_succ]
            refine hK _ ?_; clear hK K
            refine wpMix_skip (by kernel_rfl) (fun K hK => ?_)
            simp only [Act.put, List.setIfInBounds_toArray, List.set_cons_zero, List.set_cons_succ]
            refine hK _ ?_; clear hK K
            refine wpMix_skip (by kernel_rfl) (fun K hK => ?_)
            simp only [Act.put, List.setIfInBounds_toArray, List.set_cons_zero, List.set_cons_succ]
            refine hK _ ?_; clear hK K
            refine wpMix_skip (by kernel_rfl) (fun K hK => ?_)
            simp only [Act.put, List.setIfInBounds_toArray, List.set_cons_zero, List.set_cons_succ]
            refine hK _ ?_; clear hK K
            refine wpMix_skip (by kernel_rfl) (fun K hK => ?_)
            simp only [Act.put, List.setIfInBounds_toArray, List.set_cons_zero, List.set_cons_succ]
            refine hK _ ?_; clear hK K
            refine wpMix_skip (by kernel_rfl) (fun K hK => ?_)
            simp only [Act.put, List.setIfInBounds_toArray, List.set_cons_zero, List.set_cons_succ]
            refine hK _ ?_; clear hK K
            refine wpMix_skip (by kernel_rfl) (fun K hK => ?_)
            simp only [Act.put, List.setIfInBounds_toArray, List.set_cons_zero, List.set_cons_succ]
            refine hK _ ?_; clear hK K
            refine wpMix_skip (by kernel_rfl) (fun K hK => ?_)
            simp only [Act.put, List.setIfInBounds_toArray, List.set_cons_zero, List.set_cons_succ]
            refine hK _ ?_; clear hK K
            refine wpMix_skip (by kernel_rfl) (fun K hK => ?_)
            simp only [Act.put, List.setIfInBounds_toArray, List.set_cons_zero, List.set_cons_succ]
            refine hK _ ?_; clear hK K
            refine wpMix_skip (by kernel_rfl) (fun K hK => ?_)
            simp only [Act.put, List.setIfInBounds_toArray, List.set_cons_zero, List.set_cons_succ]
            refine hK _ ?_; clear hK K
            refine wpMix_pure (by kernel_rfl) (fun K hK => ?_); go_big_quiet_op; refine hK _ ?_; clear hK K
            refine wpMix_nil ?_
            have HF := Lib.hid (allIdx_bad hlt (riseAt_far (n := n) hlt hq11))
            go_wp2
            go_ret
            exact ⟨ret_bool HF.out.symm, hb.trans (hS0.mono hb.size)⟩
          · skip
            refine wpMix_pure (by kernel_rfl) (fun K hK => ?_); go_big_quiet_op; refine hK _ ?_; clear hK K
            refine wpMix_pure (by kernel_rfl) (fun K hK => ?_); go_big_quiet_op; refine hK _ ?_; clear hK K
            refine wpMix_pure (by kernel_rfl) (fun K hK => ?_); go_big_quiet_op; refine hK _ ?_; clear hK K
            refine wpMix_pure (by kernel_rfl) (fun K hK => ?_); go_big_quiet_op; refine hK _ ?_; clear hK K
            refine wpMix_pure (by kernel_rfl) (fun K hK => ?_); go_big_quiet_op; refine hK _ ?_; clear hK K
            refine wpMix_pure (by kernel_rfl) (fun K hK => ?_); go_big_quiet_op; refine hK _ ?_; clear hK K
            refine wpMix_skip (by kernel_rfl) (fun K hK => ?_)
            simp only [Act.put, List.setIfInBounds_toArray, List.set_cons_zero, List.set_cons_succ]
            refine hK _ ?_; clear hK K
            refine wpMix_skip (by kernel_rfl) (fun K hK => ?_)
            simp only [Act.put, List.setIfInBounds_toArray, List.set_cons_zero, List.set_cons_succ]
            refine hK _ ?_; clear hK K
            refine wpMix_skip (by kernel_rfl) (fun K hK => ?_)
            simp only [Act.put, List.setIfInBounds_toArray, List.set_cons_zero, List.set_cons_succ]
            refine hK _ ?_; clear hK K
            refine wpMix_skip (by kernel_rfl) (fun K hK => ?_)
            simp only [Act.put, List.setIfInBounds_toArray, List.set_cons_zero, List.set_cons_succ]
            refine hK _ ?_; clear hK K
            refine wpMix_skip (by kernel_rfl) (fun K hK => ?_)
            simp only [Act.put, List.setIfInBounds_toArray, List.set_cons_zero, List.set_cons_succ]
            refine hK _ ?_; clear hK K
            refine wpMix_skip (by kernel_rfl) (fun K hK => ?_)
            simp only [Act.put, List.setIfInBounds_toArray, List.set_cons_zero, List.set_cons_succ]
            refine hK _ ?_; clear hK K
            refine wpMix_skip (by kernel_rfl) (fun K hK => ?_)
            simp only [Act.put, List.setIfInBounds_toArray, List.set_cons_zero, List.set_cons_succ]
            refine hK _ ?_; clear hK K
            refine wpMix_skip (by kernel_rfl) (fun K hK => ?_)
            simp only [Act.put, List.setIfInBounds_toArray, List.set_cons_zero, List.set_cons_succ]
            refine hK _ ?_; clear hK K
            refine wpMix_skip (by kernel_rfl) (fun K hK => ?_)
            simp only [Act.put, List.setIfInBounds_toArray, List.set_cons_zero, List.set_cons_succ]
            refine hK _ ?_; clear hK K
            refine wpMix_skip (by kernel_rfl) (fun K hK => ?_)
            simp only [Act.put, List.setIfInBounds_toArray, List.set_cons_zero, List.set_cons_succ]
            refine hK _ ?_; clear hK K
            refine wpMix_pure (by kernel_rfl) (fun K hK => ?_); go_big_quiet_op; refine hK _ ?_; clear hK K
            refine wpMix_pure (by kernel_rfl) (fun K hK => ?_); go_big_quiet_op; refine hK _ ?_; clear hK K
            refine wpMix_nil ?_
            have HS := Lib.hid (allIdx_step H0.out (riseAt_zero hlt (by omega) (by omega)))
            go_wp2
            go_roundw
            case rel => exact ⟨0 + 1, by omega, by go_num, HS, hb.trans (hS0.mono hb.size)⟩
            case measure => simp [intOf]; omega
      · obtain ⟨m, rfl⟩ : ∃ m, k = m + 1 := ⟨k - 1, by omega⟩
        obtain ⟨b1, off1, hA1, _, hokm, hcm, _⟩ := hxk.cell1 rfl (by omega : m < xs.length) rfl
        injection hA1 with hA1
        injection hA1 with hA1 hA2 _
        subst hA1 hA2
        go_wp2
        have ghc := cell_regrown hc
        have ghcm := cell_regrown hcm
        refine wp_region_mix (C := fun w' => ∃ p : Regrown, w' = Go.Sort.grow (redrawn wr p.d) p.os) [true, true, true, true, true, true, true, true, true, true, true, true, true, true, true, true, true, true, true, true, true, true, true, true, true, true, true, true, true] (by kernel_rfl) (by kernel_rfl) (by kernel_rfl) (fun _ _ d _ _ h => by cases d <;> exact h) (regrown_of_below (Below.drew (Below.refl _ _))) ?_
        have hS0 : Below (wr.heap.size) wr wr.drew := Below.drew (Below.refl _ _)
        refine wpMix_pure (by kernel_rfl) (fun K hK => ?_); go_big_quiet_op; refine hK _ ?_; clear hK K
        refine wpMix_pure (by kernel_rfl) (fun K hK => ?_); go_big_quiet_op; refine hK _ ?_; clear hK K
        refine wpMix_pure (by kernel_rfl) (fun K hK => ?_); go_big_quiet_op; refine hK _ ?_; clear hK K
        refine wpMix_pure (by kernel_rfl) (fun K hK => ?_); go_big_quiet_op; refine hK _ ?_; clear hK K
        by_cases hq4 : xs[m + 1] < 0
        · skip
          refine wpMix_pure (by kernel_rfl) (fun K hK => ?_); go_big_quiet_op; refine hK _ ?_; clear hK K
          refine wpMix_pure (by kernel_rfl) (fun K hK => ?_); go_big_quiet_op; refine hK _ ?_; clear hK K
          refine wpMix_skip (by kernel_rfl) (fun K hK => ?_)
          simp only [Act.put, List.setIfInBounds_toArray, List.set_cons_zero, List.set_cons_succ]
          refine hK _ ?_; clear hK K
          refine wpMix_skip (by kernel_rfl) (fun K hK => ?_)
          simp only [Act.put, List.setIfInBounds_toArray, List.set_cons_zero, List.set_cons_succ]
          refine hK _ ?_; clear hK K
          refine wpMix_skip (by kernel_rfl) (fun K hK => ?_)
          simp only [Act.put, List.setIfInBounds_toArray, List.set_cons_zero, List.set_cons_succ]
          refine hK _ ?_; clear hK K
          refine wpMix_skip (by kernel_rfl) (fun K hK => ?_)
          simp only [Act.put, List.setIfInBounds_toArray, List.set_cons_zero, List.set_cons_succ]
          refine hK _ ?_; clear hK K
          refine wpMix_skip (by kernel_rfl) (fun K hK => ?_)
          simp only [Act.put, List.setIfInBounds_toArray, List.set_cons_zero, List.set_cons_succ]
          refine hK _ ?_; clear hK K
          refine wpMix_skip (by kernel_rfl) (fun K hK => ?_)
          simp only [Act.put, List.setIfInBounds_toArray, List.set_cons_zero, List.set_cons_succ]
          refine hK _ ?_; clear hK K
          refine wpMix_pure (by kernel_rfl) (fun K hK => ?_); go_big_quiet_op; refine hK _ ?_; clear hK K
          refine wpMix_pure (by kernel_rfl) (fun K hK => ?_); go_big_quiet_op; refine hK _ ?_; clear hK K
          refine wpMix_skip (by kernel_rfl) (fun K hK => ?_)
          simp only [Act.put, List.setIfInBounds_toArray, List.set_cons_zero, List.set_cons_succ]
          refine hK _ ?_; clear hK K
          refine wpMix_skip (by kernel_rfl) (fun K hK => ?_)
          simp only [Act.put, List.setIfInBounds_toArray, List.set_cons_zero, List.set_cons_succ]
          refine hK _ ?_; clear hK K
          refine wpMix_skip (by kernel_rfl) (fun K hK => ?_)
          simp only [Act.put, List.setIfInBounds_toArray, List.set_cons_zero, List.set_cons_succ]
          refine hK _ ?_; clear hK K
          refine wpMix_skip (by kernel_rfl) (fun K hK => ?_)
          simp only [Act.put, List.setIfInBounds_toArray, List.set_cons_zero, List.set_cons_succ]
          refine hK _ ?_; clear hK K
          refine wpMix_skip (by kernel_rfl) (fun K hK => ?_)
          simp only [Act.put, List.setIfInBounds_toArray, List.set_cons_zero, List.set_cons_succ]
          refine hK _ ?_; clear hK K
          refine wpMix_skip (by kernel_rfl) (fun K hK => ?_)
          simp only [Act.put, List.setIfInBounds_toArray, List.set_cons_zero, List.set_cons_succ]
          refine hK _ ?_; clear hK K
          refine wpMix_skip (by kernel_rfl) (fun K hK => ?_)
          simp only [Act.put, List.setIfInBounds_toArray, List.set_cons_zero, List.set_cons_succ]
          refine hK _ ?_; clear hK K
          refine wpMix_skip (by kernel_rfl) (fun K hK => ?_)
          simp only [Act.put, List.setIfInBounds_toArray, List.set_cons_zero, List.set_cons_succ]
          refine hK _ ?_; clear hK K
          refine wpMix_skip (by kernel_rfl) (fun K hK => ?_)
          simp only [Act.put, List.setIfInBounds_toArray, List.set_cons_zero, List.set_cons_succ]
          refine hK _ ?_; clear hK K
          refine wpMix_skip (by kernel_rfl) (fun K hK => ?_)
          simp only [Act.put, List.setIfInBounds_toArray, List.set_cons_zero, List.set_cons_succ]
          refine hK _ ?_; clear hK K
          refine wpMix_skip (by kernel_rfl) (fun K hK => ?_)
          simp only [Act.put, List.setIfInBounds_toArray, List.set_cons_zero, List.set_cons_succ]
          refine hK _ ?_; clear hK K
          refine wpMix_skip (by kernel_rfl) (fun K hK => ?_)
          simp only [Act.put, List.setIfInBounds_toArray, List.set_cons_zero, List.set_cons_succ]
          refine hK _ ?_; clear hK K
          refine wpMix_skip (by kernel_rfl) (fun K hK => ?_)
          simp only [Act.put, List.setIfInBounds_toArray, List.set_cons_zero, List.set_cons_succ]
          refine hK _ ?_; clear hK K
          refine wpMix_skip (by kernel_rfl) (fun K hK => ?_)
          simp only [Act.put, List.setIfInBounds_toArray, List.set_cons_zero, List.set_cons_succ]
          refine hK _ ?_; clear hK K
          refine wpMix_pure (by kernel_rfl) (fun K hK => ?_); go_big_quiet_op; refine hK _ ?_; clear hK K
          refine wpMix_nil ?_
          have HF := Lib.hid (allIdx_bad hlt (riseAt_neg (n := n) hlt hq4))
          go_wp2
          go_ret
          exact ⟨ret_bool HF.out.symm, hb.trans (hS0.mono hb.size)⟩
        · skip
          refine wpMix_pure (by kernel_rfl) (fun K hK => ?_); go_big_quiet_op; refine hK _ ?_; clear hK K
          refine wpMix_pure (by kernel_rfl) (fun K hK => ?_); go_big_quiet_op; refine hK _ ?_; clear hK K
          refine wpMix_pure (by kernel_rfl) (fun K hK => ?_); go_big_quiet_op; refine hK _ ?_; clear hK K
          refine wpMix_pure (by kernel_rfl) (fun K hK => ?_); go_big_quiet_op; refine hK _ ?_; clear hK K
          refine wpMix_pure (by kernel_rfl) (fun K hK => ?_); go_big_quiet_op; refine hK _ ?_; clear hK K
          refine wpMix_pure (by kernel_rfl) (fun K hK => ?_); go_big_quiet_op; refine hK _ ?_; clear hK K
          refine wpMix_pure (by kernel_rfl) (fun K hK => ?_); go_big_quiet_op; refine hK _ ?_; clear hK K
          by_cases hq11 : n ≤ xs[m + 1]
          · skip
            refine wpMix_pure (by kernel_rfl) (fun K hK => ?_); go_big_quiet_op; refine hK _ ?_; clear hK K
            refine wpMix_pure (by kernel_rfl) (fun K hK => ?_); go_big_quiet_op; refine hK _ ?_; clear hK K
            refine wpMix_pure (by kernel_rfl) (fun K hK => ?_); go_big_quiet_op; refine hK _ ?_; clear hK K
            refine wpMix_skip (by kernel_rfl) (fun K hK => ?_)
            simp only [Act.put, List.setIfInBounds_toArray, List.set_cons_zero, List.set_cons_succ]
            refine hK _ ?_; clear hK K
            refine wpMix_skip (by kernel_rfl) (fun K hK => ?_)
            simp only [Act.put, List.setIfInBounds_toArray, List.set_cons_zero, List.set_cons_succ]
            refine hK _ ?_; clear hK K
            refine wpMix_skip (by kernel_rfl) (fun K hK => ?_)
            simp only [Act.put, List.setIfInBounds_toArray, List.set_cons_zero, List.set_cons_succ]
            refine hK _ ?_; clear hK K
            refine wpMix_skip (by kernel_rfl) (fun K hK => ?_)
            simp only [Act.put, List.setIfInBounds_toArray, List.set_cons_zero, List.set_cons_succ]
            refine hK _ ?_; clear hK K
            refine wpMix_skip (by kernel_rfl) (fun K hK => ?_)
            simp only [Act.put, List.setIfInBounds_toArray, List.set_cons_zero, List.set_cons_succ]
            refine hK _ ?_; clear hK K
            refine wpMix_skip (by kernel_rfl) (fun K hK => ?_)
            simp only [Act.put, List.setIfInBounds_toArray, List.set_cons_zero, List.set_cons_succ]
            refine hK _ ?_; clear hK K
            refine wpMix_skip (by kernel_rfl) (fun K hK => ?_)
            simp only [Act.put, List.setIfInBounds_toArray, List.set_cons_zero, List.set_cons_succ]
            refine hK _ ?_; clear hK K
            refine wpMix_skip (by kernel_rfl) (fun K hK => ?_)
            simp only [Act.put, List.setIfInBounds_toArray, List.set_cons_zero, List.set_cons_succ]
            refine hK _ ?_; clear hK K
            refine wpMix_skip (by kernel_rfl) (fun K hK => ?_)
            simp only [Act.put, List.setIfInBounds_toArray, List.set_cons_zero, List.set_cons_succ]
            refine hK _ ?_; clear hK K
            refine wpMix_skip (by kernel_rfl) (fun K hK => ?_)
            simp only [Act.put, List.setIfInBounds_toArray, List.set_cons_zero, List.set_cons_succ]
            refine hK _ ?_; clear hK K
            refine wpMix_skip (by kernel_rfl) (fun K hK => ?_)
            simp only [Act.put, List.setIfInBounds_toArray, List.set_cons_zero, List.set_cons_succ]
            refine hK _ ?_; clear hK K
            refine wpMix_skip (by kernel_rfl) (fun K hK => ?_)
            simp only [Act.put, List.setIfInBounds_toArray, List.set_cons_zero, List.set_cons_succ]
            refine hK _ ?_; clear hK K
            refine wpMix_skip (by kernel_rfl) (fun K hK => ?_)
            simp only [Act.put, List.setIfInBounds_toArray, List.set_cons_zero, List.set_cons_succ]
            refine hK _ ?_; clear hK K
            refine wpMix_skip (by kernel_rfl) (fun K hK => ?_)
            simp only [Act.put, List.setIfInBounds_toArray, List.set_cons_zero, List.set_cons_succ]
            refine hK _ ?_; clear hK K
            refine wpMix_pure (by kernel_rfl) (fun K hK => ?_); go_big_quiet_op; refine hK _ ?_; clear hK K
            refine wpMix_nil ?_
            have HF := Lib.hid (allIdx_bad hlt (riseAt_far (n := n) hlt hq11))
            go_wp2
            go_ret
            exact ⟨ret_bool HF.out.symm, hb.trans (hS0.mono hb.size)⟩
          · skip
            refine wpMix_pure (by kernel_rfl) (fun K hK => ?_); go_big_quiet_op; refine hK _ ?_; clear hK K
            refine wpMix_pure (by kernel_rfl) (fun K hK => ?_); go_big_quiet_op; refine hK _ ?_; clear hK K
            refine wpMix_pure (by kernel_rfl) (fun K hK => ?_); go_big_quiet_op; refine hK _ ?_; clear hK K
            refine wpMix_pure (by kernel_rfl) (fun K hK => ?_); go_big_quiet_op; refine hK _ ?_; clear hK K
            refine wpMix_pure (by kernel_rfl) (fun K hK => ?_); go_big_quiet_op; refine hK _ ?_; clear hK K
            refine wpMix_pure (by kernel_rfl) (fun K hK => ?_); go_big_quiet_op; refine hK _ ?_; clear hK K
            refine wpMix_pure (by kernel_rfl) (fun K hK => ?_); go_big_quiet_op; refine hK _ ?_; clear hK K
            refine wpMix_pure (by kernel_rfl) (fun K hK => ?_); go_big_quiet_op; refine hK _ ?_; clear hK K
            refine wpMix_pure (by kernel_rfl) (fun K hK => ?_); go_big_quiet_op; refine hK _ ?_; clear hK K
            refine wpMix_pure (by kernel_rfl) (fun K hK => ?_); go_big_quiet_op; refine hK _ ?_; clear hK K
            refine wpMix_pure (by kernel_rfl) (fun K hK => ?_); go_big_quiet_op; refine hK _ ?_; clear hK K
            refine wpMix_pure (by kernel_rfl) (fun K hK => ?_); go_big_quiet_op; refine hK _ ?_; clear hK K
            refine wpMix_pure (by kernel_rfl) (fun K hK => ?_); go_big_quiet_op; refine hK _ ?_; clear hK K
            refine wpMix_pure (by kernel_rfl) (fun K hK => ?_); go_big_quiet_op; refine hK _ ?_; clear hK K
            refine wpMix_pure (by kernel_rfl) (fun K hK => ?_); go_big_quiet_op; refine hK _ ?_; clear hK K
            by_cases hq26 : xs[m + 1] ≤ xs[m]
            · skip
              refine wpMix_pure (by kernel_rfl) (fun K hK => ?_); go_big_quiet_op; refine hK _ ?_; clear hK K
              refine wpMix_pure (by kernel_rfl) (fun K hK => ?_); go_big_quiet_op; refine hK _ ?_; clear hK K
              refine wpMix_pure (by kernel_rfl) (fun K hK => ?_); go_big_quiet_op; refine hK _ ?_; clear hK K
              refine wpMix_nil ?_
              have HF := Lib.hid (allIdx_bad hlt (riseAt_low (n := n) hlt hq26))
              go_wp2
              go_ret
              exact ⟨ret_bool HF.out.symm, hb.trans (hS0.mono hb.size)⟩
            · skip
              refine wpMix_pure (by kernel_rfl) (fun K hK => ?_); go_big_quiet_op; refine hK _ ?_; clear hK K
              refine wpMix_pure (by kernel_rfl) (fun K hK => ?_); go_big_quiet_op; refine hK _ ?_; clear hK K
              refine wpMix_pure (by kernel_rfl) (fun K hK => ?_); go_big_quiet_op; refine hK _ ?_; clear hK K
              refine wpMix_nil ?_
              have HS := Lib.hid (allIdx_step H0.out (riseAt_ok (n := n) hlt (by omega) (by omega) (by omega)))
              go_wp2
              go_roundw
              case rel => exact ⟨m + 1 + 1, by omega, by go_num, HS, hb.trans (hS0.mono hb.size)⟩
              case measure => simp [intOf]; omega
    · have HF := Lib.hid (allIdx_full (by omega) hk H0.out)
      go_wp2
      go_ret
      exact ⟨ret_bool HF.out.symm, hb⟩
end Go.Proofs.YtphljobklilbdaaGreatDoor

namespace Go.Proofs.YtphljobklilbdaaGreatDoor
open Go.RowKit
set_option linter.unusedVariables false
set_option linter.unusedSimpArgs false

theorem PI_rises {Q : List Nat} {n : Nat} (hup : Q.Pairwise (· < ·)) (hlt : ∀ p ∈ Q, p < n) : risesB (PI Q) (n : Int) = true := by
  unfold risesB
  refine allIdx_true.2 (fun k hk => ?_)
  have hkQ : k < Q.length := by rw [PI_len] at hk; exact hk
  have hg : ∀ j (hj : j < (PI Q).length) (hj2 : j < Q.length), (PI Q)[j] = (Q[j] : Int) := fun j hj hj2 => by simp [PI]
  have h1 := hlt _ (List.getElem_mem hkQ)
  cases k with
  | zero => exact riseAt_zero hk (by rw [hg 0 hk hkQ]; omega) (by rw [hg 0 hk hkQ]; omega)
  | succ m =>
    have h2 := List.pairwise_iff_getElem.1 hup m (m + 1) (by omega) hkQ (by omega)
    exact riseAt_ok hk (by rw [hg _ hk hkQ]; omega) (by rw [hg _ hk hkQ]; omega) (by rw [hg m (by rw [PI_len]; omega) (by omega), hg _ hk hkQ]; omega)
theorem costS_take (cs : List Int) (Q : List Nat) (k : Nat) (hk : k < Q.length) : costS cs (Q.take (k + 1)) = costS cs (Q.take k) + cs.getD Q[k] 0 := by
  rw [List.take_succ_eq_append_getElem hk, costS_snoc]
theorem costS_in {cs : List Int} (h : ∀ c ∈ cs, 0 ≤ c ∧ c ≤ 1000000) : ∀ Q : List Nat, 0 ≤ costS cs Q ∧ costS cs Q ≤ 1000000 * (Q.length : Int)
  | [] => ⟨Int.le_refl _, Int.le_refl _⟩
  | p :: Q => by
    have ih := costS_in h Q
    have hp : 0 ≤ cs.getD p 0 ∧ cs.getD p 0 ≤ 1000000 := by
      rw [List.getD_eq_getElem?_getD]
      rcases Nat.lt_or_ge p cs.length with h1 | h1
      · rw [List.getElem?_eq_getElem h1]; exact h _ (List.getElem_mem h1)
      · rw [List.getElem?_eq_none h1]; exact ⟨Int.le_refl _, by decide⟩
    rw [costS, List.length_cons]; omega
theorem standB_ok {x : DStand} (h : standB x = true) : fStand.ok x := by
  obtain ⟨h1, h2, h3, h4, h5⟩ := standB_bounds h
  have := nameB_len h1
  exact ⟨by show _ ≤ _; omega, by show _ ∧ _; omega, by show _ ∧ _; omega, by show _ ∧ _; omega, by show _ ∧ _; omega⟩
theorem std_zero_bad : standB ⟨⟨#[]⟩, 0, 0, 0, 0⟩ = false := by
  cases h : standB ⟨⟨#[]⟩, 0, 0, 0, 0⟩
  · rfl
  · have := (standB_bounds h).1
    exact absurd this (by decide)
set_option maxRecDepth 100000 in
set_option maxHeartbeats 16000000 in
theorem walkStands (v0 : Value) (xs0 : List UInt8) (fp0 : List Nat) (v1 : Value) (xs1 : List UInt8) (fp1 : List Nat) (w : World) (hx0 : Sl fByte.cod w v0 xs0 fp0) (hx1 : Sl fByte.cod w v1 xs1 fp1) (hsh : w.ShapedOpen Tryz.prog) (hrd : RdTabs w) :
    Calls Tryz.prog 3 #[v0, v1] w fun e w' => YesR w e w' := by
  obtain ⟨mx, hm⟩ := maxLen_cell hsh
  clear hsh
  go_enter Tryz.func3, Tryz.ntmps3
  go_wp2_with fail
  refine (b10Long_any _ _ _ _ hx0).mono ?_
  rintro e w' ⟨rfl, rfl⟩
  cases hl0 : decide (1048576 < xs0.length)
  case true =>
    go_wp2
    go_ret
    exact ⟨rfl, Below.refl _ _⟩
  clear hl0
  go_wp2_with fail
  refine (b10Long_any _ _ _ _ hx1).mono ?_
  rintro e w' ⟨rfl, rfl⟩
  cases hl1 : decide (1048576 < xs1.length)
  case true =>
    go_wp2
    go_ret
    exact ⟨rfl, Below.refl _ _⟩
  clear hl1
  go_wp2_with fail
  refine (DrawMostFelled_any _ _ _ _ hx0).mono ?_
  rintro e w1 ⟨x, sn, le, rfl, hsm, hsnb, hleb, hb1⟩
  have hokx := hsm.ok
  have hAl : Below w1.heap.size w1 (w1.alloc (.cells #[.string x.id, .int .i64 x.trees, .int .i64 x.height, .int .i64 x.cover, .int .i64 x.gap] 25)) := (Below.refl _ _).alloc (Nat.le_refl _) _
  have hp2 := PStand.box w1 x 25
  unfold agStand
  go_wp2_with fail
  refine (MostFelled_any x sn le _ hokx).mono ?_
  rintro e w2 ⟨rfl, hbN⟩
  replace hp2 := hp2.below' hbN
  replace hbN : Below w1.heap.size w1 w2 := hAl.trans (hbN.mono (by simp))
  have hB2 := hb1.trans (hbN.mono hb1.size)
  replace hx0 := hx0.below' hB2
  replace hx1 := hx1.below' hB2
  replace hrd := hrd.below hB2
  replace hm := cell_below hB2 hm
  clear hAl hbN hb1 hsm
  generalize w1.heap.size = bx at *
  clear w1
  go_upto_if 61 with fail
  go_cut [8, 9, 10, 11, 12, 13, 14, 15, 16, 17] from 41 (fun _ _ _ _ _ _ _ _ _ _ wx => Below w2.heap.size w2 wx)
  case first => as_aux_lemma =>
    by_cases hC : mfC x sn le = 0
    rotate_left
    · have e1 : (mfC x sn le == 0) = false := beq_eq_false_iff_ne.2 hC
      generalize mfC x sn le = cc at *
      generalize mfV x sn le = tv at *
      clear hC
      go_wp2
      go_meet
      case rel => exact Below.refl _ _
    obtain ⟨hv, hsn, hle, hlp⟩ := mf_zero hC
    have hV : mfV x sn le = ((mostTo x sn le x.trees.toNat : Nat) : Int) := by unfold mfV; rw [if_pos hC]
    rw [hC, hV]
    obtain ⟨hnx, htr, hhx, hcx, hgx⟩ := standB_bounds hv
    have hsn2 := inB_true.1 hsn
    have htle := mostTo_le x sn le x.trees.toNat
    have hown := mostTo_own hv hlp x.trees.toNat
    have habove := mostTo_above x sn le x.trees.toNat
    generalize mostTo x sn le x.trees.toNat = t at *
    have htx : 0 ≤ (t : Int) ∧ (t : Int) ≤ x.trees := by omega
    have hF0 : fellC x (t : Int) = 0 := by
      unfold fellC
      rw [hv, inB_true.2 (show 0 ≤ (t : Int) ∧ (t : Int) ≤ 2000 by omega), if_neg (by omega : ¬ x.trees < (t : Int))]; rfl
    have hFv : fellV x (t : Int) = felledF x (t : Int) := by unfold fellV; rw [if_pos hF0]
    have hfok := felled_ok hv htx
    have htf : (felledF x (t : Int)).trees = x.trees - (t : Int) := rfl
    have hpo := po_ok hfok hsn
    obtain ⟨r4, hr4⟩ : ∃ r4, r4 = fellC x ((t : Int) + 1) := ⟨_, rfl⟩
    obtain ⟨y5, hy5⟩ : ∃ y5, y5 = fellV x ((t : Int) + 1) := ⟨_, rfl⟩
    have hq : (r4 = 0 ∧ standB y5 = true ∧ poC y5 sn = 0 ∧ poV y5 sn < le) ∨ (r4 ≠ 0 ∧ fStand.ok y5) := by
      by_cases h4 : fellC x ((t : Int) + 1) = 0
      · obtain ⟨_, h5, h6⟩ := fell_zero h4
        have h7 : fellV x ((t : Int) + 1) = felledF x ((t : Int) + 1) := by unfold fellV; rw [if_pos h4]
        have h8 := felled_ok hv ⟨h5, h6⟩
        have h9 := po_ok h8 hsn
        have h10 := habove (t + 1) (by omega) (by omega)
        rw [show ((t + 1 : Nat) : Int) = (t : Int) + 1 by omega] at h10
        refine .inl ⟨hr4.trans h4, ?_, ?_, ?_⟩
        · rw [hy5, h7]; exact h8
        · rw [hy5, h7]; exact h9.1
        · rw [hy5, h7, h9.2]; exact h10
      · refine .inr ⟨by rw [hr4]; exact h4, ?_⟩
        have h7 : fellV x ((t : Int) + 1) = ⟨⟨#[]⟩, 0, 0, 0, 0⟩ := by unfold fellV; rw [if_neg h4]
        rw [hy5, h7]
        exact ⟨by show _ ≤ _; decide, by show _ ∧ _; decide, by show _ ∧ _; decide, by show _ ∧ _; decide, by show _ ∧ _; decide⟩
    have hok5 : fStand.ok y5 := by
      rcases hq with ⟨_, h, _⟩ | ⟨_, h⟩
      · exact standB_ok h
      · exact h
    have ht1 : 0 ≤ (t : Int) + 1 ∧ (t : Int) + 1 ≤ 2001 := by omega
    have hXC : Hid (fellC x ((t : Int) + 1) = r4 ∧ fellV x ((t : Int) + 1) = y5) := by show _ ∧ _; rw [hr4, hy5]; exact ⟨rfl, rfl⟩
    clear hC hV hlp htle habove hr4 hy5
    obtain ⟨c0, c1, c2, c3, c4⟩ := id hp2
    go_wp2_with fail
    refine (FellTrees_any x (t : Int) _ hokx).mono ?_
    rintro e w3 ⟨rfl, hb3⟩
    rw [hF0, hFv]
    have hokl := standB_ok hfok
    generalize hyl : felledF x (t : Int) = yl at *
    have htl : Hid (yl.trees = x.trees - (t : Int)) := by show _ = _; rw [← hyl]; rfl
    clear hyl htf hF0 hFv
    have hp3 := hp2.below' hb3
    have hAy : Below w3.heap.size w3 (w3.alloc (.cells #[.string yl.id, .int .i64 yl.trees, .int .i64 yl.height, .int .i64 yl.cover, .int .i64 yl.gap] 25)) := (Below.refl _ _).alloc (Nat.le_refl _) _
    have hpl := PStand.box w3 yl 25
    have hp4 := hp3.below' hAy
    have hb4 := hb3.trans (hAy.mono hb3.size)
    have hbl3 := hp3.lt
    clear c0 c1 c2 c3 c4 hb3 hAy hp3
    unfold agStand
    go_wp2_with fail
    refine (implProtectionOf_any yl sn _ hokl).mono ?_
    rintro e w5 ⟨rfl, hb5⟩
    rw [hpo.1, hpo.2]
    have hlp : le ≤ protF yl sn := hown
    generalize protF yl sn = pf at *
    have hpl5 := hpl.below' hb5
    have hp5 := hp4.below' hb5
    have hb6 := hb4.trans (hb5.mono hb4.size)
    clear hpo hpl hp4 hb4 hb5
    obtain ⟨c0, c1, c2, c3, c4⟩ := id hp5
    go_wp2_with fail
    refine (FellTrees_any x ((t : Int) + 1) _ hokx).mono ?_
    rintro e w7 ⟨rfl, hb7⟩
    rw [hXC.out.1, hXC.out.2]
    have hpl7 := hpl5.below' hb7
    have hp7 := hp5.below' hb7
    have hb8 := hb6.trans (hb7.mono hb6.size)
    clear hXC hpl5 hp5 hb6 hb7 c0 c1 c2 c3 c4
    have hA7 : Below w7.heap.size w7 (w7.alloc (.cells #[.string y5.id, .int .i64 y5.trees, .int .i64 y5.height, .int .i64 y5.cover, .int .i64 y5.gap] 25)) := (Below.refl _ _).alloc (Nat.le_refl _) _
    have hp57 := PStand.box w7 y5 25
    have hpl8 := hpl7.below' hA7
    have hp8 := hp7.below' hA7
    have hb9 := hb8.trans (hA7.mono hb8.size)
    have hl7 := hpl7.lt
    clear hA7 hpl7 hp7 hb8
    unfold agStand
    go_wp2_with fail
    refine (implProtectionOf_any y5 sn _ hok5).mono ?_
    rintro e w9 ⟨rfl, hb10⟩
    have hpl9 := hpl8.below' hb10
    have hp9 := hp8.below' hb10
    have hb11 := hb9.trans (hb10.mono hb9.size)
    clear hpl8 hp8 hb9 hb10 hp57 hok5 hokl
    obtain ⟨a0, a1, a2, a3, a4⟩ := id hpl9
    obtain ⟨b0, b1, b2, b3, b4⟩ := id hp9
    have e7 : (yl.trees != x.trees - (t : Int)) = false := by rw [bne_eq_false_iff_eq]; exact htl.out
    have hlp2 : ¬ pf < le := by omega
    generalize poC y5 sn = c5 at *
    generalize poV y5 sn = q5 at *
    rcases hq with ⟨rfl, _, rfl, hqq⟩ | ⟨h4, _⟩
    · have hqq2 : ¬ le ≤ q5 := by omega
      go_wp2
      go_meet
      case rel => exact hb11
    · have e4 : (r4 == 0) = false := beq_eq_false_iff_ne.2 h4
      clear h4
      go_wp2
      go_meet
      case rel => exact hb11
  case rest => as_aux_lemma =>
    have hB3 := hB2.trans (hcut.mono hB2.size)
    replace hx1 := hx1.below' hcut
    replace hx0 := hx0.below' hcut
    replace hrd := hrd.below hcut
    replace hm := cell_below hcut hm
    clear hcut hB2 hp2 hokx hsnb hleb
    go_wp2_with fail
    refine (DrawPlantBest_any _ _ _ _ hx1).mono ?_
    rintro e w4 ⟨vy, vc, ys, cs, fq, fc, mo, sn2, le2, bu, rfl, hys, hcs, hyl, hcl, hcb, hmo, hsn2, hle2, hbu, hb4⟩
    obtain ⟨A, cap, rfl, _, _⟩ := hys.form
    obtain ⟨Ac, cc, rfl, _, _⟩ := hcs.form
    have hB4 := hB3.trans (hb4.mono hB3.size)
    replace hx0 := hx0.below' hb4
    replace hrd := hrd.below hb4
    replace hm := cell_below hb4 hm
    clear hx1 hB3 hb4 wc
    go_wp2_with fail
    refine (PlantBest_any _ _ ys cs fq fc mo sn2 le2 bu _ hys hcs (by omega)).mono ?_
    rintro e w5 ⟨r, many, k, rfl, hbest, hb5⟩
    have hB5 := hB4.trans (hb5.mono hB4.size)
    replace hys := hys.below' hb5
    replace hcs := hcs.below' hb5
    replace hx0 := hx0.below' hb5
    replace hrd := hrd.below hb5
    replace hm := cell_below hb5 hm
    clear hB4 hb5 hcb
    go_upto_if 141 with fail
    go_cut [24, 25, 26, 27, 28, 29, 30] from 41 (fun _ _ _ _ _ _ _ wx => Below w5.heap.size w5 wx)
    case first => as_aux_lemma =>
      by_cases hk : k = 0
      rotate_left
      · have e1 : (k == 0) = false := beq_eq_false_iff_ne.2 hk
        clear hk hbest
        go_wp2
        go_meet
        case rel => exact Below.refl _ _
      obtain ⟨hv, hcy, hca, hmo2, hpo, Q, hown, m9, hgood⟩ := hbest hk
      subst hk
      have hl16 := standsB_len hv
      have hQl := hgood.len
      have hup := hgood.up
      have hlt := hgood.lt
      have hok : ∀ z ∈ PI Q, fInt.ok z := fun z hz => by
        obtain ⟨p, hp, rfl⟩ := List.mem_map.1 hz
        have := hlt p hp
        show _ ∧ _; omega
      obtain ⟨fr, hsr, _, _⟩ := Sl.of_own (n := (PI Q).length) rfl hown hok
      obtain ⟨Ar, cr, rfl, _, _⟩ := hsr.form
      have hris := PI_rises (n := ys.length) hup hlt
      have hco := hgood.cost
      have hmn := hgood.mn
      have hlo := hgood.lo
      have hhi := hgood.hi
      have hci := costS_in hca
      have hmb : -1 ≤ many ∧ many ≤ 100 := by have := protTo_in ys sn2 le2 ys.length; omega
      have hPL : (PI Q).length = Q.length := PI_len Q
      have hPL2 : (PI Q).length ≤ 16 := by omega
      have hgetP : ∀ j (h1 : j < (PI Q).length) (h2 : j < Q.length), (PI Q)[j] = (Q[j] : Int) := fun j h1 h2 => by simp [PI]
      have hcy9 := Lib.hid hcy
      have ecl : ((cs.length : Int) != (ys.length : Int)) = false := by rw [bne_eq_false_iff_eq, hcy]
      have hpsC : psC ys sn2 le2 = 0 := by unfold psC; rw [hv, hpo]; rfl
      have hpsL : psL ys sn2 le2 = prL ys sn2 le2 ys.length := by unfold psL; rw [if_pos hpsC]
      have hprl := prL_len ys sn2 le2 ys.length
      have hprle := prL_le ys sn2 le2 ys.length
      have HPL := Lib.hid hPL
      clear hown hgood hok hbest hup hcy hPL hmo hbu hsn2 hle2
      go_wp2_with fail
      refine (b10Rises_any _ (PI Q) fr (ys.length : Int) _ hsr).mono ?_
      rintro e w6 ⟨rfl, hb6⟩
      rw [hris]
      have hys6 := hys.below' hb6
      have hcs6 := hcs.below' hb6
      have hsr6 := hsr.below' hb6
      clear hris hsr
      go_wp2
      go_loopw [27, 28] (fun sv iv wr => ∃ i : Nat, iv = .int .i64 i ∧ i ≤ (PI Q).length ∧ sv = .int .i64 (costS cs (Q.take i)) ∧ wr = w6) (fun _ iv _ => (PI Q).length - (intOf iv).toNat)
      case atStart => exact ⟨0, rfl, Nat.zero_le _, by simp [costS], rfl⟩
      case round => as_aux_lemma =>
        obtain ⟨i, rfl, hi, rfl, rfl⟩ := hrel
        by_cases hil : i < (PI Q).length
        · have hil9 : (i : Int) < ((PI Q).length : Int) := by omega
          have hiQ : i < Q.length := by rw [← HPL.out]; exact hil
          have hgi := hgetP i hil hiQ
          obtain ⟨b1, o1, rfl, _, _, c1, _⟩ := hsr6.cell1 rfl hil rfl
          have hqn := hlt _ (List.getElem_mem hiQ)
          have hqc : Q[i] < cs.length := by rw [hcy9.out]; exact hqn
          have hqc9 : ((Q[i] : Nat) : Int) < (cs.length : Int) := by omega
          obtain ⟨b2, o2, rfl, _, _, c2, _⟩ := hcs6.cell1 rfl hqc rfl
          have hst := costS_take cs Q i hiQ
          rw [List.getD_eq_getElem?_getD, List.getElem?_eq_getElem hqc] at hst
          have hstH := Lib.hid (show costS cs (Q.take (i + 1)) = costS cs (Q.take i) + cs[Q[i]] from hst)
          have hcib := hca _ (List.getElem_mem hqc)
          have hsib := hci (Q.take i)
          have hsil : ((Q.take i).length : Int) ≤ 16 := by rw [List.length_take]; omega
          rw [hgi] at c1
          clear hst hgi
          generalize cs[Q[i]] = cv at *
          generalize costS cs (Q.take i) = sm at *
          generalize Q[i] = qi at *
          have hsm : 0 ≤ sm ∧ sm ≤ 16000000 := by omega
          clear hsib hsil
          go_wp2
          go_roundw
          case rel => exact ⟨i + 1, by go_num, by omega, by rw [hstH.out], by first | rfl | trivial⟩
          case measure => simp [intOf]; omega
        · obtain rfl : i = (PI Q).length := by omega
          have htk : Q.take (PI Q).length = Q := List.take_of_length_le (by rw [HPL.out]; exact Nat.le_refl _)
          rw [htk]
          have hsb := hci Q
          have hsmo : costS cs Q ≤ mo := by omega
          have hsb2 : 0 ≤ costS cs Q ∧ costS cs Q ≤ 16000000 := by omega
          generalize costS cs Q = sm at *
          clear hco hci htk hsb
          go_wp2_with fail
          refine (specProtectedStands_any _ ys fq sn2 le2 _ hys6).mono ?_
          rintro e w7 ⟨rp, rfl, hownp, hb7⟩
          rw [hpsC]
          rw [hpsL] at hownp
          obtain ⟨Ap, cp, rfl⟩ := Own.form hownp
          have hn1 : ((prL ys sn2 le2 ys.length).length : Int) ≤ many := by omega
          have hn2 : many ≤ ((prL ys sn2 le2 ys.length).length : Int) + ((PI Q).length : Int) := by rw [HPL.out]; omega
          have hn3 : (prL ys sn2 le2 ys.length).length ≤ 16 := by omega
          have hb9 := hb6.trans (hb7.mono hb6.size)
          generalize (prL ys sn2 le2 ys.length).length = np at *
          clear hprl hprle hlo hhi hpsC hpsL hownp
          go_wp2
          go_meet
          case rel => exact hb9
    case rest => as_aux_lemma =>
      have hB6 := hB5.trans (hcut.mono hB5.size)
      replace hx0 := hx0.below' hcut
      replace hrd := hrd.below hcut
      replace hm := cell_below hcut hm
      clear hcut hB5 hys hcs hbest
      go_wp2_with fail
      refine (DrawWeakestStand_any _ _ _ _ hx0).mono ?_
      rintro e w6 ⟨vz, zs, fz, dp, rfl, hzs, hzl, hdp, hbN⟩
      obtain ⟨Az, cz, rfl, _, _⟩ := hzs.form
      have hB7 := hB6.trans (hbN.mono hB6.size)
      replace hrd := hrd.below hbN
      replace hm := cell_below hbN hm
      clear hx0 hB6 hbN wc
      go_wp2_with fail
      refine (WeakestStand_any _ zs fz dp _ hzs).mono ?_
      rintro e w7 ⟨rfl, hb7⟩
      have hB8 := hB7.trans (hb7.mono hB7.size)
      replace hzs := hzs.below' hb7
      replace hrd := hrd.below hb7
      replace hm := cell_below hb7 hm
      clear hB7 hb7
      by_cases hc : wkC zs dp = 0
      rotate_left
      · have e1 : (wkC zs dp != 0) = true := by rw [bne_iff_ne]; exact hc
        have h1 : wkI zs dp = 0 := by unfold wkI; rw [if_neg hc]
        have h2 : wkV zs dp = 0 := by unfold wkV; rw [if_neg hc]
        rw [h1, h2]
        generalize wkC zs dp = cc at *
        clear hc h1 h2
        go_wp2
        go_ret
        exact ⟨rfl, hB8⟩
      obtain ⟨hv, hsn, h0⟩ := wk_zero hc
      have hsn2 := inB_true.1 hsn
      have h1 : wkI zs dp = weakS zs dp zs.length := by unfold wkI; rw [if_pos hc]
      have h2 : wkV zs dp = protF (zs.getD (weakS zs dp zs.length) ⟨⟨#[]⟩, 0, 0, 0, 0⟩) dp := by unfold wkV; rw [if_pos hc]
      have hml : weakS zs dp zs.length < zs.length := by have := weakS_lt zs dp zs.length; omega
      have hl16 := standsB_len hv
      have hge : ∀ i (hi : i < zs.length), protF (zs.getD (weakS zs dp zs.length) ⟨⟨#[]⟩, 0, 0, 0, 0⟩) dp ≤ protF zs[i] dp := fun i hi => by
        have := weakS_le zs dp zs.length i hi
        rw [std_getD hi] at this; exact this
      have hgt : ∀ i (hi : i < zs.length), i < weakS zs dp zs.length → protF (zs.getD (weakS zs dp zs.length) ⟨⟨#[]⟩, 0, 0, 0, 0⟩) dp < protF zs[i] dp := fun i hi hlt => by
        have := weakS_first zs dp zs.length i hlt
        rw [std_getD hi] at this; exact this
      have heq : ∀ i (hi : i < zs.length), i = weakS zs dp zs.length → protF zs[i] dp = protF (zs.getD (weakS zs dp zs.length) ⟨⟨#[]⟩, 0, 0, 0, 0⟩) dp := fun i hi e => by subst e; rw [std_getD hi]
      rw [hc, h1, h2]
      generalize protF (zs.getD (weakS zs dp zs.length) ⟨⟨#[]⟩, 0, 0, 0, 0⟩) dp = pw at *
      generalize weakS zs dp zs.length = mk at *
      clear hc h1 h2 h0
      have hmk0 : 0 ≤ (mk : Int) ∧ (mk : Int) < (zs.length : Int) := by omega
      replace hge := Lib.hid hge
      replace hgt := Lib.hid hgt
      replace heq := Lib.hid heq
      go_wp2
      go_loopw [36] (fun iv wr => ∃ i : Nat, iv = .int .i64 i ∧ i ≤ zs.length ∧ Below w7.heap.size w7 wr) (fun iv _ => zs.length - (intOf iv).toNat)
      case atStart => exact ⟨0, rfl, Nat.zero_le _, Below.refl _ _⟩
      case round => as_aux_lemma =>
        obtain ⟨i, rfl, hi, hb⟩ := hrel
        rename World => wo
        by_cases hlt : i < zs.length
        rotate_left
        · obtain rfl : i = zs.length := by omega
          have hB9 := hB8.trans (hb.mono hB8.size)
          go_wp2
          go_ret
          exact ⟨rfl, hB9⟩
        have hlt9 : (i : Int) < (zs.length : Int) := by omega
        have hvx := standsB_one hv hlt
        have hge1 := hge.out i hlt
        have hgt1 := Lib.hid (hgt.out i hlt)
        have heq1 := Lib.hid (heq.out i hlt)
        obtain ⟨bb, off, rfl, _, _, hp⟩ := PStand.elem (hzs.below' hb) hlt
        generalize zs[i] = x at *
        have hokx := standB_ok hvx
        have hpo := po_ok hvx hsn
        obtain ⟨c0, c1, c2, c3, c4⟩ := id hp
        clear hge hgt heq
        go_wp2_with fail
        refine (specProtectionOf_any x dp _ hokx).mono ?_
        rintro e wa ⟨rfl, hba⟩
        rw [hpo.1, hpo.2]
        generalize protF x dp = pf at *
        have hpa := hp.below' hba
        have hb2 := hb.trans (hba.mono hb.size)
        clear hp hba hb hpo c0 c1 c2 c3 c4
        obtain ⟨c0, c1, c2, c3, c4⟩ := id hpa
        go_wp2_with fail
        refine (StandText_any x _ hvx hokx (hrd.below hb2).tab).mono ?_
        rintro e wb ⟨rfl, hbb⟩
        have hpb := hpa.below' hbb
        have hb3 := hb2.trans (hbb.mono hb2.size)
        clear hpa hbb hb2 c0 c1 c2 c3 c4
        go_wp2_with fail
        refine (ReadStand_of x _ hvx hokx mx (cell_below hb3 hm) (hrd.below hb3)).mono ?_
        rintro e wd ⟨rfl, hbd⟩
        have hpd := hpb.below' hbd
        have hb4 := hb3.trans (hbd.mono hb3.size)
        clear hpb hbd hb3
        have hAr : Below wd.heap.size wd (wd.alloc (.cells #[.string x.id, .int .i64 x.trees, .int .i64 x.height, .int .i64 x.cover, .int .i64 x.gap] 25)) := (Below.refl _ _).alloc (Nat.le_refl _) _
        have hpr := PStand.box wd x 25
        have hpe := hpd.below' hAr
        have hb5 := hb4.trans (hAr.mono hb4.size)
        clear hAr hpd hb4
        unfold agStand
        go_upto_region 34 with fail
        refine at_world (fun W => PStand W wd.heap.size 0 x ∧ PStand W bb (off + i * 5) x ∧ Below w7.heap.size w7 W) ⟨hpr, hpe, hb5⟩ ?_
        clear hpr hpe hb5
        rintro W ⟨hpr, hpe, hb5⟩
        generalize wd.heap.size = rb at *
        obtain ⟨c0, c1, c2, c3, c4⟩ := id hpe
        obtain ⟨d0, d1, d2, d3, d4⟩ := id hpr
        have e4 : (x.id.toList == x.id.toList) = true := beq_self_eq_true _
        have hnlt : ¬ pf < pw := by omega
        clear hpr hpe hvx hokx
        rcases Nat.lt_trichotomy i mk with hq | hq | hq
        · have e10 : ((i : Int) == (mk : Int)) = false := by rw [beq_eq_false_iff_ne]; omega
          have e20 : (i : Int) < (mk : Int) := by omega
          have hpq := hgt1.out hq
          have e24 : (pf == pw) = false := by rw [beq_eq_false_iff_ne]; omega
          clear hq heq1 hgt1 hpq hge1
          have gc0 := cell_regrown c0
          have gc1 := cell_regrown c1
          have gc2 := cell_regrown c2
          have gc3 := cell_regrown c3
          have gc4 := cell_regrown c4
          have gd0 := cell_regrown d0
          have gd1 := cell_regrown d1
          have gd2 := cell_regrown d2
          have gd3 := cell_regrown d3
          have gd4 := cell_regrown d4
          refine wp_region_mix (C := fun w' => ∃ p : Regrown, w' = Go.Sort.grow (redrawn W p.d) p.os) [true, true, true, true, true, true, true, true, true, true, true, true, true, true, true, true, true, true, true, true, true, true, true, true, true, true, true, true, true, true, true, true, true, true, true, true, true, true, true] (by kernel_rfl) (by kernel_rfl) (by kernel_rfl) (fun _ _ d _ _ h => by cases d <;> exact h) (regrown_of_below (Below.drew (Below.refl _ _))) ?_
          have hS0 : Below (W.heap.size) W W.drew := Below.drew (Below.refl _ _)
          refine wpMix_pure (by kernel_rfl) (fun K hK => ?_); go_big_quiet_op; refine hK _ ?_; clear hK K
          refine wpMix_pure (by kernel_rfl) (fun K hK => ?_); go_big_quiet_op; refine hK _ ?_; clear hK K
          refine wpMix_pure (by kernel_rfl) (fun K hK => ?_); go_big_quiet_op; refine hK _ ?_; clear hK K
          refine wpMix_pure (by kernel_rfl) (fun K hK => ?_); go_big_quiet_op; refine hK _ ?_; clear hK K
          refine wpMix_pure (by kernel_rfl) (fun K hK => ?_); go_big_quiet_op; refine hK _ ?_; clear hK K
          refine wpMix_pure (by kernel_rfl) (fun K hK => ?_); go_big_quiet_op; refine hK _ ?_; clear hK K
          refine wpMix_pure (by kernel_rfl) (fun K hK => ?_); go_big_quiet_op; refine hK _ ?_; clear hK K
          refine wpMix_pure (by kernel_rfl) (fun K hK => ?_); go_big_quiet_op; refine hK _ ?_; clear hK K
          refine wpMix_pure (by kernel_rfl) (fun K hK => ?_); go_big_quiet_op; refine hK _ ?_; clear hK K
          refine wpMix_pure (by kernel_rfl) (fun K hK => ?_); go_big_quiet_op; refine hK _ ?_; clear hK K
          refine wpMix_pure (by kernel_rfl) (fun K hK => ?_); go_big_quiet_op; refine hK _ ?_; clear hK K
          refine wpMix_pure (by kernel_rfl) (fun K hK => ?_); go_big_quiet_op; refine hK _ ?_; clear hK K
          refine wpMix_skip (by kernel_rfl) (fun K hK => ?_)
          simp only [Act.put, List.setIfInBounds_toArray, List.set_cons_zero, List.set_cons_succ]
          refine hK _ ?_; clear hK K
          refine wpMix_skip (by kernel_rfl) (fun K hK => ?_)
          simp only [Act.put, List.setIfInBounds_toArray, List.set_cons_zero, List.set_cons_succ]
          refine hK _ ?_; clear hK K
          refine wpMix_skip (by kernel_rfl) (fun K hK => ?_)
          simp only [Act.put, List.setIfInBounds_toArray, List.set_cons_zero, List.set_cons_succ]
          refine hK _ ?_; clear hK K
          refine wpMix_pure (by kernel_rfl) (fun K hK => ?_); go_big_quiet_op; refine hK _ ?_; clear hK K
          refine wpMix_pure (by kernel_rfl) (fun K hK => ?_); go_big_quiet_op; refine hK _ ?_; clear hK K
          refine wpMix_pure (by kernel_rfl) (fun K hK => ?_); go_big_quiet_op; refine hK _ ?_; clear hK K
          refine wpMix_pure (by kernel_rfl) (fun K hK => ?_); go_big_quiet_op; refine hK _ ?_; clear hK K
          refine wpMix_pure (by kernel_rfl) (fun K hK => ?_); go_big_quiet_op; refine hK _ ?_; clear hK K
          refine wpMix_pure (by kernel_rfl) (fun K hK => ?_); go_big_quiet_op; refine hK _ ?_; clear hK K
          refine wpMix_pure (by kernel_rfl) (fun K hK => ?_); go_big_quiet_op; refine hK _ ?_; clear hK K
          refine wpMix_pure (by kernel_rfl) (fun K hK => ?_); go_big_quiet_op; refine hK _ ?_; clear hK K
          refine wpMix_pure (by kernel_rfl) (fun K hK => ?_); go_big_quiet_op; refine hK _ ?_; clear hK K
          refine wpMix_pure (by kernel_rfl) (fun K hK => ?_); go_big_quiet_op; refine hK _ ?_; clear hK K
          refine wpMix_pure (by kernel_rfl) (fun K hK => ?_); go_big_quiet_op; refine hK _ ?_; clear hK K
          refine wpMix_pure (by kernel_rfl) (fun K hK => ?_); go_big_quiet_op; refine hK _ ?_; clear hK K
          refine wpMix_pure (by kernel_rfl) (fun K hK => ?_); go_big_quiet_op; refine hK _ ?_; clear hK K
          refine wpMix_pure (by kernel_rfl) (fun K hK => ?_); go_big_quiet_op; refine hK _ ?_; clear hK K
          refine wpMix_pure (by kernel_rfl) (fun K hK => ?_); go_big_quiet_op; refine hK _ ?_; clear hK K
          refine wpMix_pure (by kernel_rfl) (fun K hK => ?_); go_big_quiet_op; refine hK _ ?_; clear hK K
          refine wpMix_pure (by kernel_rfl) (fun K hK => ?_); go_big_quiet_op; refine hK _ ?_; clear hK K
          refine wpMix_pure (by kernel_rfl) (fun K hK => ?_); go_big_quiet_op; refine hK _ ?_; clear hK K
          refine wpMix_pure (by kernel_rfl) (fun K hK => ?_); go_big_quiet_op; refine hK _ ?_; clear hK K
          refine wpMix_pure (by kernel_rfl) (fun K hK => ?_); go_big_quiet_op; refine hK _ ?_; clear hK K
          refine wpMix_pure (by kernel_rfl) (fun K hK => ?_); go_big_quiet_op; refine hK _ ?_; clear hK K
          refine wpMix_pure (by kernel_rfl) (fun K hK => ?_); go_big_quiet_op; refine hK _ ?_; clear hK K
          refine wpMix_pure (by kernel_rfl) (fun K hK => ?_); go_big_quiet_op; refine hK _ ?_; clear hK K
          refine wpMix_pure (by kernel_rfl) (fun K hK => ?_); go_big_quiet_op; refine hK _ ?_; clear hK K
          refine wpMix_nil ?_
          have hb9 := hb5.trans (hS0.mono hb5.size)
          clear gc0 gc1 gc2 gc3 gc4 gd0 gd1 gd2 gd3 gd4
          go_wp2
          go_roundw
          case rel => exact ⟨i + 1, by go_num, by omega, hb9⟩
          case measure => simp [intOf]; omega

        · have e10 : ((i : Int) == (mk : Int)) = true := by rw [beq_iff_eq]; omega
          have e20 : ¬ (i : Int) < (mk : Int) := by omega
          have e14 : (pf != pw) = false := by rw [bne_eq_false_iff_eq]; exact heq1.out hq
          clear hq heq1 hgt1 hge1
          have gc0 := cell_regrown c0
          have gc1 := cell_regrown c1
          have gc2 := cell_regrown c2
          have gc3 := cell_regrown c3
          have gc4 := cell_regrown c4
          have gd0 := cell_regrown d0
          have gd1 := cell_regrown d1
          have gd2 := cell_regrown d2
          have gd3 := cell_regrown d3
          have gd4 := cell_regrown d4
          refine wp_region_mix (C := fun w' => ∃ p : Regrown, w' = Go.Sort.grow (redrawn W p.d) p.os) [true, true, true, true, true, true, true, true, true, true, true, true, true, true, true, true, true, true, true, true, true, true, true, true, true, true, true, true, true, true, true, true, true, true, true, true, true, true, true] (by kernel_rfl) (by kernel_rfl) (by kernel_rfl) (fun _ _ d _ _ h => by cases d <;> exact h) (regrown_of_below (Below.drew (Below.refl _ _))) ?_
          have hS0 : Below (W.heap.size) W W.drew := Below.drew (Below.refl _ _)
          refine wpMix_pure (by kernel_rfl) (fun K hK => ?_); go_big_quiet_op; refine hK _ ?_; clear hK K
          refine wpMix_pure (by kernel_rfl) (fun K hK => ?_); go_big_quiet_op; refine hK _ ?_; clear hK K
          refine wpMix_pure (by kernel_rfl) (fun K hK => ?_); go_big_quiet_op; refine hK _ ?_; clear hK K
          refine wpMix_pure (by kernel_rfl) (fun K hK => ?_); go_big_quiet_op; refine hK _ ?_; clear hK K
          refine wpMix_pure (by kernel_rfl) (fun K hK => ?_); go_big_quiet_op; refine hK _ ?_; clear hK K
          refine wpMix_pure (by kernel_rfl) (fun K hK => ?_); go_big_quiet_op; refine hK _ ?_; clear hK K
          refine wpMix_pure (by kernel_rfl) (fun K hK => ?_); go_big_quiet_op; refine hK _ ?_; clear hK K
          refine wpMix_pure (by kernel_rfl) (fun K hK => ?_); go_big_quiet_op; refine hK _ ?_; clear hK K
          refine wpMix_pure (by kernel_rfl) (fun K hK => ?_); go_big_quiet_op; refine hK _ ?_; clear hK K
          refine wpMix_pure (by kernel_rfl) (fun K hK => ?_); go_big_quiet_op; refine hK _ ?_; clear hK K
          refine wpMix_pure (by kernel_rfl) (fun K hK => ?_); go_big_quiet_op; refine hK _ ?_; clear hK K
          refine wpMix_pure (by kernel_rfl) (fun K hK => ?_); go_big_quiet_op; refine hK _ ?_; clear hK K
          refine wpMix_pure (by kernel_rfl) (fun K hK => ?_); go_big_quiet_op; refine hK _ ?_; clear hK K
          refine wpMix_pure (by kernel_rfl) (fun K hK => ?_); go_big_quiet_op; refine hK _ ?_; clear hK K
          refine wpMix_pure (by kernel_rfl) (fun K hK => ?_); go_big_quiet_op; refine hK _ ?_; clear hK K
          refine wpMix_pure (by kernel_rfl) (fun K hK => ?_); go_big_quiet_op; refine hK _ ?_; clear hK K
          refine wpMix_pure (by kernel_rfl) (fun K hK => ?_); go_big_quiet_op; refine hK _ ?_; clear hK K
          refine wpMix_pure (by kernel_rfl) (fun K hK => ?_); go_big_quiet_op; refine hK _ ?_; clear hK K
          refine wpMix_pure (by kernel_rfl) (fun K hK => ?_); go_big_quiet_op; refine hK _ ?_; clear hK K
          refine wpMix_pure (by kernel_rfl) (fun K hK => ?_); go_big_quiet_op; refine hK _ ?_; clear hK K
          refine wpMix_pure (by kernel_rfl) (fun K hK => ?_); go_big_quiet_op; refine hK _ ?_; clear hK K
          refine wpMix_pure (by kernel_rfl) (fun K hK => ?_); go_big_quiet_op; refine hK _ ?_; clear hK K
          refine wpMix_skip (by kernel_rfl) (fun K hK => ?_)
          simp only [Act.put, List.setIfInBounds_toArray, List.set_cons_zero, List.set_cons_succ]
          refine hK _ ?_; clear hK K
          refine wpMix_skip (by kernel_rfl) (fun K hK => ?_)
          simp only [Act.put, List.setIfInBounds_toArray, List.set_cons_zero, List.set_cons_succ]
          refine hK _ ?_; clear hK K
          refine wpMix_skip (by kernel_rfl) (fun K hK => ?_)
          simp only [Act.put, List.setIfInBounds_toArray, List.set_cons_zero, List.set_cons_succ]
          refine hK _ ?_; clear hK K
          refine wpMix_pure (by kernel_rfl) (fun K hK => ?_); go_big_quiet_op; refine hK _ ?_; clear hK K
          refine wpMix_pure (by kernel_rfl) (fun K hK => ?_); go_big_quiet_op; refine hK _ ?_; clear hK K
          refine wpMix_pure (by kernel_rfl) (fun K hK => ?_); go_big_quiet_op; refine hK _ ?_; clear hK K
          refine wpMix_pure (by kernel_rfl) (fun K hK => ?_); go_big_quiet_op; refine hK _ ?_; clear hK K
          refine wpMix_pure (by kernel_rfl) (fun K hK => ?_); go_big_quiet_op; refine hK _ ?_; clear hK K
          refine wpMix_pure (by kernel_rfl) (fun K hK => ?_); go_big_quiet_op; refine hK _ ?_; clear hK K
          refine wpMix_pure (by kernel_rfl) (fun K hK => ?_); go_big_quiet_op; refine hK _ ?_; clear hK K
          refine wpMix_pure (by kernel_rfl) (fun K hK => ?_); go_big_quiet_op; refine hK _ ?_; clear hK K
          refine wpMix_pure (by kernel_rfl) (fun K hK => ?_); go_big_quiet_op; refine hK _ ?_; clear hK K
          refine wpMix_pure (by kernel_rfl) (fun K hK => ?_); go_big_quiet_op; refine hK _ ?_; clear hK K
          refine wpMix_pure (by kernel_rfl) (fun K hK => ?_); go_big_quiet_op; refine hK _ ?_; clear hK K
          refine wpMix_pure (by kernel_rfl) (fun K hK => ?_); go_big_quiet_op; refine hK _ ?_; clear hK K
          refine wpMix_pure (by kernel_rfl) (fun K hK => ?_); go_big_quiet_op; refine hK _ ?_; clear hK K
          refine wpMix_pure (by kernel_rfl) (fun K hK => ?_); go_big_quiet_op; refine hK _ ?_; clear hK K
          refine wpMix_nil ?_
          have hb9 := hb5.trans (hS0.mono hb5.size)
          clear gc0 gc1 gc2 gc3 gc4 gd0 gd1 gd2 gd3 gd4
          go_wp2
          go_roundw
          case rel => exact ⟨i + 1, by go_num, by omega, hb9⟩
          case measure => simp [intOf]; omega

        · have e10 : ((i : Int) == (mk : Int)) = false := by rw [beq_eq_false_iff_ne]; omega
          have e20 : ¬ (i : Int) < (mk : Int) := by omega
          clear hq heq1 hgt1 hge1
          have gc0 := cell_regrown c0
          have gc1 := cell_regrown c1
          have gc2 := cell_regrown c2
          have gc3 := cell_regrown c3
          have gc4 := cell_regrown c4
          have gd0 := cell_regrown d0
          have gd1 := cell_regrown d1
          have gd2 := cell_regrown d2
          have gd3 := cell_regrown d3
          have gd4 := cell_regrown d4
          refine wp_region_mix (C := fun w' => ∃ p : Regrown, w' = Go.Sort.grow (redrawn W p.d) p.os) [true, true, true, true, true, true, true, true, true, true, true, true, true, true, true, true, true, true, true, true, true, true, true, true, true, true, true, true, true, true, true, true, true, true, true, true, true, true, true] (by kernel_rfl) (by kernel_rfl) (by kernel_rfl) (fun _ _ d _ _ h => by cases d <;> exact h) (regrown_of_below (Below.drew (Below.refl _ _))) ?_
          have hS0 : Below (W.heap.size) W W.drew := Below.drew (Below.refl _ _)
          refine wpMix_pure (by kernel_rfl) (fun K hK => ?_); go_big_quiet_op; refine hK _ ?_; clear hK K
          refine wpMix_pure (by kernel_rfl) (fun K hK => ?_); go_big_quiet_op; refine hK _ ?_; clear hK K
          refine wpMix_pure (by kernel_rfl) (fun K hK => ?_); go_big_quiet_op; refine hK _ ?_; clear hK K
          refine wpMix_pure (by kernel_rfl) (fun K hK => ?_); go_big_quiet_op; refine hK _ ?_; clear hK K
          refine wpMix_pure (by kernel_rfl) (fun K hK => ?_); go_big_quiet_op; refine hK _ ?_; clear hK K
          refine wpMix_pure (by kernel_rfl) (fun K hK => ?_); go_big_quiet_op; refine hK _ ?_; clear hK K
          refine wpMix_pure (by kernel_rfl) (fun K hK => ?_); go_big_quiet_op; refine hK _ ?_; clear hK K
          refine wpMix_pure (by kernel_rfl) (fun K hK => ?_); go_big_quiet_op; refine hK _ ?_; clear hK K
          refine wpMix_pure (by kernel_rfl) (fun K hK => ?_); go_big_quiet_op; refine hK _ ?_; clear hK K
          refine wpMix_pure (by kernel_rfl) (fun K hK => ?_); go_big_quiet_op; refine hK _ ?_; clear hK K
          refine wpMix_pure (by kernel_rfl) (fun K hK => ?_); go_big_quiet_op; refine hK _ ?_; clear hK K
          refine wpMix_pure (by kernel_rfl) (fun K hK => ?_); go_big_quiet_op; refine hK _ ?_; clear hK K
          refine wpMix_skip (by kernel_rfl) (fun K hK => ?_)
          simp only [Act.put, List.setIfInBounds_toArray, List.set_cons_zero, List.set_cons_succ]
          refine hK _ ?_; clear hK K
          refine wpMix_skip (by kernel_rfl) (fun K hK => ?_)
          simp only [Act.put, List.setIfInBounds_toArray, List.set_cons_zero, List.set_cons_succ]
          refine hK _ ?_; clear hK K
          refine wpMix_skip (by kernel_rfl) (fun K hK => ?_)
          simp only [Act.put, List.setIfInBounds_toArray, List.set_cons_zero, List.set_cons_succ]
          refine hK _ ?_; clear hK K
          refine wpMix_pure (by kernel_rfl) (fun K hK => ?_); go_big_quiet_op; refine hK _ ?_; clear hK K
          refine wpMix_pure (by kernel_rfl) (fun K hK => ?_); go_big_quiet_op; refine hK _ ?_; clear hK K
          refine wpMix_pure (by kernel_rfl) (fun K hK => ?_); go_big_quiet_op; refine hK _ ?_; clear hK K
          refine wpMix_pure (by kernel_rfl) (fun K hK => ?_); go_big_quiet_op; refine hK _ ?_; clear hK K
          refine wpMix_pure (by kernel_rfl) (fun K hK => ?_); go_big_quiet_op; refine hK _ ?_; clear hK K
          refine wpMix_pure (by kernel_rfl) (fun K hK => ?_); go_big_quiet_op; refine hK _ ?_; clear hK K
          refine wpMix_pure (by kernel_rfl) (fun K hK => ?_); go_big_quiet_op; refine hK _ ?_; clear hK K
          refine wpMix_skip (by kernel_rfl) (fun K hK => ?_)
          simp only [Act.put, List.setIfInBounds_toArray, List.set_cons_zero, List.set_cons_succ]
          refine hK _ ?_; clear hK K
          refine wpMix_skip (by kernel_rfl) (fun K hK => ?_)
          simp only [Act.put, List.setIfInBounds_toArray, List.set_cons_zero, List.set_cons_succ]
          refine hK _ ?_; clear hK K
          refine wpMix_skip (by kernel_rfl) (fun K hK => ?_)
          simp only [Act.put, List.setIfInBounds_toArray, List.set_cons_zero, List.set_cons_succ]
          refine hK _ ?_; clear hK K
          refine wpMix_pure (by kernel_rfl) (fun K hK => ?_); go_big_quiet_op; refine hK _ ?_; clear hK K
          refine wpMix_pure (by kernel_rfl) (fun K hK => ?_); go_big_quiet_op; refine hK _ ?_; clear hK K
          refine wpMix_pure (by kernel_rfl) (fun K hK => ?_); go_big_quiet_op; refine hK _ ?_; clear hK K
          refine wpMix_pure (by kernel_rfl) (fun K hK => ?_); go_big_quiet_op; refine hK _ ?_; clear hK K
          refine wpMix_pure (by kernel_rfl) (fun K hK => ?_); go_big_quiet_op; refine hK _ ?_; clear hK K
          refine wpMix_pure (by kernel_rfl) (fun K hK => ?_); go_big_quiet_op; refine hK _ ?_; clear hK K
          refine wpMix_pure (by kernel_rfl) (fun K hK => ?_); go_big_quiet_op; refine hK _ ?_; clear hK K
          refine wpMix_pure (by kernel_rfl) (fun K hK => ?_); go_big_quiet_op; refine hK _ ?_; clear hK K
          refine wpMix_pure (by kernel_rfl) (fun K hK => ?_); go_big_quiet_op; refine hK _ ?_; clear hK K
          refine wpMix_pure (by kernel_rfl) (fun K hK => ?_); go_big_quiet_op; refine hK _ ?_; clear hK K
          refine wpMix_pure (by kernel_rfl) (fun K hK => ?_); go_big_quiet_op; refine hK _ ?_; clear hK K
          refine wpMix_pure (by kernel_rfl) (fun K hK => ?_); go_big_quiet_op; refine hK _ ?_; clear hK K
          refine wpMix_pure (by kernel_rfl) (fun K hK => ?_); go_big_quiet_op; refine hK _ ?_; clear hK K
          refine wpMix_pure (by kernel_rfl) (fun K hK => ?_); go_big_quiet_op; refine hK _ ?_; clear hK K
          refine wpMix_nil ?_
          have hb9 := hb5.trans (hS0.mono hb5.size)
          clear gc0 gc1 gc2 gc3 gc4 gd0 gd1 gd2 gd3 gd4
          go_wp2
          go_roundw
          case rel => exact ⟨i + 1, by go_num, by omega, hb9⟩
          case measure => simp [intOf]; omega
end Go.Proofs.YtphljobklilbdaaGreatDoor

namespace Go.Proofs.YtphljobklilbdaaGreatDoor
open Go.RowKit Go.WideShapes Go.ChangeShapes Go.ChangeAt

set_option maxRecDepth 100000 in
theorem law_liftedL {F : FuncId} {fn : Func} {s : ChangeSpec} (laid : List (String × DataW Unit)) (os : Os) (started : os.Started) (H : Type) (enc : TypeId × Value → H)
    (hfn : Tryz.checked.prog.funcs[F]? = some fn) (noInit : Tryz.checked.prog.inits.idxOf? F = none)
    (witness : ∃ (w : World) (tape : Tape) (i : Input), w.os = os ∧ (w.forCall tape i).Shaped Tryz.checked.prog ∧ i.vars = [] ∧ Input.okWide Tryz.checked.prog (w.forCall tape i) .any w.heap.size F i ∧
      ((s.pre enc Tryz.checked.prog fn [] false (w.forCall tape i).memory i.args ∧ laidMetH Tryz.checked.prog laid (w.forCall tape i).memory) ∧ sizedMet enc Tryz.checked.prog fn (OpenSpec.ofChange s) false (w.forCall tape i).memory i.args) ∧ ({} : Assume).holds Tryz.checked.prog (lone (Frame.enter Tryz.checked.prog F i.args .normal) [] (w.forCall tape i)))
    (hs : s.vars = []) (hres : fn.resultTypes = #[4]) (hread : ∀ t ∈ fn.params.toList, Tryz.prog.readableRec t = true ∧ t < Tryz.prog.types.size)
    (hspec : ∀ ds : List (DataW H), ds.length = fn.params.toList.length → s.fn H ds = { results := [.lit (.bool true)], args := ds })
    (walk : ∀ (W : World) (args : Array Value) (ds : List (DataW H)) (p : List MemPlace), W.ShapedOpen Tryz.prog → laidMetH Tryz.prog laid W → (∀ (j : Nat) t v, fn.params[j]? = some t → args[j]? = some v → ∃ base, Value.okWide Tryz.prog W .any base t v) →
      DataW.TrodAll enc Tryz.prog W 0 (fun _ => true) true fn.params.toList args.toList ds p → W.noneFrozen p → Calls Tryz.prog F args W fun e W' => e = .returned (.bool true) ∧ Below W.heap.size W W') :
    ReturnsInHanded {} Tryz.checked os F .any (fun w args => (s.pre enc Tryz.checked.prog fn [] false w args ∧ laidMetH Tryz.checked.prog laid w) ∧ sizedMet enc Tryz.checked.prog fn (OpenSpec.ofChange s) false w args) (s.post enc Tryz.checked.prog fn false true false false) := by
  refine returnsInHanded_of_calls (C := Tryz.checked) Tryz.own started noInit witness ?_
  intro w tape i _ hsh _ hok hpre hholds
  obtain ⟨_, _, _, fn', hfn', _, _, _, _, hval⟩ := hok
  have e : fn' = fn := Option.some.inj (hfn'.symm.trans hfn)
  subst e
  obtain ⟨⟨⟨ds, gs, before, hw, hc⟩, hx⟩, hz⟩ := hpre
  have hW := DataW.Whole.of_heap (w' := w.forCall tape i) (by rfl) hw
  have hX : laidMetH Tryz.prog laid (w.forCall tape i) := laidMetH.of_heap (by rfl) hx
  generalize w.forCall tape i = W at *
  have hW' := hW
  obtain ⟨p, q, hA, hV, hpq, hfz, hnd⟩ := hW
  rw [hs] at hV
  obtain ⟨rfl, rfl⟩ := trodVars_none hV
  rw [List.append_nil] at hpq
  subst hpq
  refine (walk W i.args ds _ hsh hX (fun j t v h1 h2 => ⟨w.heap.size, hval j t v h1 h2⟩) hA hfz).mono fun e W' ⟨he, hb⟩ => ?_
  subst he
  have hsp : s.fn H (ds ++ []) = { results := [.lit (.bool true)], args := ds } := by
    rw [List.append_nil]; exact hspec ds (trodAll_len _ _ _ _ hA)
  have hlt := fun x hx => hW'.lt x hx
  refine ChangeSpec.post_blind (W := W) ?_
  refine post_of_below (pa := before) (pv := []) hW' (fun b sp hd => ?_) (fun sp h => ?_) (fun sp h => ?_) (by simp) hb ?_
  · rw [hsp, hres]; exact trodAll_mk1 (shut_bool Tryz.underlying4 _)
  · rw [hsp]; exact trodAll_below Tryz.laidOut hb _ _ _ _ hread hA hlt h
  · rw [hsp, hs]; rfl
  · rw [hres]; exact fun j t r h1 h2 => ok_one (f := fn') hres rfl (okWide_bool_mk Tryz.underlying4 _) j t r (by rw [hres]; exact h1) (by rw [hres]; exact h2)
end Go.Proofs.YtphljobklilbdaaGreatDoor

namespace Go.Proofs.YtphljobklilbdaaGreatDoor
noncomputable def doorWorld (os : Os) : World := (World.doorLaid Tryz.prog 72 os).setRow 4 (Go.Pinned.utf8FirstZ.map (fun z : Nat => Value.int .u8 (z : Int))).toArray
end Go.Proofs.YtphljobklilbdaaGreatDoor

namespace Go.Proofs.YtphljobklilbdaaGreatDoor
open Go.RowKit Go.WideShapes Go.ChangeShapes Go.ChangeAt Go.Deep

/-- Whatever the form's reader reads at type t reads by E. -/
def Opens {α : Type} (t : TypeId) (E : Cod α) : Prop :=
  ∀ {H : Type} {enc : TypeId × Value → H} {w : World} {n : Nat} {cs : List Value} {x : DataW H × List MemPlace},
    DataW.trod enc Tryz.prog w 0 (fun _ => true) true n t cs = some x → w.noneFrozen x.2 → ∃ y fp, E.rd w cs y fp

theorem opens_int {t : TypeId} (ht : Tryz.prog.underlying t = some (.int .i64)) : Opens t fInt.cod := by
  intro H enc w n cs x h _
  obtain ⟨k, rfl, rfl, wk⟩ := DataW.trod_int ht h
  refine ⟨k, [], rfl, ?_, rfl⟩
  exact bounds_i64 wk
theorem opens_str {t : TypeId} (ht : Tryz.prog.underlying t = some .string) : Opens t fStr.cod := by
  intro H enc w n cs x h _
  obtain ⟨s, rfl, rfl, hs⟩ := DataW.trod_string ht h
  exact ⟨s, [], rfl, by unfold maxLen at hs; exact hs, rfl⟩
theorem opens_bool {t : TypeId} (ht : Tryz.prog.underlying t = some .bool) : Opens t fBool.cod := by
  intro H enc w n cs x h _
  obtain ⟨s, rfl, rfl⟩ := DataW.trod_bool ht h
  exact ⟨s, [], rfl, trivial, rfl⟩

theorem add_none (b off x y : Nat) : ((⟨b, off, none⟩ : Addr).add x).add y = ⟨b, off + x + y, none⟩ := by
  unfold Addr.add
  by_cases hx : x = 0 <;> by_cases hy : y = 0 <;> simp [hx, hy]

theorem opens_slice {α : Type} {E : Cod α} {t e : TypeId} (ht : Tryz.prog.underlying t = some (.slice e)) (hn : Tryz.prog.cellsOf e = E.n) (he : Opens e E) : Opens t E.slice := by
  intro H enc w n cs x h hfz
  rcases open_slice ht h with ⟨rfl, rfl⟩ | ⟨a, len, cap, m, n', D, Pl, rfl, hb, hl, hm, hmm, hx, hi⟩
  · exact ⟨[], [], _, rfl, none, 0, rfl, by simp, by simp [maxLen], .inl ⟨rfl, rfl⟩⟩
  · simp only [if_true] at hmm
    subst hmm
    rcases Nat.eq_zero_or_pos len with h0 | h0
    · subst h0
      exact ⟨[], [], _, rfl, some a, m, rfl, by simp, hm, .inl ⟨rfl, rfl⟩⟩
    · rw [hn] at hi
      have hspot : a = ⟨a.block, a.off, none⟩ := by
        obtain ⟨cs', hc, _⟩ := hi 0 (by omega)
        obtain ⟨_, hcl, hat⟩ := World.cells?_some hc
        have h1 := hat 0 E.pos
        have hps := E.pos
        rw [List.getElem?_eq_getElem (by omega)] at h1
        have h2 : w.cell? a = some cs'[0] := by simpa [Addr.add] using h1
        have := World.cell?_spot h2
        cases a; simp_all
      have hel : ∀ i : Fin len, ∃ p : α × List Nat × List Value, (∀ j, j < E.n → w.cell? ⟨a.block, a.off + i.1 * E.n + j, none⟩ = p.2.2[j]?) ∧ (∀ j, j < E.n → w.frozen? ⟨a.block, a.off + i.1 * E.n + j, none⟩ = false) ∧ E.rd w p.2.2 p.1 p.2.1 := by
        intro ⟨i, hil⟩
        obtain ⟨cs', hc, htr⟩ := hi i (by omega)
        obtain ⟨_, hcl, hat⟩ := World.cells?_some hc
        have hsub : ∀ pl ∈ Pl i, pl ∈ x.2 := by
          intro pl hpl
          rw [hx]
          exact List.mem_append_right _ (List.mem_flatMap.2 ⟨i, by simp; omega, hpl⟩)
        obtain ⟨y, fp, hy⟩ := he htr (fun b off hmem => hfz b off (hsub _ hmem))
        refine ⟨⟨y, fp, cs'⟩, fun j hj => ?_, fun j hj => ?_, hy⟩
        · have := hat j hj
          rw [hspot, add_none] at this
          exact this
        · refine hfz _ _ ?_
          rw [hx]
          refine List.mem_append_left _ ?_
          unfold MemPlace.row
          refine List.mem_map.2 ⟨i * E.n + j, ?_, by rw [Nat.add_assoc]⟩
          rw [List.mem_range, hn]
          have : (i + 1) * E.n ≤ m * E.n := Nat.mul_le_mul_right _ (by omega)
          rw [Nat.succ_mul] at this
          omega
      obtain ⟨f, hf⟩ := Classical.axiomOfChoice hel
      have hblk : a.block < w.heap.size := by
        obtain ⟨h1, _, h3⟩ := hf ⟨0, h0⟩
        have h1 := h1 0 E.pos
        have h4 := E.len h3
        have hps := E.pos
        rw [List.getElem?_eq_getElem (by omega)] at h1
        exact block_lt_of_cell (a := ⟨a.block, _, none⟩) h1
      refine ⟨List.ofFn fun i => (f i).1, a.block :: (List.range len).flatMap fun i => if h : i < len then (f ⟨i, h⟩).2.1 else [], _, rfl, some a, m, by simp, by simpa using hl, hm,
        .inr ⟨a.block, a.off, _, by rw [← hspot], hblk, by rw [List.length_ofFn], fun i hil => ?_⟩⟩
      rw [List.length_ofFn] at hil
      obtain ⟨h1, h2, h3⟩ := hf ⟨i, hil⟩
      refine ⟨(f ⟨i, hil⟩).2.2, h1, h2, ?_⟩
      simpa [hil] using h3

/-- A struct of fields of one cell each. -/
theorem opens_fields {t : TypeId} {fs : Array Field} (ht : Tryz.prog.underlying t = some (.struct fs)) (hone : oneCellFields Tryz.prog fs = true) (hC : Tryz.prog.cellsOf t = fs.size)
    {H : Type} {enc : TypeId × Value → H} {w : World} {n : Nat} {cs : List Value} {x : DataW H × List MemPlace} (h : DataW.trod enc Tryz.prog w 0 (fun _ => true) true n t cs = some x) (hfz : w.noneFrozen x.2) :
    cs.length = fs.size ∧ ∀ (j : Nat) (f : Field), fs[j]? = some f → ∃ (v : Value) (m : Nat) (y : DataW H × List MemPlace), cs[j]? = some v ∧ DataW.trod enc Tryz.prog w 0 (fun _ => true) true m f.type [v] = some y ∧ w.noneFrozen y.2 := by
  obtain ⟨xs, n', rfl, hx, hl, hxl, hf⟩ := DataW.trod_struct ht h
  refine ⟨hl.trans hC, fun j f hj => ?_⟩
  have hjl : j < fs.size := (Array.getElem?_eq_some_iff.1 hj).1
  obtain ⟨ho, hk⟩ := hone_of hone j f hj
  have h1 := hf j f hj
  rw [ho, hk] at h1
  have hcl : j < cs.length := by rw [hl, hC]; exact hjl
  have e1 : (cs.drop j).take 1 = [cs[j]] := by
    rw [List.drop_eq_getElem_cons hcl]; rfl
  rw [e1, List.getElem?_eq_getElem (by omega)] at h1
  refine ⟨cs[j], n', xs[j], List.getElem?_eq_getElem hcl, h1, fun b off hm => hfz b off ?_⟩
  rw [hx]
  exact List.mem_flatMap.2 ⟨xs[j], List.getElem_mem _, hm⟩

/-- An argument that came in: its value reads. -/
theorem Opens.arg {α : Type} {t : TypeId} {E : Cod α} (ho : Opens t E) {H : Type} {enc : TypeId × Value → H} {w : World} {v : Value} {d : DataW H} {ps : List MemPlace}
    (h : DataW.Trod enc Tryz.prog w 0 (fun _ => true) true t v d ps) (hfz : w.noneFrozen ps) : ∃ y fp, E.rd w v.cells.toList y fp := by
  obtain ⟨n, hn⟩ := h
  exact ho hn hfz
theorem Opens.sl {α : Type} {t : TypeId} {E : Cod α} (ho : Opens t E.slice) {H : Type} {enc : TypeId × Value → H} {w : World} {v : Value} {d : DataW H} {ps : List MemPlace}
    (h : DataW.Trod enc Tryz.prog w 0 (fun _ => true) true t v d ps) (hfz : w.noneFrozen ps) {A : Option Addr} {len cap : Nat} (hv : v = .slice A len cap) : ∃ y fp, Sl E w v y fp := by
  obtain ⟨y, fp, u, hu, hs⟩ := ho.arg h hfz
  subst hv
  simp [Value.cells] at hu
  subst hu
  exact ⟨y, fp, hs⟩

end Go.Proofs.YtphljobklilbdaaGreatDoor

namespace Go.Proofs.YtphljobklilbdaaGreatDoor
open Go.RowKit Go.WideShapes Go.ChangeShapes Go.ChangeAt Go.Deep

set_option maxRecDepth 100000 in
set_option maxHeartbeats 400000 in
theorem opens_byte {t : TypeId} (ht : Tryz.prog.underlying t = some (.int .u8)) : Opens t fByte.cod := by
  intro H enc w n cs x h _
  obtain ⟨k, rfl, rfl, wk⟩ := DataW.trod_int ht h
  have hk : 0 ≤ k ∧ k ≤ 255 := by
    have h1 : IntKind.u8.min = 0 := by decide
    have h2 : IntKind.u8.max = 255 := by decide
    have := wk
    simp [Lit.wf, h1, h2] at this
    omega
  refine ⟨UInt8.ofNat k.toNat, [], ?_, trivial, rfl⟩
  show _ = [Value.int .u8 _]
  rw [UInt8.toNat_ofNat']
  congr 2
  omega
end Go.Proofs.YtphljobklilbdaaGreatDoor
