/- Parts of the proof: Rw, Dx, B10, WSkill, LawL, Dr, Open, Ob. -/
import Derived.Test.YthabmofkjdiccaaGreatDoorG06
import Derived.Test.YthabmofkjdiccaaGreatDoorG04
import Derived.Test.YthabmofkjdiccaaGreatDoorG05
import Derived.Test.YthabmofkjdiccaaGreatDoorG02
import Derived.Test.YthabmofkjdiccaaGreatDoorG01
import Derived.Deep.CutRange
import Derived.LaidMore
import Derived.Stop.Joined
import Derived.Laws.Tables
import GoSem.PinnedTables
import Derived.Deep.Slices
import Derived.Deep.Fields
import Derived.OpenShut
namespace Go.Proofs.YthabmofkjdiccaaGreatDoor
open Go.RowKit
set_option linter.unusedVariables false

/-- The text of a name and numbers. -/
def widT (i : ByteArray) (xs : List Int) : ByteArray := i ++ ⟨#[32]⟩ ++ listT xs
theorem widT_cut {i : ByteArray} {xs : List Int} (hi : ∀ b ∈ i.data.toList, b ≠ 32) (hf : fitsL xs = true) : cA (widT i xs) = i ∧ cZ (widT i xs) = listS xs := by
  have e : listT xs = listS xs := by unfold listT; rw [if_pos hf]
  refine words_back ?_
  refine (splS_of ?_).symm
  unfold widT
  rw [e, List.map_cons, List.map_cons, List.map_nil, Go.Joins.data_append, Go.Joins.data_append]
  rw [show i.data.toList ++ (⟨#[32]⟩ : ByteArray).data.toList ++ (listS xs).data.toList = i.data.toList ++ 32 :: (listS xs).data.toList by simp]
  rw [splL_app 32 _ _ hi, splL_none (listS_noblank xs)]
theorem fitsL_of {xs : List Int} (hl : xs.length ≤ 64) (h : ∀ x ∈ xs, -1000000000000 ≤ x ∧ x ≤ 1000000000000) : fitsL xs = true := by
  unfold fitsL
  rw [decide_eq_true hl, Bool.true_and, List.all_eq_true]
  exact fun x hx => inB_true.2 (h x hx)
set_option maxRecDepth 100000 in
set_option maxHeartbeats 4000000 in
theorem readWithId_of (i : ByteArray) (xs : List Int) (k : Nat) (w : World) (hi : ∀ b ∈ i.data.toList, b ≠ 32) (hiz : i.size ≤ 100) (hf : fitsL xs = true) (hk : xs.length = k) (m : Int) (hm : w.cell? ⟨0, 0, none⟩ = some (.int .i64 m)) (ht : RdTabs w) :
    Calls Tryz.prog 55 #[.string (widT i xs), .int .i64 k] w fun e w' => ∃ v, e = .returned (.tuple #[.string i, v, .bool true]) ∧ New fInt.cod w v xs w' := by
  have hxo : ∀ x ∈ xs, fInt.ok x := fun x hx => by
    unfold fitsL at hf
    rw [Bool.and_eq_true, List.all_eq_true] at hf
    have := inB_true.1 (hf.2 x hx)
    show _ ∧ _; omega
  have hl64 : xs.length ≤ 64 := by
    unfold fitsL at hf
    rw [Bool.and_eq_true] at hf
    exact of_decide_eq_true hf.1
  have hsz := listS_size hxo
  have hlt : listT xs = listS xs := by unfold listT; rw [if_pos hf]
  have hs : (widT i xs).size ≤ 1048576 := by
    unfold widT
    rw [hlt, ByteArray.size_append, ByteArray.size_append]
    show _ + 1 + _ ≤ _; omega
  obtain ⟨hA, hZ⟩ := widT_cut hi hf
  have hcut : Calls Tryz.prog 88 #[.string (widT i xs), .string ⟨#[32]⟩] w fun e w' => e = .returned (.tuple #[.string (cA (widT i xs)), .string (cZ (widT i xs)), .bool (Lib.cut (widT i xs).data.toList [32]).2.2]) ∧ ∃ n, w' = w.drewN n := Tryz.strings_Cut _ ⟨#[32]⟩ m w (by omega) hm
  rw [hA, hZ] at hcut
  have hr := rlF_list hf
  generalize (Lib.cut (widT i xs).data.toList [32]).2.2 = fnd at *
  generalize widT i xs = s at *
  clear hA hZ hlt
  go_enter Tryz.func55, Tryz.ntmps55
  go_wp2_with fail
  refine hcut.mono ?_
  rintro e w' ⟨rfl, n, rfl⟩
  have hW : Below w.heap.size w (w.drewN n) := below_drewN (Below.refl _ _) _
  generalize hwn : w.drewN n = wn at *
  go_wp2_with fail
  refine (implReadList_any (listS xs) m _ (by omega) (cell_below hW hm) (ht.below hW)).mono ?_
  rintro e w1 ⟨v1, rfl, hn1⟩
  have hn1' := hn1.later hW
  rw [hr] at hn1'
  have hn2 : New fInt.cod w v1 xs w1 := hn1'
  obtain ⟨⟨fpy, hsy, _, _⟩, _⟩ := id hn2
  obtain ⟨A, cap, rfl, _, _⟩ := hsy.form
  rw [hr, show (some xs : Option (List Int)).isSome = true from rfl]
  have hn3 : New fInt.cod w (.slice A k cap) xs w1 := by rw [← hk]; exact hn2
  have e5 : ((xs.length : Int) == (k : Int)) = true := by rw [beq_iff_eq]; omega
  have e6 : ((xs.length : Int) != (k : Int)) = false := by unfold bne; rw [e5]; rfl
  clear hn1 hn1' hsy hr hn2
  go_wp2
  go_ret3
  exact ⟨_, rfl, by first | exact hn3 | (rw [hk]; exact hn3)⟩
end Go.Proofs.YthabmofkjdiccaaGreatDoor

namespace Go.Proofs.YthabmofkjdiccaaGreatDoor
open Go.RowKit
set_option linter.unusedVariables false

theorem dgt_ok (k : Nat) (hk : k < 10) : digB (UInt8.ofNat (48 + k)) = true ∧ (UInt8.ofNat (48 + k)).toNat = 48 + k := by
  have e : (UInt8.ofNat (48 + k)).toNat = 48 + k := by rw [UInt8.toNat_ofNat']; omega
  exact ⟨digB_iff.2 (by omega), e⟩
theorem dgt_nb (k : Nat) (hk : k < 10) : UInt8.ofNat (48 + k) ≠ 32 := by
  intro e
  have := congrArg UInt8.toNat e
  rw [UInt8.toNat_ofNat'] at this
  simp at this
  omega
theorem fN_four {a b c d : Nat} (ha : a < 10) (hb : b < 10) (hc : c < 10) (hd : d < 10) : fN [UInt8.ofNat (48 + a), UInt8.ofNat (48 + b), UInt8.ofNat (48 + c), UInt8.ofNat (48 + d)] = ((((a * 10 + b) * 10 + c) * 10 + d : Nat) : Int) := by
  rw [fN_ok (by rw [List.all_cons, List.all_cons, List.all_cons, List.all_cons, List.all_nil, (dgt_ok a ha).1, (dgt_ok b hb).1, (dgt_ok c hc).1, (dgt_ok d hd).1]; rfl)]
  rw [valL_cons, valL_cons, valL_cons, valL_cons, valL_nil, (dgt_ok a ha).2, (dgt_ok b hb).2, (dgt_ok c hc).2, (dgt_ok d hd).2]
  omega
theorem fN_two {a b : Nat} (ha : a < 10) (hb : b < 10) : fN [UInt8.ofNat (48 + a), UInt8.ofNat (48 + b)] = ((a * 10 + b : Nat) : Int) := by
  rw [fN_ok (by rw [List.all_cons, List.all_cons, List.all_nil, (dgt_ok a ha).1, (dgt_ok b hb).1]; rfl)]
  rw [valL_cons, valL_cons, valL_nil, (dgt_ok a ha).2, (dgt_ok b hb).2]
  omega
theorem dayL_form {y m d : Int} (h : dateOk y m d) : dayL y m d = [UInt8.ofNat (48 + y.toNat / 1000), UInt8.ofNat (48 + y.toNat / 100 % 10), UInt8.ofNat (48 + y.toNat / 10 % 10), UInt8.ofNat (48 + y.toNat % 10), 45, UInt8.ofNat (48 + m.toNat / 10), UInt8.ofNat (48 + m.toNat % 10), 45, UInt8.ofNat (48 + d.toNat / 10), UInt8.ofNat (48 + d.toNat % 10)] := by
  unfold dayL
  rw [yearL h.1.1 h.1.2]
  rfl
theorem rdF_back {y m d : Int} (h : dateOk y m d) : rdF (dayS y m d) = some (numD y m d) := by
  obtain ⟨⟨h1, h2⟩, ⟨h3, h4⟩, h5, h6⟩ := id h
  have hlm := lenM_pos y h3 h4
  have hl : (dayS y m d).data.toList = [UInt8.ofNat (48 + y.toNat / 1000), UInt8.ofNat (48 + y.toNat / 100 % 10), UInt8.ofNat (48 + y.toNat / 10 % 10), UInt8.ofNat (48 + y.toNat % 10), 45, UInt8.ofNat (48 + m.toNat / 10), UInt8.ofNat (48 + m.toNat % 10), 45, UInt8.ofNat (48 + d.toNat / 10), UInt8.ofNat (48 + d.toNat % 10)] := by
    unfold dayS
    rw [dayL_form h]
  have ey : yF (dayS y m d).data.toList = y := by
    rw [hl]
    show fN [_, _, _, _] = y
    rw [fN_four (by omega) (by omega) (by omega) (by omega)]; omega
  have em : mF (dayS y m d).data.toList = m := by
    rw [hl]
    show fN [_, _] = m
    rw [fN_two (by omega) (by omega)]; omega
  have ed : dF (dayS y m d).data.toList = d := by
    rw [hl]
    show fN [_, _] = d
    rw [fN_two (by omega) (by omega)]; omega
  rw [rdF_some (dayS_size h) (by rw [hl]; rfl) (by rw [hl]; rfl) (by rw [ey, em, ed]; exact h), ey, em, ed]
theorem dayS_noblank {y m d : Int} (h : dateOk y m d) : ∀ b ∈ (dayS y m d).data.toList, b ≠ 32 := by
  obtain ⟨⟨h1, h2⟩, ⟨h3, h4⟩, h5, h6⟩ := id h
  have hlm := lenM_pos y h3 h4
  unfold dayS
  rw [dayL_form h]
  intro b hb
  simp only [List.mem_cons, List.not_mem_nil, or_false] at hb
  rcases hb with rfl | rfl | rfl | rfl | rfl | rfl | rfl | rfl | rfl | rfl
  · exact dgt_nb _ (by omega)
  · exact dgt_nb _ (by omega)
  · exact dgt_nb _ (by omega)
  · exact dgt_nb _ (by omega)
  · decide
  · exact dgt_nb _ (by omega)
  · exact dgt_nb _ (by omega)
  · decide
  · exact dgt_nb _ (by omega)
  · exact dgt_nb _ (by omega)
/-- The text of a valid day of verification is read back. -/
theorem rvF_back {x : DVerified} {y m d : Int} (hv : verB x = true) (h : dateOk y m d) (hd : x.day = numD y m d) : rvF (vtF x (dayS y m d)) = some x := by
  have hv2 := hv
  unfold verB inB at hv2
  simp only [Bool.and_eq_true, decide_eq_true_eq] at hv2
  have hf : fitsL [x.told, x.seen] = true := fitsL_of (by show 2 ≤ 64; decide) (fun z hz => by
    simp only [List.mem_cons, List.not_mem_nil, or_false] at hz
    rcases hz with rfl | rfl <;> omega)
  have e : vtF x (dayS y m d) = widT (dayS y m d) [x.told, x.seen] := by unfold vtF widT; rw [if_pos hv]
  rw [e]
  obtain ⟨hA, hZ⟩ := widT_cut (dayS_noblank h) hf
  have hr := rlF_list hf
  rw [rvF_yes (d := numD y m d) (p := x.told) (q := x.seen) (by rw [hZ, oneK_some hr]; rfl) (by rw [hZ]; exact numK_some hr rfl) (by rw [hA]; exact rdF_back h) (by rw [← hd]; exact hv), ← hd]
theorem vtF_size {x : DVerified} {t : ByteArray} (hok : fVerified.ok x) (ht : t.size = 10) : (vtF x t).size ≤ 1048576 := by
  unfold vtF
  split
  · have hl : ∀ y ∈ [x.told, x.seen], fInt.ok y := fun y hy => by
      simp only [List.mem_cons, List.not_mem_nil, or_false] at hy
      rcases hy with rfl | rfl
      · exact hok.2.1
      · exact hok.2.2
    have hs := listS_size hl
    unfold listT
    split
    · rw [ByteArray.size_append, ByteArray.size_append, ht]
      have e1 : (⟨#[32]⟩ : ByteArray).size = 1 := rfl
      have e2 : [x.told, x.seen].length = 2 := rfl
      rw [e1]
      rw [e2] at hs
      omega
    · rw [ByteArray.size_append, ByteArray.size_append, ht]
      show 10 + 1 + 0 ≤ _; omega
  · show 0 ≤ _; omega
end Go.Proofs.YthabmofkjdiccaaGreatDoor

namespace Go.Proofs.YthabmofkjdiccaaGreatDoor
open Go.RowKit
set_option linter.unusedVariables false

set_option maxRecDepth 100000 in
set_option maxHeartbeats 400000 in
theorem b10Long_any (v : Value) (xs : List UInt8) (fp : List Nat) (w : World) (hx : Sl fByte.cod w v xs fp) :
    Calls Tryz.prog 5 #[v] w fun e w' => e = .returned (.bool (decide (1048576 < xs.length))) ∧ w = w' := by
  obtain ⟨A, cap, rfl, hlen, hcap⟩ := hx.form
  go_enter Tryz.func5, Tryz.ntmps5
  go_wp2
  go_ret
  refine ⟨?_, rfl⟩
  show Ending.returned (.bool _) = _
  congr 2
  rw [Bool.eq_iff_iff]
  simp <;> omega
/-- The number at index i lies in 0 .. n-1, and is greater than the one before it. -/
def riseAt (xs : List Int) (n : Int) (i : Nat) : Bool := inB (xs.getD i 0) 0 (n - 1) && (i == 0 || decide (xs.getD (i - 1) 0 < xs.getD i 0))
def risesB (xs : List Int) (n : Int) : Bool := allIdx (riseAt xs n) xs.length
theorem riseAt_in {xs : List Int} {n : Int} {k : Nat} (h : k < xs.length) : riseAt xs n k = (inB xs[k] 0 (n - 1) && (k == 0 || decide (xs.getD (k - 1) 0 < xs[k]))) := by
  unfold riseAt; rw [getD_of_lt h]
theorem riseAt_neg {xs : List Int} {n : Int} {k : Nat} (h : k < xs.length) (h1 : xs[k] < 0) : riseAt xs n k = false := by
  rw [riseAt_in h]; unfold inB; rw [decide_eq_false (by omega)]; rfl
theorem riseAt_far {xs : List Int} {n : Int} {k : Nat} (h : k < xs.length) (h1 : n ≤ xs[k]) : riseAt xs n k = false := by
  rw [riseAt_in h]; unfold inB; rw [decide_eq_false (by omega : ¬ xs[k] ≤ n - 1)]; simp
theorem riseAt_low {xs : List Int} {n : Int} {m : Nat} (h : m + 1 < xs.length) (h1 : xs[m + 1] ≤ xs[m]) : riseAt xs n (m + 1) = false := by
  rw [riseAt_in h, show m + 1 - 1 = m from rfl, getD_of_lt (by omega : m < xs.length), decide_eq_false (by omega)]
  simp
theorem riseAt_zero {xs : List Int} {n : Int} (h : 0 < xs.length) (h0 : (0 : Int) ≤ xs[0]) (h1 : xs[0] < n) : riseAt xs n 0 = true := by
  rw [riseAt_in h]; unfold inB; rw [decide_eq_true h0, decide_eq_true (by omega)]; rfl
theorem riseAt_ok {xs : List Int} {n : Int} {m : Nat} (h : m + 1 < xs.length) (h0 : (0 : Int) ≤ xs[m + 1]) (h1 : xs[m + 1] < n) (h2 : xs[m] < xs[m + 1]) : riseAt xs n (m + 1) = true := by
  rw [riseAt_in h, show m + 1 - 1 = m from rfl, getD_of_lt (by omega : m < xs.length), decide_eq_true h2]
  unfold inB; rw [decide_eq_true h0, decide_eq_true (by omega)]; simp
set_option maxRecDepth 100000 in
set_option maxHeartbeats 2000000 in
theorem b10Inside_any (v : Value) (xs : List ByteArray) (fp : List Nat) (s : ByteArray) (w : World) (hx : Sl fStr.cod w v xs fp) :
    Calls Tryz.prog 26 #[v, .string s] w fun e w' => e = .returned (.bool (memS s xs)) ∧ w = w' := by
  obtain ⟨A, cap, rfl, hlen, hcap⟩ := hx.form
  go_enter Tryz.func26, Tryz.ntmps26
  go_wp2
  go_loop [5] (fun i => ∃ k : Nat, k ≤ xs.length ∧ i = .int .i64 k ∧ Hid (NotS xs s k)) (fun i => xs.length - (intOf i).toNat)
  case atStart => exact ⟨0, Nat.zero_le _, rfl, NotS.zero⟩
  case round =>
    obtain ⟨k, hk, rfl, H0⟩ := hrel
    by_cases hlt : k < xs.length
    · obtain ⟨b, off, rfl, _, hok, hc, _⟩ := hx.cell1 rfl hlt rfl
      by_cases he : xs[k] = s
      · have HF := Lib.hid (inS hlt he)
        have e6 : (xs[k].toList == s.toList) = true := eqS_true.2 he
        clear he
        go_wp2
        go_ret
        exact ⟨ret_bool HF.out.symm, rfl⟩
      · have HS := Lib.hid (NotS.step hlt he H0.out)
        have e6 : (xs[k].toList == s.toList) = false := bytes_beq_false he
        clear he
        go_wp2
        go_round
        case rel => exact ⟨k + 1, by omega, by go_num, HS⟩
        case measure => simp [intOf]; omega
    · have HF := Lib.hid (NotS.none (by omega) H0.out)
      go_wp2
      go_ret
      exact ⟨ret_bool HF.out.symm, rfl⟩
end Go.Proofs.YthabmofkjdiccaaGreatDoor

namespace Go.Proofs.YthabmofkjdiccaaGreatDoor
open Go.RowKit
set_option linter.unusedVariables false

set_option maxRecDepth 100000 in
set_option maxHeartbeats 1000000 in
theorem specValidVer_any (v : Value) (xs : List DVerified) (fp : List Nat) (w : World) (hx : Sl fVerified.cod w v xs fp) :
    Calls Tryz.prog 17 #[v] w fun e w' => e = .returned (.bool (versB xs)) ∧ Below w.heap.size w w' := by
  go_enter Tryz.func17, Tryz.ntmps17
  go_wp2_with fail
  refine (l20Ok_any _ xs fp _ hx).mono ?_
  rintro e w1 ⟨rfl, hb⟩
  go_wp2
  go_ret
  exact ⟨rfl, hb⟩
theorem hits_law {L : List DVerified} (hv : versB L = true) : -2 ≤ (bsF L).1 ∧ (bsF L).1 ≤ 2 ∧ cntB (shB (bsF L).1) L = (bsF L).2 ∧ cntB hitV L ≤ (bsF L).2 := by
  obtain ⟨h1, h2, h3, h4⟩ := bsF_ok L
  refine ⟨h1, h2, h3.symm, ?_⟩
  rw [← cntB_congr (p := shB 0) (q := hitV) (fun x hx => sh0 (vers_one hv x hx))]
  exact h4
set_option maxRecDepth 100000 in
set_option maxHeartbeats 16000000 in
theorem walkSkill (v0 : Value) (xs0 : List UInt8) (fp0 : List Nat) (v1 : Value) (xs1 : List UInt8) (fp1 : List Nat) (w : World) (hx0 : Sl fByte.cod w v0 xs0 fp0) (hx1 : Sl fByte.cod w v1 xs1 fp1) (hsh : w.ShapedOpen Tryz.prog) (hrd : RdTabs w) :
    Calls Tryz.prog 3 #[v0, v1] w fun e w' => YesR w e w' := by
  obtain ⟨mx, hm⟩ := maxLen_cell hsh
  clear hsh
  go_enter Tryz.func3, Tryz.ntmps3
  go_wp2_with fail
  refine (b10Long_any _ _ _ _ hx0).mono ?_
  rintro e w' ⟨rfl, rfl⟩
  cases hl0 : decide (1048576 < xs0.length)
  case true =>
    go_wp2
    go_ret
    exact ⟨rfl, Below.refl _ _⟩
  clear hl0
  go_wp2_with fail
  refine (b10Long_any _ _ _ _ hx1).mono ?_
  rintro e w' ⟨rfl, rfl⟩
  cases hl1 : decide (1048576 < xs1.length)
  case true =>
    go_wp2
    go_ret
    exact ⟨rfl, Below.refl _ _⟩
  clear hl1
  go_wp2_with fail
  refine (DrawBestShift_any _ _ _ _ hx0).mono ?_
  rintro e w1 ⟨y, L, fl, rfl, hL, hsmL, hlL, hb1⟩
  obtain ⟨A0, k0, rfl, _, _⟩ := hL.form
  clear hx0 hsmL
  go_wp2_with fail
  refine (BestShift_any _ L fl _ hL).mono ?_
  rintro e w2 ⟨rfl, hb2⟩
  replace hL := hL.below' hb2
  replace hb2 := hb1.trans (hb2.mono hb1.size)
  go_wp2_with fail
  refine (SkillOf_any _ L fl _ hL).mono ?_
  rintro e w3 ⟨rfl, hb3⟩
  replace hL := hL.below' hb3
  replace hb3 := hb2.trans (hb3.mono hb2.size)
  go_wp2_with fail
  refine (WorstDays_any _ L fl _ hL).mono ?_
  rintro e w4 ⟨vw, rfl, ⟨⟨fw, hW, _, _⟩, hb4⟩⟩
  replace hL := hL.below' hb4
  replace hb4 := hb3.trans (hb4.mono hb3.size)
  clear hb1 hb2 hb3
  go_upto_if 55 with fail
  go_cut [6, 7, 8, 9, 10, 11, 12, 13, 14, 15, 16, 17, 18] from 29 (fun _ _ _ _ _ _ _ _ _ _ _ _ _ wx => Below w4.heap.size w4 wx)
  case first =>
    cases hv : versB L
    · have hBC : bestC L = 1 := by unfold bestC; rw [hv]; rfl
      rw [hBC]
      clear hv hBC
      go_wp2
      go_meet
      case rel => exact Below.refl _ _
    have hBC : bestC L = 0 := by unfold bestC; rw [hv]; rfl
    have hBP : bestP L = (bsF L).1 := by unfold bestP; rw [hv]; rfl
    have hBH : bestH L = (bsF L).2 := by unfold bestH; rw [hv]; rfl
    rw [hBC, hBP, hBH]
    clear hBC hBP hBH
    obtain ⟨s1, s2, s3, s4⟩ := hits_law hv
    have hva := vers_one hv
    have hl64 := versB_len hv
    have HV := Lib.hid hv
    have hS3 := Lib.hid s3
    have hsk1 : skillV L ≤ 1000 := by
      by_cases h : skillC L = 0
      · exact (skill_law h).1
      · unfold skillV; rw [if_neg h]; decide
    have hsk2 : Hid (skillC L = 0 → (skillV L == 1000) = (cntB hitV L == (L.length : Int))) := fun h => by
      have h2 := (skill_law h).2
      by_cases h3 : skillV L = 1000
      · rw [h3, h2.1 h3]; simp
      · have h4 : ¬ cntB hitV L = L.length := fun h => h3 (h2.2 h)
        rw [beq_eq_false_iff_ne.2 h3, beq_eq_false_iff_ne.2 h4]
    have hsk3 : Hid (skillC L = 0 → biasC L = 0) := fun h => by
      obtain ⟨_, h2, _⟩ := skillC_ok h
      unfold biasC; rw [hv, if_neg (by decide), if_neg (by omega)]
    clear hv s3
    generalize skillV L = SV at *
    generalize (bsF L).1 = s at *
    generalize (bsF L).2 = hits at *
    go_wp2
    go_loopw [14, 15, 16] (fun p o i wr => ∃ (k : Nat) (p0 o0 : Int), k ≤ L.length ∧ Hid (cntB hitV (L.take k) = p0) ∧ Hid (cntB (shB s) (L.take k) = o0) ∧ 0 ≤ p0 ∧ p0 ≤ k ∧ 0 ≤ o0 ∧ o0 ≤ k ∧ p = .int .i64 p0 ∧ o = .int .i64 o0 ∧ i = .int .i64 k ∧ Below w4.heap.size w4 wr) (fun _ _ i _ => L.length - (intOf i).toNat)
    case atStart => exact ⟨0, 0, 0, Nat.zero_le _, rfl, rfl, by omega, by omega, by omega, by omega, rfl, rfl, rfl, Below.refl _ _⟩
    case round =>
      obtain ⟨k, p0, o0, hk, HPk, HOk, p1, p2, o1, o2, rfl, rfl, rfl, hb⟩ := hrel
      by_cases hlt : k < L.length
      · obtain ⟨b, off, rfl, hmem, hok, hp⟩ := PVerified.elem (hL.below' hb) hlt
        obtain ⟨c0, c1, c2⟩ := id hp
        obtain ⟨v1, v2, v3, v4, _⟩ := verB_parts (hva _ (List.getElem_mem hlt))
        cases hh : hitV L[k]
        · skip
          have HP := Lib.hid ((cntB_no (p := hitV) hlt hh).trans (by rw [HPk.out]))
          have hhq : (L[k].told == L[k].seen) = false := by
            unfold hitV at hh
            rw [beq_eq_false_iff_ne]; exact of_decide_eq_false hh
          clear hh
          go_wp2
          have gc0 := cell_regrown c0
          have gc1 := cell_regrown c1
          have gc2 := cell_regrown c2
          refine wp_region_mix (C := fun w' => ∃ p : Regrown, w' = Go.Sort.grow (redrawn wr p.d) p.os) [true, true, true, true, true, true, true, true, true, true, true] (by kernel_rfl) (by kernel_rfl) (by kernel_rfl) (fun _ _ d _ _ h => by cases d <;> exact h) (regrown_of_below (Below.drew (Below.refl _ _))) ?_
          have hS0 : Below (wr.heap.size) wr wr.drew := Below.drew (Below.refl _ _)
          refine wpMix_pure (by kernel_rfl) (fun K hK => ?_); go_big_quiet_op; refine hK _ ?_; clear hK K
          refine wpMix_pure (by kernel_rfl) (fun K hK => ?_); go_big_quiet_op; refine hK _ ?_; clear hK K
          refine wpMix_pure (by kernel_rfl) (fun K hK => ?_); go_big_quiet_op; refine hK _ ?_; clear hK K
          refine wpMix_pure (by kernel_rfl) (fun K hK => ?_); go_big_quiet_op; refine hK _ ?_; clear hK K
          refine wpMix_pure (by kernel_rfl) (fun K hK => ?_); go_big_quiet_op; refine hK _ ?_; clear hK K
          refine wpMix_pure (by kernel_rfl) (fun K hK => ?_); go_big_quiet_op; refine hK _ ?_; clear hK K
          refine wpMix_pure (by kernel_rfl) (fun K hK => ?_); go_big_quiet_op; refine hK _ ?_; clear hK K
          refine wpMix_pure (by kernel_rfl) (fun K hK => ?_); go_big_quiet_op; refine hK _ ?_; clear hK K
          refine wpMix_pure (by kernel_rfl) (fun K hK => ?_); go_big_quiet_op; refine hK _ ?_; clear hK K
          refine wpMix_pure (by kernel_rfl) (fun K hK => ?_); go_big_quiet_op; refine hK _ ?_; clear hK K
          refine wpMix_pure (by kernel_rfl) (fun K hK => ?_); go_big_quiet_op; refine hK _ ?_; clear hK K
          refine wpMix_nil ?_
          have hbZ := hb.trans ((hS0).mono hb.size)
          obtain ⟨e0, e1, e2⟩ := hp.below' (hS0)
          clear gc0 gc1 gc2 hS0 c0 c1 c2 hp hb
          generalize wr.drew = WZ at *
          go_wp2
          cases hq : shB s L[k]
          · skip
            have HO := Lib.hid ((cntB_no (p := shB s) hlt hq).trans (by rw [HOk.out]))
            have hqq : (max 1 (min 5 (L[k].told + s)) == L[k].seen) = false := by
              unfold shB at hq
              rw [beq_eq_false_iff_ne]; have := of_decide_eq_false hq; omega
            clear hq
            have ge0 := cell_regrown e0
            have ge1 := cell_regrown e1
            have ge2 := cell_regrown e2
            refine wp_region_mix (C := fun w' => ∃ p : Regrown, w' = Go.Sort.grow (redrawn WZ p.d) p.os) [true, true, true, true, true, true, true, true, true, true, true, true, true, true, true] (by kernel_rfl) (by kernel_rfl) (by kernel_rfl) (fun _ _ d _ _ h => by cases d <;> exact h) (regrown_of_below (Below.drew (Below.refl _ _))) ?_
            have hS0 : Below (WZ.heap.size) WZ WZ.drew := Below.drew (Below.refl _ _)
            refine wpMix_pure (by kernel_rfl) (fun K hK => ?_); go_big_quiet_op; refine hK _ ?_; clear hK K
            refine wpMix_pure (by kernel_rfl) (fun K hK => ?_); go_big_quiet_op; refine hK _ ?_; clear hK K
            refine wpMix_pure (by kernel_rfl) (fun K hK => ?_); go_big_quiet_op; refine hK _ ?_; clear hK K
            refine wpMix_pure (by kernel_rfl) (fun K hK => ?_); go_big_quiet_op; refine hK _ ?_; clear hK K
            refine wpMix_pure (by kernel_rfl) (fun K hK => ?_); go_big_quiet_op; refine hK _ ?_; clear hK K
            refine wpMix_pure (by kernel_rfl) (fun K hK => ?_); go_big_quiet_op; refine hK _ ?_; clear hK K
            refine wpMix_pure (by kernel_rfl) (fun K hK => ?_); go_big_quiet_op; refine hK _ ?_; clear hK K
            refine wpMix_pure (by kernel_rfl) (fun K hK => ?_); go_big_quiet_op; refine hK _ ?_; clear hK K
            refine wpMix_pure (by kernel_rfl) (fun K hK => ?_); go_big_quiet_op; refine hK _ ?_; clear hK K
            refine wpMix_pure (by kernel_rfl) (fun K hK => ?_); go_big_quiet_op; refine hK _ ?_; clear hK K
            refine wpMix_pure (by kernel_rfl) (fun K hK => ?_); go_big_quiet_op; refine hK _ ?_; clear hK K
            refine wpMix_pure (by kernel_rfl) (fun K hK => ?_); go_big_quiet_op; refine hK _ ?_; clear hK K
            refine wpMix_pure (by kernel_rfl) (fun K hK => ?_); go_big_quiet_op; refine hK _ ?_; clear hK K
            refine wpMix_pure (by kernel_rfl) (fun K hK => ?_); go_big_quiet_op; refine hK _ ?_; clear hK K
            refine wpMix_pure (by kernel_rfl) (fun K hK => ?_); go_big_quiet_op; refine hK _ ?_; clear hK K
            refine wpMix_nil ?_
            go_wp2
            go_roundw
            case rel => exact ⟨k + 1, _, _, by omega, HP, HO, by omega, by omega, by omega, by omega, by go_num, by go_num, by go_num, hbZ.trans ((hS0).mono hbZ.size)⟩
            case measure => simp [intOf]; omega
          · skip
            have HO := Lib.hid ((cntB_yes (p := shB s) hlt hq).trans (by rw [HOk.out]))
            have hqq : (max 1 (min 5 (L[k].told + s)) == L[k].seen) = true := by
              unfold shB at hq
              rw [beq_iff_eq]; have := of_decide_eq_true hq; omega
            clear hq
            have ge0 := cell_regrown e0
            have ge1 := cell_regrown e1
            have ge2 := cell_regrown e2
            refine wp_region_mix (C := fun w' => ∃ p : Regrown, w' = Go.Sort.grow (redrawn WZ p.d) p.os) [true, true, true, true, true, true, true, true, true, true, true, true, true, true, true] (by kernel_rfl) (by kernel_rfl) (by kernel_rfl) (fun _ _ d _ _ h => by cases d <;> exact h) (regrown_of_below (Below.drew (Below.refl _ _))) ?_
            have hS0 : Below (WZ.heap.size) WZ WZ.drew := Below.drew (Below.refl _ _)
            refine wpMix_pure (by kernel_rfl) (fun K hK => ?_); go_big_quiet_op; refine hK _ ?_; clear hK K
            refine wpMix_pure (by kernel_rfl) (fun K hK => ?_); go_big_quiet_op; refine hK _ ?_; clear hK K
            refine wpMix_pure (by kernel_rfl) (fun K hK => ?_); go_big_quiet_op; refine hK _ ?_; clear hK K
            refine wpMix_pure (by kernel_rfl) (fun K hK => ?_); go_big_quiet_op; refine hK _ ?_; clear hK K
            refine wpMix_pure (by kernel_rfl) (fun K hK => ?_); go_big_quiet_op; refine hK _ ?_; clear hK K
            refine wpMix_pure (by kernel_rfl) (fun K hK => ?_); go_big_quiet_op; refine hK _ ?_; clear hK K
            refine wpMix_pure (by kernel_rfl) (fun K hK => ?_); go_big_quiet_op; refine hK _ ?_; clear hK K
            refine wpMix_pure (by kernel_rfl) (fun K hK => ?_); go_big_quiet_op; refine hK _ ?_; clear hK K
            refine wpMix_pure (by kernel_rfl) (fun K hK => ?_); go_big_quiet_op; refine hK _ ?_; clear hK K
            refine wpMix_pure (by kernel_rfl) (fun K hK => ?_); go_big_quiet_op; refine hK _ ?_; clear hK K
            refine wpMix_pure (by kernel_rfl) (fun K hK => ?_); go_big_quiet_op; refine hK _ ?_; clear hK K
            refine wpMix_pure (by kernel_rfl) (fun K hK => ?_); go_big_quiet_op; refine hK _ ?_; clear hK K
            refine wpMix_pure (by kernel_rfl) (fun K hK => ?_); go_big_quiet_op; refine hK _ ?_; clear hK K
            refine wpMix_pure (by kernel_rfl) (fun K hK => ?_); go_big_quiet_op; refine hK _ ?_; clear hK K
            refine wpMix_pure (by kernel_rfl) (fun K hK => ?_); go_big_quiet_op; refine hK _ ?_; clear hK K
            refine wpMix_nil ?_
            go_wp2
            go_roundw
            case rel => exact ⟨k + 1, _, _, by omega, HP, HO, by omega, by omega, by omega, by omega, by go_num, by go_num, by go_num, hbZ.trans ((hS0).mono hbZ.size)⟩
            case measure => simp [intOf]; omega
        · skip
          have HP := Lib.hid ((cntB_yes (p := hitV) hlt hh).trans (by rw [HPk.out]))
          have hhq : (L[k].told == L[k].seen) = true := by
            unfold hitV at hh
            rw [beq_iff_eq]; exact of_decide_eq_true hh
          clear hh
          go_wp2
          have gc0 := cell_regrown c0
          have gc1 := cell_regrown c1
          have gc2 := cell_regrown c2
          refine wp_region_mix (C := fun w' => ∃ p : Regrown, w' = Go.Sort.grow (redrawn wr p.d) p.os) [true, true, true, true, true, true, true, true, true, true, true] (by kernel_rfl) (by kernel_rfl) (by kernel_rfl) (fun _ _ d _ _ h => by cases d <;> exact h) (regrown_of_below (Below.drew (Below.refl _ _))) ?_
          have hS0 : Below (wr.heap.size) wr wr.drew := Below.drew (Below.refl _ _)
          refine wpMix_pure (by kernel_rfl) (fun K hK => ?_); go_big_quiet_op; refine hK _ ?_; clear hK K
          refine wpMix_pure (by kernel_rfl) (fun K hK => ?_); go_big_quiet_op; refine hK _ ?_; clear hK K
          refine wpMix_pure (by kernel_rfl) (fun K hK => ?_); go_big_quiet_op; refine hK _ ?_; clear hK K
          refine wpMix_pure (by kernel_rfl) (fun K hK => ?_); go_big_quiet_op; refine hK _ ?_; clear hK K
          refine wpMix_pure (by kernel_rfl) (fun K hK => ?_); go_big_quiet_op; refine hK _ ?_; clear hK K
          refine wpMix_pure (by kernel_rfl) (fun K hK => ?_); go_big_quiet_op; refine hK _ ?_; clear hK K
          refine wpMix_pure (by kernel_rfl) (fun K hK => ?_); go_big_quiet_op; refine hK _ ?_; clear hK K
          refine wpMix_pure (by kernel_rfl) (fun K hK => ?_); go_big_quiet_op; refine hK _ ?_; clear hK K
          refine wpMix_pure (by kernel_rfl) (fun K hK => ?_); go_big_quiet_op; refine hK _ ?_; clear hK K
          refine wpMix_pure (by kernel_rfl) (fun K hK => ?_); go_big_quiet_op; refine hK _ ?_; clear hK K
          refine wpMix_pure (by kernel_rfl) (fun K hK => ?_); go_big_quiet_op; refine hK _ ?_; clear hK K
          refine wpMix_nil ?_
          have hbZ := hb.trans ((hS0).mono hb.size)
          obtain ⟨e0, e1, e2⟩ := hp.below' (hS0)
          clear gc0 gc1 gc2 hS0 c0 c1 c2 hp hb
          generalize wr.drew = WZ at *
          go_wp2
          cases hq : shB s L[k]
          · skip
            have HO := Lib.hid ((cntB_no (p := shB s) hlt hq).trans (by rw [HOk.out]))
            have hqq : (max 1 (min 5 (L[k].told + s)) == L[k].seen) = false := by
              unfold shB at hq
              rw [beq_eq_false_iff_ne]; have := of_decide_eq_false hq; omega
            clear hq
            have ge0 := cell_regrown e0
            have ge1 := cell_regrown e1
            have ge2 := cell_regrown e2
            refine wp_region_mix (C := fun w' => ∃ p : Regrown, w' = Go.Sort.grow (redrawn WZ p.d) p.os) [true, true, true, true, true, true, true, true, true, true, true, true, true, true, true] (by kernel_rfl) (by kernel_rfl) (by kernel_rfl) (fun _ _ d _ _ h => by cases d <;> exact h) (regrown_of_below (Below.drew (Below.refl _ _))) ?_
            have hS0 : Below (WZ.heap.size) WZ WZ.drew := Below.drew (Below.refl _ _)
            refine wpMix_pure (by kernel_rfl) (fun K hK => ?_); go_big_quiet_op; refine hK _ ?_; clear hK K
            refine wpMix_pure (by kernel_rfl) (fun K hK => ?_); go_big_quiet_op; refine hK _ ?_; clear hK K
            refine wpMix_pure (by kernel_rfl) (fun K hK => ?_); go_big_quiet_op; refine hK _ ?_; clear hK K
            refine wpMix_pure (by kernel_rfl) (fun K hK => ?_); go_big_quiet_op; refine hK _ ?_; clear hK K
            refine wpMix_pure (by kernel_rfl) (fun K hK => ?_); go_big_quiet_op; refine hK _ ?_; clear hK K
            refine wpMix_pure (by kernel_rfl) (fun K hK => ?_); go_big_quiet_op; refine hK _ ?_; clear hK K
            refine wpMix_pure (by kernel_rfl) (fun K hK => ?_); go_big_quiet_op; refine hK _ ?_; clear hK K
            refine wpMix_pure (by kernel_rfl) (fun K hK => ?_); go_big_quiet_op; refine hK _ ?_; clear hK K
            refine wpMix_pure (by kernel_rfl) (fun K hK => ?_); go_big_quiet_op; refine hK _ ?_; clear hK K
            refine wpMix_pure (by kernel_rfl) (fun K hK => ?_); go_big_quiet_op; refine hK _ ?_; clear hK K
            refine wpMix_pure (by kernel_rfl) (fun K hK => ?_); go_big_quiet_op; refine hK _ ?_; clear hK K
            refine wpMix_pure (by kernel_rfl) (fun K hK => ?_); go_big_quiet_op; refine hK _ ?_; clear hK K
            refine wpMix_pure (by kernel_rfl) (fun K hK => ?_); go_big_quiet_op; refine hK _ ?_; clear hK K
            refine wpMix_pure (by kernel_rfl) (fun K hK => ?_); go_big_quiet_op; refine hK _ ?_; clear hK K
            refine wpMix_pure (by kernel_rfl) (fun K hK => ?_); go_big_quiet_op; refine hK _ ?_; clear hK K
            refine wpMix_nil ?_
            go_wp2
            go_roundw
            case rel => exact ⟨k + 1, _, _, by omega, HP, HO, by omega, by omega, by omega, by omega, by go_num, by go_num, by go_num, hbZ.trans ((hS0).mono hbZ.size)⟩
            case measure => simp [intOf]; omega
          · skip
            have HO := Lib.hid ((cntB_yes (p := shB s) hlt hq).trans (by rw [HOk.out]))
            have hqq : (max 1 (min 5 (L[k].told + s)) == L[k].seen) = true := by
              unfold shB at hq
              rw [beq_iff_eq]; have := of_decide_eq_true hq; omega
            clear hq
            have ge0 := cell_regrown e0
            have ge1 := cell_regrown e1
            have ge2 := cell_regrown e2
            refine wp_region_mix (C := fun w' => ∃ p : Regrown, w' = Go.Sort.grow (redrawn WZ p.d) p.os) [true, true, true, true, true, true, true, true, true, true, true, true, true, true, true] (by kernel_rfl) (by kernel_rfl) (by kernel_rfl) (fun _ _ d _ _ h => by cases d <;> exact h) (regrown_of_below (Below.drew (Below.refl _ _))) ?_
            have hS0 : Below (WZ.heap.size) WZ WZ.drew := Below.drew (Below.refl _ _)
            refine wpMix_pure (by kernel_rfl) (fun K hK => ?_); go_big_quiet_op; refine hK _ ?_; clear hK K
            refine wpMix_pure (by kernel_rfl) (fun K hK => ?_); go_big_quiet_op; refine hK _ ?_; clear hK K
            refine wpMix_pure (by kernel_rfl) (fun K hK => ?_); go_big_quiet_op; refine hK _ ?_; clear hK K
            refine wpMix_pure (by kernel_rfl) (fun K hK => ?_); go_big_quiet_op; refine hK _ ?_; clear hK K
            refine wpMix_pure (by kernel_rfl) (fun K hK => ?_); go_big_quiet_op; refine hK _ ?_; clear hK K
            refine wpMix_pure (by kernel_rfl) (fun K hK => ?_); go_big_quiet_op; refine hK _ ?_; clear hK K
            refine wpMix_pure (by kernel_rfl) (fun K hK => ?_); go_big_quiet_op; refine hK _ ?_; clear hK K
            refine wpMix_pure (by kernel_rfl) (fun K hK => ?_); go_big_quiet_op; refine hK _ ?_; clear hK K
            refine wpMix_pure (by kernel_rfl) (fun K hK => ?_); go_big_quiet_op; refine hK _ ?_; clear hK K
            refine wpMix_pure (by kernel_rfl) (fun K hK => ?_); go_big_quiet_op; refine hK _ ?_; clear hK K
            refine wpMix_pure (by kernel_rfl) (fun K hK => ?_); go_big_quiet_op; refine hK _ ?_; clear hK K
            refine wpMix_pure (by kernel_rfl) (fun K hK => ?_); go_big_quiet_op; refine hK _ ?_; clear hK K
            refine wpMix_pure (by kernel_rfl) (fun K hK => ?_); go_big_quiet_op; refine hK _ ?_; clear hK K
            refine wpMix_pure (by kernel_rfl) (fun K hK => ?_); go_big_quiet_op; refine hK _ ?_; clear hK K
            refine wpMix_pure (by kernel_rfl) (fun K hK => ?_); go_big_quiet_op; refine hK _ ?_; clear hK K
            refine wpMix_nil ?_
            go_wp2
            go_roundw
            case rel => exact ⟨k + 1, _, _, by omega, HP, HO, by omega, by omega, by omega, by omega, by go_num, by go_num, by go_num, hbZ.trans ((hS0).mono hbZ.size)⟩
            case measure => simp [intOf]; omega

      · obtain rfl : k = L.length := by omega
        have hP : cntB hitV L = p0 := (cntB_full (Nat.le_refl _)).symm.trans HPk.out
        have hO : o0 = hits := (HOk.out.symm.trans (cntB_full (Nat.le_refl _))).trans hS3.out
        rw [hP] at s4 hsk2
        subst hO
        clear HPk HOk hP hS3
        by_cases hsc : skillC L = 0
        · have h2 := hsk2.out hsc
          obtain ⟨bb, e1⟩ : ∃ bb, (SV == 1000) = bb := ⟨_, rfl⟩
          rw [e1] at h2
          have e2 : (p0 == (L.length : Int)) = bb := h2.symm
          clear h2
          have h3 := hsk3.out hsc
          rw [hsc, h3, (worst_ok h3).1]
          rw [(worst_ok h3).2] at hW
          clear hsk2 hsk3 hsc
          go_wp2
          go_loopw [17] (fun i wr => ∃ k : Nat, k ≤ L.length ∧ i = .int .i64 k ∧ Below w4.heap.size w4 wr) (fun i _ => L.length - (intOf i).toNat)
          case atStart => exact ⟨0, Nat.zero_le _, rfl, hb⟩
          case round =>
            clear hb
            obtain ⟨k, hk, rfl, hb2⟩ := hrel
            by_cases hlt : k < L.length
            · obtain ⟨b, off, rfl, hmem, hok, hp⟩ := PVerified.elem (hL.below' hb2) hlt
              obtain ⟨c0, c1, c2⟩ := id hp
              obtain ⟨v1, v2, v3, v4, _⟩ := verB_parts (hva _ (List.getElem_mem hlt))
              have hbd : -1000000000000000000 ≤ L[k].told - L[k].seen ∧ L[k].told - L[k].seen ≤ 1000000000000000000 := by omega
              have hme := worst_mem HV.out hlt
              have hge : absF (L[k].told - L[k].seen) ≤ wmF L L.length := wmF_ge L.length k hlt hlt
              go_wp2
              have gc1 := cell_regrown c1
              have gc2 := cell_regrown c2
              refine wp_region_mix (C := fun w' => ∃ p : Regrown, w' = Go.Sort.grow (redrawn wr p.d) p.os) [true, true, true, true, true, true, true, true, true, true, true, false, true] (by kernel_rfl) (by kernel_rfl) (by kernel_rfl) (fun _ _ d _ _ h => by cases d <;> exact h) (regrown_of_below (Below.drew (Below.refl _ _))) ?_
              have hS0 : Below (wr.heap.size) wr wr.drew := Below.drew (Below.refl _ _)
              refine wpMix_pure (by kernel_rfl) (fun K hK => ?_); go_big_quiet_op; refine hK _ ?_; clear hK K
              refine wpMix_pure (by kernel_rfl) (fun K hK => ?_); go_big_quiet_op; refine hK _ ?_; clear hK K
              refine wpMix_pure (by kernel_rfl) (fun K hK => ?_); go_big_quiet_op; refine hK _ ?_; clear hK K
              refine wpMix_pure (by kernel_rfl) (fun K hK => ?_); go_big_quiet_op; refine hK _ ?_; clear hK K
              refine wpMix_pure (by kernel_rfl) (fun K hK => ?_); go_big_quiet_op; refine hK _ ?_; clear hK K
              refine wpMix_pure (by kernel_rfl) (fun K hK => ?_); go_big_quiet_op; refine hK _ ?_; clear hK K
              refine wpMix_pure (by kernel_rfl) (fun K hK => ?_); go_big_quiet_op; refine hK _ ?_; clear hK K
              refine wpMix_pure (by kernel_rfl) (fun K hK => ?_); go_big_quiet_op; refine hK _ ?_; clear hK K
              refine wpMix_pure (by kernel_rfl) (fun K hK => ?_); go_big_quiet_op; refine hK _ ?_; clear hK K
              refine wpMix_pure (by kernel_rfl) (fun K hK => ?_); go_big_quiet_op; refine hK _ ?_; clear hK K
              refine wpMix_pure (by kernel_rfl) (fun K hK => ?_); go_big_quiet_op; refine hK _ ?_; clear hK K
              refine wpMix_act (by kernel_rfl) (fun K hK => ?_)
              go_big_op
              refine (b10Abs_any (L[k].told - L[k].seen) _ hbd).mono ?_
              rintro e w' ⟨rfl,  rfl⟩
              refine hK _ _ (regrown_of_below hS0) ?_
              clear hK K
              refine wpMix_pure (by kernel_rfl) (fun K hK => ?_); go_big_quiet_op; refine hK _ ?_; clear hK K
              refine wpMix_nil ?_
              have hbZ := hb2.trans ((hS0).mono hb2.size)
              replace hp := hp.below' (hS0)
              clear gc1 gc2 hS0 c0 c1 c2 hb2
              generalize wr.drew = WZ at *
              obtain ⟨e0, e1, e2⟩ := id hp
              clear hp
              go_wp2_with fail
              refine (b10Has_any _ _ _ _ _ (hW.below' hbZ)).mono ?_
              rintro e w' ⟨rfl, rfl⟩
              rw [hme]
              cases hq : difB (wmF L L.length) L[k]
              · skip
                have hd : (absF (L[k].told - L[k].seen) == wmF L L.length) = false := by
                  unfold difB difV at hq
                  rw [beq_eq_false_iff_ne]; exact of_decide_eq_false hq
                generalize absF (L[k].told - L[k].seen) = dv at *
                clear hq hme
                go_wp2
                go_roundw
                case rel => exact ⟨k + 1, by omega, by go_num, hbZ⟩
                case measure => simp [intOf]; omega
              · skip
                have hd : (absF (L[k].told - L[k].seen) == wmF L L.length) = true := by
                  unfold difB difV at hq
                  rw [beq_iff_eq]; exact of_decide_eq_true hq
                generalize absF (L[k].told - L[k].seen) = dv at *
                clear hq hme
                go_wp2
                go_roundw
                case rel => exact ⟨k + 1, by omega, by go_num, hbZ⟩
                case measure => simp [intOf]; omega
            · go_wp2
              go_meet
              case rel => exact hb2

        · have hsc1 : (skillC L == 0) = false := by rw [beq_eq_false_iff_ne]; exact hsc
          generalize skillC L = sc at *
          clear hsk2 hsk3 hsc
          by_cases h3 : biasC L = 0
          rotate_left
          · have h4 : (biasC L == 0) = false := by rw [beq_eq_false_iff_ne]; exact h3
            generalize biasC L = bc at *
            clear h3
            go_wp2
            go_meet
            case rel => exact hb
          rw [h3, (worst_ok h3).1]
          rw [(worst_ok h3).2] at hW
          go_wp2
          go_loopw [17] (fun i wr => ∃ k : Nat, k ≤ L.length ∧ i = .int .i64 k ∧ Below w4.heap.size w4 wr) (fun i _ => L.length - (intOf i).toNat)
          case atStart => exact ⟨0, Nat.zero_le _, rfl, hb⟩
          case round =>
            clear hb
            obtain ⟨k, hk, rfl, hb2⟩ := hrel
            by_cases hlt : k < L.length
            · obtain ⟨b, off, rfl, hmem, hok, hp⟩ := PVerified.elem (hL.below' hb2) hlt
              obtain ⟨c0, c1, c2⟩ := id hp
              obtain ⟨v1, v2, v3, v4, _⟩ := verB_parts (hva _ (List.getElem_mem hlt))
              have hbd : -1000000000000000000 ≤ L[k].told - L[k].seen ∧ L[k].told - L[k].seen ≤ 1000000000000000000 := by omega
              have hme := worst_mem HV.out hlt
              have hge : absF (L[k].told - L[k].seen) ≤ wmF L L.length := wmF_ge L.length k hlt hlt
              go_wp2
              have gc1 := cell_regrown c1
              have gc2 := cell_regrown c2
              refine wp_region_mix (C := fun w' => ∃ p : Regrown, w' = Go.Sort.grow (redrawn wr p.d) p.os) [true, true, true, true, true, true, true, true, true, true, true, false, true] (by kernel_rfl) (by kernel_rfl) (by kernel_rfl) (fun _ _ d _ _ h => by cases d <;> exact h) (regrown_of_below (Below.drew (Below.refl _ _))) ?_
              have hS0 : Below (wr.heap.size) wr wr.drew := Below.drew (Below.refl _ _)
              refine wpMix_pure (by kernel_rfl) (fun K hK => ?_); go_big_quiet_op; refine hK _ ?_; clear hK K
              refine wpMix_pure (by kernel_rfl) (fun K hK => ?_); go_big_quiet_op; refine hK _ ?_; clear hK K
              refine wpMix_pure (by kernel_rfl) (fun K hK => ?_); go_big_quiet_op; refine hK _ ?_; clear hK K
              refine wpMix_pure (by kernel_rfl) (fun K hK => ?_); go_big_quiet_op; refine hK _ ?_; clear hK K
              refine wpMix_pure (by kernel_rfl) (fun K hK => ?_); go_big_quiet_op; refine hK _ ?_; clear hK K
              refine wpMix_pure (by kernel_rfl) (fun K hK => ?_); go_big_quiet_op; refine hK _ ?_; clear hK K
              refine wpMix_pure (by kernel_rfl) (fun K hK => ?_); go_big_quiet_op; refine hK _ ?_; clear hK K
              refine wpMix_pure (by kernel_rfl) (fun K hK => ?_); go_big_quiet_op; refine hK _ ?_; clear hK K
              refine wpMix_pure (by kernel_rfl) (fun K hK => ?_); go_big_quiet_op; refine hK _ ?_; clear hK K
              refine wpMix_pure (by kernel_rfl) (fun K hK => ?_); go_big_quiet_op; refine hK _ ?_; clear hK K
              refine wpMix_pure (by kernel_rfl) (fun K hK => ?_); go_big_quiet_op; refine hK _ ?_; clear hK K
              refine wpMix_act (by kernel_rfl) (fun K hK => ?_)
              go_big_op
              refine (b10Abs_any (L[k].told - L[k].seen) _ hbd).mono ?_
              rintro e w' ⟨rfl,  rfl⟩
              refine hK _ _ (regrown_of_below hS0) ?_
              clear hK K
              refine wpMix_pure (by kernel_rfl) (fun K hK => ?_); go_big_quiet_op; refine hK _ ?_; clear hK K
              refine wpMix_nil ?_
              have hbZ := hb2.trans ((hS0).mono hb2.size)
              replace hp := hp.below' (hS0)
              clear gc1 gc2 hS0 c0 c1 c2 hb2
              generalize wr.drew = WZ at *
              obtain ⟨e0, e1, e2⟩ := id hp
              clear hp
              go_wp2_with fail
              refine (b10Has_any _ _ _ _ _ (hW.below' hbZ)).mono ?_
              rintro e w' ⟨rfl, rfl⟩
              rw [hme]
              cases hq : difB (wmF L L.length) L[k]
              · skip
                have hd : (absF (L[k].told - L[k].seen) == wmF L L.length) = false := by
                  unfold difB difV at hq
                  rw [beq_eq_false_iff_ne]; exact of_decide_eq_false hq
                generalize absF (L[k].told - L[k].seen) = dv at *
                clear hq hme
                go_wp2
                go_roundw
                case rel => exact ⟨k + 1, by omega, by go_num, hbZ⟩
                case measure => simp [intOf]; omega
              · skip
                have hd : (absF (L[k].told - L[k].seen) == wmF L L.length) = true := by
                  unfold difB difV at hq
                  rw [beq_iff_eq]; exact of_decide_eq_true hq
                generalize absF (L[k].told - L[k].seen) = dv at *
                clear hq hme
                go_wp2
                go_roundw
                case rel => exact ⟨k + 1, by omega, by go_num, hbZ⟩
                case measure => simp [intOf]; omega
            · go_wp2
              go_meet
              case rel => exact hb2

  case rest =>
    replace hb4 := hb4.trans (hcut.mono hb4.size)
    replace hx1 := hx1.below' hb4
    replace hrd := hrd.below hb4
    replace hm := cell_below hb4 hm
    clear hL hW hcut
    go_wp2_with fail
    refine (DrawAddVerified_any _ _ _ _ hx1).mono ?_
    rintro e w5 ⟨y0, ys, x, fq, rfl, hys, hsmy, hyl, hsm, hb5⟩
    have hokx := hsm.ok
    obtain ⟨A1, k1, rfl, _, _⟩ := hys.form
    replace hrd := hrd.below hb5
    replace hm := cell_below hb5 hm
    have hB5 := hb4.trans (hb5.mono hb4.size)
    have hAl : Below w5.heap.size w5 (w5.alloc (.cells #[.int .i64 x.day, .int .i64 x.told, .int .i64 x.seen] 34)) := (Below.refl _ _).alloc (Nat.le_refl _) _
    have hp2 := PVerified.box w5 x 34
    clear hx1 hb4 hb5 hsmy hsm
    unfold agVerified
    go_wp2_with fail
    refine (addVerified_any _ ys fq x _ (hys.below' hAl) hokx).mono ?_
    rintro e w6 ⟨vn, rfl, ⟨⟨fn, hsl, _, _⟩, hbN⟩⟩
    replace hp2 := hp2.below' hbN
    replace hbN : Below w5.heap.size w5 w6 := hAl.trans (hbN.mono (by simp))
    have hB6 := hB5.trans (hbN.mono hB5.size)
    replace hrd := hrd.below hbN
    replace hm := cell_below hbN hm
    obtain ⟨A2, k2, rfl, _, _⟩ := hsl.form
    clear hAl hB5 hys hbN
    generalize w5.heap.size = bx at *
    by_cases hc : addVerifiedC ys x = 0
    rotate_left
    · have e1 : (addVerifiedC ys x != 0) = true := by simp [hc]
      have hF := (addVerified_bad (xs := ys) (x := x) rfl hc).2
      have e2 : (addVerifiedF ys x).length = 0 := by rw [hF]; rfl
      generalize addVerifiedC ys x = cc at *
      generalize (addVerifiedF ys x).length = nn at *
      subst e2
      clear hc
      go_wp2
      go_ret
      exact ⟨rfl, hB6⟩
    obtain ⟨hvn, hlen, k, hk, hkx⟩ := addVer_valid hc
    obtain ⟨_, hox, _, _⟩ := addVerified_ok hc
    rw [hc]
    have hlen64 := versB_len hvn
    have HLEN := Lib.hid hlen
    have HVN := Lib.hid hvn
    have hltA := vers_lt hvn
    have hbias := bias_law hvn (by omega)
    have hbC : biasC (addVerifiedF ys x) = 0 := by unfold biasC; rw [hvn, if_neg (by decide), if_neg (by omega)]
    have HBC := Lib.hid hbC
    clear hc hlen hvn hbC
    generalize addVerifiedF ys x = L at *
    go_wp2
    go_loopw [23, 24] (fun f i wr => ∃ j : Nat, j ≤ L.length ∧ f = .bool (decide (k < j)) ∧ i = .int .i64 j ∧ Below w6.heap.size w6 wr) (fun _ i _ => L.length - (intOf i).toNat)
    case atStart => exact ⟨0, Nat.zero_le _, rfl, rfl, Below.refl _ _⟩
    case round =>
      obtain ⟨j, hj, rfl, rfl, hb⟩ := hrel
      by_cases hlt : j < L.length
      · obtain ⟨b, off, rfl, hmem, hok, hp⟩ := PVerified.elem (hsl.below' hb) hlt
        obtain ⟨c0, c1, c2⟩ := id hp
        obtain ⟨d0, d1, d2⟩ := id (hp2.below' hb)
        rcases Nat.lt_trichotomy j k with h1 | h1 | h1
        · have hne := hltA k j hk h1
          rw [hkx] at hne
          have hq : (L[j].day == x.day) = false := by rw [beq_eq_false_iff_ne]; omega
          have HD1 : decide (k < j) = false := decide_eq_false (by omega)
          have HD2 : decide (k < j + 1) = false := decide_eq_false (by omega)
          rw [HD1]
          clear hne
          generalize L[j] = z at *
          go_wp2
          have gc0 := cell_regrown c0
          have gc1 := cell_regrown c1
          have gc2 := cell_regrown c2
          have gd0 := cell_regrown d0
          have gd1 := cell_regrown d1
          have gd2 := cell_regrown d2
          refine wp_region_mix (C := fun w' => ∃ p : Regrown, w' = Go.Sort.grow (redrawn wr p.d) p.os) [true, true, true, true, true, true, true, true, true, true] (by kernel_rfl) (by kernel_rfl) (by kernel_rfl) (fun _ _ d _ _ h => by cases d <;> exact h) (regrown_of_below (Below.drew (Below.refl _ _))) ?_
          have hS0 : Below (wr.heap.size) wr wr.drew := Below.drew (Below.refl _ _)
          refine wpMix_pure (by kernel_rfl) (fun K hK => ?_); go_big_quiet_op; refine hK _ ?_; clear hK K
          refine wpMix_pure (by kernel_rfl) (fun K hK => ?_); go_big_quiet_op; refine hK _ ?_; clear hK K
          refine wpMix_pure (by kernel_rfl) (fun K hK => ?_); go_big_quiet_op; refine hK _ ?_; clear hK K
          refine wpMix_pure (by kernel_rfl) (fun K hK => ?_); go_big_quiet_op; refine hK _ ?_; clear hK K
          refine wpMix_pure (by kernel_rfl) (fun K hK => ?_); go_big_quiet_op; refine hK _ ?_; clear hK K
          refine wpMix_pure (by kernel_rfl) (fun K hK => ?_); go_big_quiet_op; refine hK _ ?_; clear hK K
          refine wpMix_pure (by kernel_rfl) (fun K hK => ?_); go_big_quiet_op; refine hK _ ?_; clear hK K
          refine wpMix_pure (by kernel_rfl) (fun K hK => ?_); go_big_quiet_op; refine hK _ ?_; clear hK K
          refine wpMix_pure (by kernel_rfl) (fun K hK => ?_); go_big_quiet_op; refine hK _ ?_; clear hK K
          refine wpMix_pure (by kernel_rfl) (fun K hK => ?_); go_big_quiet_op; refine hK _ ?_; clear hK K
          refine wpMix_nil ?_
          skip
          go_wp2
          go_roundw
          case rel => exact ⟨j + 1, by omega, by rw [HD2], by go_num, hb.trans ((hS0).mono hb.size)⟩
          case measure => simp [intOf]; omega
        · subst h1
          rw [hkx] at c0 c1 c2
          have HD1 : decide (j < j) = false := decide_eq_false (by omega)
          have HD2 : decide (j < j + 1) = true := decide_eq_true (by omega)
          rw [HD1]
          go_wp2
          have gc0 := cell_regrown c0
          have gc1 := cell_regrown c1
          have gc2 := cell_regrown c2
          have gd0 := cell_regrown d0
          have gd1 := cell_regrown d1
          have gd2 := cell_regrown d2
          refine wp_region_mix (C := fun w' => ∃ p : Regrown, w' = Go.Sort.grow (redrawn wr p.d) p.os) [true, true, true, true, true, true, true, true, true, true] (by kernel_rfl) (by kernel_rfl) (by kernel_rfl) (fun _ _ d _ _ h => by cases d <;> exact h) (regrown_of_below (Below.drew (Below.refl _ _))) ?_
          have hS0 : Below (wr.heap.size) wr wr.drew := Below.drew (Below.refl _ _)
          refine wpMix_pure (by kernel_rfl) (fun K hK => ?_); go_big_quiet_op; refine hK _ ?_; clear hK K
          refine wpMix_pure (by kernel_rfl) (fun K hK => ?_); go_big_quiet_op; refine hK _ ?_; clear hK K
          refine wpMix_pure (by kernel_rfl) (fun K hK => ?_); go_big_quiet_op; refine hK _ ?_; clear hK K
          refine wpMix_pure (by kernel_rfl) (fun K hK => ?_); go_big_quiet_op; refine hK _ ?_; clear hK K
          refine wpMix_pure (by kernel_rfl) (fun K hK => ?_); go_big_quiet_op; refine hK _ ?_; clear hK K
          refine wpMix_pure (by kernel_rfl) (fun K hK => ?_); go_big_quiet_op; refine hK _ ?_; clear hK K
          refine wpMix_pure (by kernel_rfl) (fun K hK => ?_); go_big_quiet_op; refine hK _ ?_; clear hK K
          refine wpMix_pure (by kernel_rfl) (fun K hK => ?_); go_big_quiet_op; refine hK _ ?_; clear hK K
          refine wpMix_pure (by kernel_rfl) (fun K hK => ?_); go_big_quiet_op; refine hK _ ?_; clear hK K
          refine wpMix_pure (by kernel_rfl) (fun K hK => ?_); go_big_quiet_op; refine hK _ ?_; clear hK K
          refine wpMix_nil ?_
          skip
          go_wp2
          go_roundw
          case rel => exact ⟨j + 1, by omega, by rw [HD2], by go_num, hb.trans ((hS0).mono hb.size)⟩
          case measure => simp [intOf]; omega
        · have HD1 : decide (k < j) = true := decide_eq_true (by omega)
          have HD2 : decide (k < j + 1) = true := decide_eq_true (by omega)
          rw [HD1]
          go_wp2
          have gc0 := cell_regrown c0
          have gc1 := cell_regrown c1
          have gc2 := cell_regrown c2
          have gd0 := cell_regrown d0
          have gd1 := cell_regrown d1
          have gd2 := cell_regrown d2
          refine wp_region_mix (C := fun w' => ∃ p : Regrown, w' = Go.Sort.grow (redrawn wr p.d) p.os) [true, true, true, true, true, true, true, true, true, true] (by kernel_rfl) (by kernel_rfl) (by kernel_rfl) (fun _ _ d _ _ h => by cases d <;> exact h) (regrown_of_below (Below.drew (Below.refl _ _))) ?_
          have hS0 : Below (wr.heap.size) wr wr.drew := Below.drew (Below.refl _ _)
          refine wpMix_pure (by kernel_rfl) (fun K hK => ?_); go_big_quiet_op; refine hK _ ?_; clear hK K
          refine wpMix_pure (by kernel_rfl) (fun K hK => ?_); go_big_quiet_op; refine hK _ ?_; clear hK K
          refine wpMix_skip (by kernel_rfl) (fun K hK => ?_)
          simp only [Act.put, List.setIfInBounds_toArray, List.set_cons_zero, List.set_cons_succ]
          refine hK _ ?_; clear hK K
          refine wpMix_skip (by kernel_rfl) (fun K hK => ?_)
          simp only [Act.put, List.setIfInBounds_toArray, List.set_cons_zero, List.set_cons_succ]
          refine hK _ ?_; clear hK K
          refine wpMix_skip (by kernel_rfl) (fun K hK => ?_)
          simp only [Act.put, List.setIfInBounds_toArray, List.set_cons_zero, List.set_cons_succ]
          refine hK _ ?_; clear hK K
          refine wpMix_skip (by kernel_rfl) (fun K hK => ?_)
          simp only [Act.put, List.setIfInBounds_toArray, List.set_cons_zero, List.set_cons_succ]
          refine hK _ ?_; clear hK K
          refine wpMix_skip (by kernel_rfl) (fun K hK => ?_)
          simp only [Act.put, List.setIfInBounds_toArray, List.set_cons_zero, List.set_cons_succ]
          refine hK _ ?_; clear hK K
          refine wpMix_skip (by kernel_rfl) (fun K hK => ?_)
          simp only [Act.put, List.setIfInBounds_toArray, List.set_cons_zero, List.set_cons_succ]
          refine hK _ ?_; clear hK K
          refine wpMix_pure (by kernel_rfl) (fun K hK => ?_); go_big_quiet_op; refine hK _ ?_; clear hK K
          refine wpMix_pure (by kernel_rfl) (fun K hK => ?_); go_big_quiet_op; refine hK _ ?_; clear hK K
          refine wpMix_nil ?_
          skip
          go_wp2
          go_roundw
          case rel => exact ⟨j + 1, by omega, by rw [HD2], by go_num, hb.trans ((hS0).mono hb.size)⟩
          case measure => simp [intOf]; omega
      · have hdt : decide (k < j) = true := decide_eq_true (by omega)
        rw [hdt]
        have hx6 := hsl.below' hb
        have hB7 := hB6.trans (hb.mono hB6.size)
        replace hrd := hrd.below hb
        replace hm := cell_below hb hm
        replace hp2 := hp2.below' hb
        clear hdt hb hB6 hltA hsl
        go_wp2_with fail
        refine (BiasOf_any _ L fn _ hx6).mono ?_
        rintro e w7 ⟨rfl, hb7⟩
        rw [HBC.out, biasR_ok HBC.out]
        generalize biasV L = bv at *
        replace hrd := hrd.below hb7
        replace hm := cell_below hb7 hm
        replace hp2 := hp2.below' hb7
        replace hx6 := hx6.below' hb7
        replace hB7 := hB7.trans (hb7.mono hB7.size)
        clear hb7
        obtain ⟨d0, d1, d2⟩ := id hp2
        obtain ⟨v1, v2, v3, v4, v5, v6⟩ := verB_parts hox
        obtain ⟨dy, dm, dd, hdok, hdn⟩ := day_has v5 v6
        have hdz := vtF_size (x := x) hokx (dayS_size hdok)
        have hback := Lib.hid (rvF_back hox hdok hdn)
        clear v1 v2 v3 v4 v5 v6
        replace hdn := Lib.hid hdn
        replace hkx := Lib.hid hkx
        go_wp2_with fail
        refine (VerifiedText_any x dy dm dd _ hdok hdn.out hokx hrd.tab).mono ?_
        rintro e w8 ⟨rfl, hb8⟩
        replace hrd := hrd.below hb8
        replace hm := cell_below hb8 hm
        replace hp2 := hp2.below' hb8
        replace hx6 := hx6.below' hb8
        replace hB7 := hB7.trans (hb8.mono hB7.size)
        clear hb8 d0 d1 d2 hdn
        generalize vtF x (dayS dy dm dd) = tx at *
        go_wp2_with fail
        refine (implReadVerified_any tx mx _ hdz hm hrd).mono ?_
        rintro e w9 ⟨hr, hb9⟩
        unfold VRet at hr
        rw [hback.out] at hr
        subst hr
        replace hp2 := hp2.below' hb9
        replace hx6 := hx6.below' hb9
        replace hB7 := hB7.trans (hb9.mono hB7.size)
        clear hb9 hm hrd hback hdz
        have hAl : Below w9.heap.size w9 (w9.alloc (.cells #[.int .i64 x.day, .int .i64 x.told, .int .i64 x.seen] 34)) := (Below.refl _ _).alloc (Nat.le_refl _) _
        have hq9 := PVerified.box w9 x 34
        replace hp2 := hp2.below' hAl
        replace hx6 := hx6.below' hAl
        replace hB7 := hB7.trans (hAl.mono hB7.size)
        unfold vAg
        simp only [Option.getD_some, Option.isSome_some]
        go_wp2_with fail
        refine (specValidVer_any _ L fn _ hx6).mono ?_
        rintro e w10 ⟨rfl, hb10⟩
        rw [HVN.out]
        replace hp2 := hp2.below' hb10
        replace hq9 := hq9.below' hb10
        replace hB7 := hB7.trans (hb10.mono hB7.size)
        have elen : ((L.length : Int) == (ys.length : Int) + 1) = true := by rw [HLEN.out]; simp
        have hbv : -1000000000000000000 ≤ bv ∧ bv ≤ 1000000000000000000 := by have := absF_le.1 hbias; omega
        clear hb10 hAl hx6
        obtain ⟨c0, c1, c2⟩ := hp2
        obtain ⟨d0, d1, d2⟩ := hq9
        go_wp2_with fail
        refine (b10Abs_any bv _ hbv).mono ?_
        rintro e w' ⟨rfl, rfl⟩
        generalize absF bv = av at *
        go_wp2
        go_ret
        exact ⟨rfl, hB7⟩

end Go.Proofs.YthabmofkjdiccaaGreatDoor

namespace Go.Proofs.YthabmofkjdiccaaGreatDoor
open Go.RowKit Go.WideShapes Go.ChangeShapes Go.ChangeAt

set_option maxRecDepth 100000 in
theorem law_liftedL {F : FuncId} {fn : Func} {s : ChangeSpec} (laid : List (String × DataW Unit)) (os : Os) (started : os.Started) (H : Type) (enc : TypeId × Value → H)
    (hfn : Tryz.checked.prog.funcs[F]? = some fn) (noInit : Tryz.checked.prog.inits.idxOf? F = none)
    (witness : ∃ (w : World) (tape : Tape) (i : Input), w.os = os ∧ (w.forCall tape i).Shaped Tryz.checked.prog ∧ i.vars = [] ∧ Input.okWide Tryz.checked.prog (w.forCall tape i) .any w.heap.size F i ∧
      ((s.pre enc Tryz.checked.prog fn [] false (w.forCall tape i).memory i.args ∧ laidMetH Tryz.checked.prog laid (w.forCall tape i).memory) ∧ sizedMet enc Tryz.checked.prog fn (OpenSpec.ofChange s) false (w.forCall tape i).memory i.args) ∧ ({} : Assume).holds Tryz.checked.prog (lone (Frame.enter Tryz.checked.prog F i.args .normal) [] (w.forCall tape i)))
    (hs : s.vars = []) (hres : fn.resultTypes = #[4]) (hread : ∀ t ∈ fn.params.toList, Tryz.prog.readableRec t = true ∧ t < Tryz.prog.types.size)
    (hspec : ∀ ds : List (DataW H), ds.length = fn.params.toList.length → s.fn H ds = { results := [.lit (.bool true)], args := ds })
    (walk : ∀ (W : World) (args : Array Value) (ds : List (DataW H)) (p : List MemPlace), W.ShapedOpen Tryz.prog → laidMetH Tryz.prog laid W → (∀ (j : Nat) t v, fn.params[j]? = some t → args[j]? = some v → ∃ base, Value.okWide Tryz.prog W .any base t v) →
      DataW.TrodAll enc Tryz.prog W 0 (fun _ => true) true fn.params.toList args.toList ds p → W.noneFrozen p → Calls Tryz.prog F args W fun e W' => e = .returned (.bool true) ∧ Below W.heap.size W W') :
    ReturnsInHanded {} Tryz.checked os F .any (fun w args => (s.pre enc Tryz.checked.prog fn [] false w args ∧ laidMetH Tryz.checked.prog laid w) ∧ sizedMet enc Tryz.checked.prog fn (OpenSpec.ofChange s) false w args) (s.post enc Tryz.checked.prog fn false true false false) := by
  refine returnsInHanded_of_calls (C := Tryz.checked) Tryz.own started noInit witness ?_
  intro w tape i _ hsh _ hok hpre hholds
  obtain ⟨_, _, _, fn', hfn', _, _, _, _, hval⟩ := hok
  have e : fn' = fn := Option.some.inj (hfn'.symm.trans hfn)
  subst e
  obtain ⟨⟨⟨ds, gs, before, hw, hc⟩, hx⟩, hz⟩ := hpre
  have hW := DataW.Whole.of_heap (w' := w.forCall tape i) (by rfl) hw
  have hX : laidMetH Tryz.prog laid (w.forCall tape i) := laidMetH.of_heap (by rfl) hx
  generalize w.forCall tape i = W at *
  have hW' := hW
  obtain ⟨p, q, hA, hV, hpq, hfz, hnd⟩ := hW
  rw [hs] at hV
  obtain ⟨rfl, rfl⟩ := trodVars_none hV
  rw [List.append_nil] at hpq
  subst hpq
  refine (walk W i.args ds _ hsh hX (fun j t v h1 h2 => ⟨w.heap.size, hval j t v h1 h2⟩) hA hfz).mono fun e W' ⟨he, hb⟩ => ?_
  subst he
  have hsp : s.fn H (ds ++ []) = { results := [.lit (.bool true)], args := ds } := by
    rw [List.append_nil]; exact hspec ds (trodAll_len _ _ _ _ hA)
  have hlt := fun x hx => hW'.lt x hx
  refine ChangeSpec.post_blind (W := W) ?_
  refine post_of_below (pa := before) (pv := []) hW' (fun b sp hd => ?_) (fun sp h => ?_) (fun sp h => ?_) (by simp) hb ?_
  · rw [hsp, hres]; exact trodAll_mk1 (shut_bool Tryz.underlying4 _)
  · rw [hsp]; exact trodAll_below Tryz.laidOut hb _ _ _ _ hread hA hlt h
  · rw [hsp, hs]; rfl
  · rw [hres]; exact fun j t r h1 h2 => ok_one (f := fn') hres rfl (okWide_bool_mk Tryz.underlying4 _) j t r (by rw [hres]; exact h1) (by rw [hres]; exact h2)
end Go.Proofs.YthabmofkjdiccaaGreatDoor

namespace Go.Proofs.YthabmofkjdiccaaGreatDoor
noncomputable def doorWorld (os : Os) : World := (World.doorLaid Tryz.prog 72 os).setRow 2 (Go.Pinned.utf8FirstZ.map (fun z : Nat => Value.int .u8 (z : Int))).toArray
end Go.Proofs.YthabmofkjdiccaaGreatDoor

namespace Go.Proofs.YthabmofkjdiccaaGreatDoor
open Go.RowKit Go.WideShapes Go.ChangeShapes Go.ChangeAt Go.Deep

/-- Whatever the form's reader reads at type t reads by E. -/
def Opens {α : Type} (t : TypeId) (E : Cod α) : Prop :=
  ∀ {H : Type} {enc : TypeId × Value → H} {w : World} {n : Nat} {cs : List Value} {x : DataW H × List MemPlace},
    DataW.trod enc Tryz.prog w 0 (fun _ => true) true n t cs = some x → w.noneFrozen x.2 → ∃ y fp, E.rd w cs y fp

theorem opens_int {t : TypeId} (ht : Tryz.prog.underlying t = some (.int .i64)) : Opens t fInt.cod := by
  intro H enc w n cs x h _
  obtain ⟨k, rfl, rfl, wk⟩ := DataW.trod_int ht h
  refine ⟨k, [], rfl, ?_, rfl⟩
  exact bounds_i64 wk
theorem opens_str {t : TypeId} (ht : Tryz.prog.underlying t = some .string) : Opens t fStr.cod := by
  intro H enc w n cs x h _
  obtain ⟨s, rfl, rfl, hs⟩ := DataW.trod_string ht h
  exact ⟨s, [], rfl, by unfold maxLen at hs; exact hs, rfl⟩
theorem opens_bool {t : TypeId} (ht : Tryz.prog.underlying t = some .bool) : Opens t fBool.cod := by
  intro H enc w n cs x h _
  obtain ⟨s, rfl, rfl⟩ := DataW.trod_bool ht h
  exact ⟨s, [], rfl, trivial, rfl⟩

theorem add_none (b off x y : Nat) : ((⟨b, off, none⟩ : Addr).add x).add y = ⟨b, off + x + y, none⟩ := by
  unfold Addr.add
  by_cases hx : x = 0 <;> by_cases hy : y = 0 <;> simp [hx, hy]

theorem opens_slice {α : Type} {E : Cod α} {t e : TypeId} (ht : Tryz.prog.underlying t = some (.slice e)) (hn : Tryz.prog.cellsOf e = E.n) (he : Opens e E) : Opens t E.slice := by
  intro H enc w n cs x h hfz
  rcases open_slice ht h with ⟨rfl, rfl⟩ | ⟨a, len, cap, m, n', D, Pl, rfl, hb, hl, hm, hmm, hx, hi⟩
  · exact ⟨[], [], _, rfl, none, 0, rfl, by simp, by simp [maxLen], .inl ⟨rfl, rfl⟩⟩
  · simp only [if_true] at hmm
    subst hmm
    rcases Nat.eq_zero_or_pos len with h0 | h0
    · subst h0
      exact ⟨[], [], _, rfl, some a, m, rfl, by simp, hm, .inl ⟨rfl, rfl⟩⟩
    · rw [hn] at hi
      have hspot : a = ⟨a.block, a.off, none⟩ := by
        obtain ⟨cs', hc, _⟩ := hi 0 (by omega)
        obtain ⟨_, hcl, hat⟩ := World.cells?_some hc
        have h1 := hat 0 E.pos
        have hps := E.pos
        rw [List.getElem?_eq_getElem (by omega)] at h1
        have h2 : w.cell? a = some cs'[0] := by simpa [Addr.add] using h1
        have := World.cell?_spot h2
        cases a; simp_all
      have hel : ∀ i : Fin len, ∃ p : α × List Nat × List Value, (∀ j, j < E.n → w.cell? ⟨a.block, a.off + i.1 * E.n + j, none⟩ = p.2.2[j]?) ∧ (∀ j, j < E.n → w.frozen? ⟨a.block, a.off + i.1 * E.n + j, none⟩ = false) ∧ E.rd w p.2.2 p.1 p.2.1 := by
        intro ⟨i, hil⟩
        obtain ⟨cs', hc, htr⟩ := hi i (by omega)
        obtain ⟨_, hcl, hat⟩ := World.cells?_some hc
        have hsub : ∀ pl ∈ Pl i, pl ∈ x.2 := by
          intro pl hpl
          rw [hx]
          exact List.mem_append_right _ (List.mem_flatMap.2 ⟨i, by simp; omega, hpl⟩)
        obtain ⟨y, fp, hy⟩ := he htr (fun b off hmem => hfz b off (hsub _ hmem))
        refine ⟨⟨y, fp, cs'⟩, fun j hj => ?_, fun j hj => ?_, hy⟩
        · have := hat j hj
          rw [hspot, add_none] at this
          exact this
        · refine hfz _ _ ?_
          rw [hx]
          refine List.mem_append_left _ ?_
          unfold MemPlace.row
          refine List.mem_map.2 ⟨i * E.n + j, ?_, by rw [Nat.add_assoc]⟩
          rw [List.mem_range, hn]
          have : (i + 1) * E.n ≤ m * E.n := Nat.mul_le_mul_right _ (by omega)
          rw [Nat.succ_mul] at this
          omega
      obtain ⟨f, hf⟩ := Classical.axiomOfChoice hel
      have hblk : a.block < w.heap.size := by
        obtain ⟨h1, _, h3⟩ := hf ⟨0, h0⟩
        have h1 := h1 0 E.pos
        have h4 := E.len h3
        have hps := E.pos
        rw [List.getElem?_eq_getElem (by omega)] at h1
        exact block_lt_of_cell (a := ⟨a.block, _, none⟩) h1
      refine ⟨List.ofFn fun i => (f i).1, a.block :: (List.range len).flatMap fun i => if h : i < len then (f ⟨i, h⟩).2.1 else [], _, rfl, some a, m, by simp, by simpa using hl, hm,
        .inr ⟨a.block, a.off, _, by rw [← hspot], hblk, by rw [List.length_ofFn], fun i hil => ?_⟩⟩
      rw [List.length_ofFn] at hil
      obtain ⟨h1, h2, h3⟩ := hf ⟨i, hil⟩
      refine ⟨(f ⟨i, hil⟩).2.2, h1, h2, ?_⟩
      simpa [hil] using h3

/-- A struct of fields of one cell each. -/
theorem opens_fields {t : TypeId} {fs : Array Field} (ht : Tryz.prog.underlying t = some (.struct fs)) (hone : oneCellFields Tryz.prog fs = true) (hC : Tryz.prog.cellsOf t = fs.size)
    {H : Type} {enc : TypeId × Value → H} {w : World} {n : Nat} {cs : List Value} {x : DataW H × List MemPlace} (h : DataW.trod enc Tryz.prog w 0 (fun _ => true) true n t cs = some x) (hfz : w.noneFrozen x.2) :
    cs.length = fs.size ∧ ∀ (j : Nat) (f : Field), fs[j]? = some f → ∃ (v : Value) (m : Nat) (y : DataW H × List MemPlace), cs[j]? = some v ∧ DataW.trod enc Tryz.prog w 0 (fun _ => true) true m f.type [v] = some y ∧ w.noneFrozen y.2 := by
  obtain ⟨xs, n', rfl, hx, hl, hxl, hf⟩ := DataW.trod_struct ht h
  refine ⟨hl.trans hC, fun j f hj => ?_⟩
  have hjl : j < fs.size := (Array.getElem?_eq_some_iff.1 hj).1
  obtain ⟨ho, hk⟩ := hone_of hone j f hj
  have h1 := hf j f hj
  rw [ho, hk] at h1
  have hcl : j < cs.length := by rw [hl, hC]; exact hjl
  have e1 : (cs.drop j).take 1 = [cs[j]] := by
    rw [List.drop_eq_getElem_cons hcl]; rfl
  rw [e1, List.getElem?_eq_getElem (by omega)] at h1
  refine ⟨cs[j], n', xs[j], List.getElem?_eq_getElem hcl, h1, fun b off hm => hfz b off ?_⟩
  rw [hx]
  exact List.mem_flatMap.2 ⟨xs[j], List.getElem_mem _, hm⟩

/-- An argument that came in: its value reads. -/
theorem Opens.arg {α : Type} {t : TypeId} {E : Cod α} (ho : Opens t E) {H : Type} {enc : TypeId × Value → H} {w : World} {v : Value} {d : DataW H} {ps : List MemPlace}
    (h : DataW.Trod enc Tryz.prog w 0 (fun _ => true) true t v d ps) (hfz : w.noneFrozen ps) : ∃ y fp, E.rd w v.cells.toList y fp := by
  obtain ⟨n, hn⟩ := h
  exact ho hn hfz
theorem Opens.sl {α : Type} {t : TypeId} {E : Cod α} (ho : Opens t E.slice) {H : Type} {enc : TypeId × Value → H} {w : World} {v : Value} {d : DataW H} {ps : List MemPlace}
    (h : DataW.Trod enc Tryz.prog w 0 (fun _ => true) true t v d ps) (hfz : w.noneFrozen ps) {A : Option Addr} {len cap : Nat} (hv : v = .slice A len cap) : ∃ y fp, Sl E w v y fp := by
  obtain ⟨y, fp, u, hu, hs⟩ := ho.arg h hfz
  subst hv
  simp [Value.cells] at hu
  subst hu
  exact ⟨y, fp, hs⟩

end Go.Proofs.YthabmofkjdiccaaGreatDoor

namespace Go.Proofs.YthabmofkjdiccaaGreatDoor
open Go.RowKit Go.WideShapes Go.ChangeShapes Go.ChangeAt Go.Deep

set_option maxRecDepth 100000 in
set_option maxHeartbeats 400000 in
theorem opens_byte {t : TypeId} (ht : Tryz.prog.underlying t = some (.int .u8)) : Opens t fByte.cod := by
  intro H enc w n cs x h _
  obtain ⟨k, rfl, rfl, wk⟩ := DataW.trod_int ht h
  have hk : 0 ≤ k ∧ k ≤ 255 := by
    have h1 : IntKind.u8.min = 0 := by decide
    have h2 : IntKind.u8.max = 255 := by decide
    have := wk
    simp [Lit.wf, h1, h2] at this
    omega
  refine ⟨UInt8.ofNat k.toNat, [], ?_, trivial, rfl⟩
  show _ = [Value.int .u8 _]
  rw [UInt8.toNat_ofNat']
  congr 2
  omega
end Go.Proofs.YthabmofkjdiccaaGreatDoor
