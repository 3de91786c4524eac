/- Parts of the proof: Dx, Dy, Ms, B10, WIncidents, LawL, Dr, Open, Ob. -/
import Derived.Test.YthabmofkjdiccaaGreatDoorG07
import Derived.Test.YthabmofkjdiccaaGreatDoorG01
import Derived.Test.YthabmofkjdiccaaGreatDoorG02
import Derived.Test.YthabmofkjdiccaaGreatDoorG06
import Derived.Deep.CutRange
import Derived.LaidMore
import Derived.Stop.Joined
import Derived.Laws.Tables
import GoSem.PinnedTables
import Derived.Deep.Slices
import Derived.Deep.Fields
import Derived.OpenShut
namespace Go.Proofs.YthabmofkjdiccaaGreatDoor
open Go.RowKit
set_option linter.unusedVariables false

theorem dgt_ok (k : Nat) (hk : k < 10) : digB (UInt8.ofNat (48 + k)) = true ∧ (UInt8.ofNat (48 + k)).toNat = 48 + k := by
  have e : (UInt8.ofNat (48 + k)).toNat = 48 + k := by rw [UInt8.toNat_ofNat']; omega
  exact ⟨digB_iff.2 (by omega), e⟩
theorem dgt_nb (k : Nat) (hk : k < 10) : UInt8.ofNat (48 + k) ≠ 32 := by
  intro e
  have := congrArg UInt8.toNat e
  rw [UInt8.toNat_ofNat'] at this
  simp at this
  omega
theorem fN_four {a b c d : Nat} (ha : a < 10) (hb : b < 10) (hc : c < 10) (hd : d < 10) : fN [UInt8.ofNat (48 + a), UInt8.ofNat (48 + b), UInt8.ofNat (48 + c), UInt8.ofNat (48 + d)] = ((((a * 10 + b) * 10 + c) * 10 + d : Nat) : Int) := by
  rw [fN_ok (by rw [List.all_cons, List.all_cons, List.all_cons, List.all_cons, List.all_nil, (dgt_ok a ha).1, (dgt_ok b hb).1, (dgt_ok c hc).1, (dgt_ok d hd).1]; rfl)]
  rw [valL_cons, valL_cons, valL_cons, valL_cons, valL_nil, (dgt_ok a ha).2, (dgt_ok b hb).2, (dgt_ok c hc).2, (dgt_ok d hd).2]
  omega
theorem fN_two {a b : Nat} (ha : a < 10) (hb : b < 10) : fN [UInt8.ofNat (48 + a), UInt8.ofNat (48 + b)] = ((a * 10 + b : Nat) : Int) := by
  rw [fN_ok (by rw [List.all_cons, List.all_cons, List.all_nil, (dgt_ok a ha).1, (dgt_ok b hb).1]; rfl)]
  rw [valL_cons, valL_cons, valL_nil, (dgt_ok a ha).2, (dgt_ok b hb).2]
  omega
theorem dayL_form {y m d : Int} (h : dateOk y m d) : dayL y m d = [UInt8.ofNat (48 + y.toNat / 1000), UInt8.ofNat (48 + y.toNat / 100 % 10), UInt8.ofNat (48 + y.toNat / 10 % 10), UInt8.ofNat (48 + y.toNat % 10), 45, UInt8.ofNat (48 + m.toNat / 10), UInt8.ofNat (48 + m.toNat % 10), 45, UInt8.ofNat (48 + d.toNat / 10), UInt8.ofNat (48 + d.toNat % 10)] := by
  unfold dayL
  rw [yearL h.1.1 h.1.2]
  rfl
theorem rdF_back {y m d : Int} (h : dateOk y m d) : rdF (dayS y m d) = some (numD y m d) := by
  obtain ⟨⟨h1, h2⟩, ⟨h3, h4⟩, h5, h6⟩ := id h
  have hlm := lenM_pos y h3 h4
  have hl : (dayS y m d).data.toList = [UInt8.ofNat (48 + y.toNat / 1000), UInt8.ofNat (48 + y.toNat / 100 % 10), UInt8.ofNat (48 + y.toNat / 10 % 10), UInt8.ofNat (48 + y.toNat % 10), 45, UInt8.ofNat (48 + m.toNat / 10), UInt8.ofNat (48 + m.toNat % 10), 45, UInt8.ofNat (48 + d.toNat / 10), UInt8.ofNat (48 + d.toNat % 10)] := by
    unfold dayS
    rw [dayL_form h]
  have ey : yF (dayS y m d).data.toList = y := by
    rw [hl]
    show fN [_, _, _, _] = y
    rw [fN_four (by omega) (by omega) (by omega) (by omega)]; omega
  have em : mF (dayS y m d).data.toList = m := by
    rw [hl]
    show fN [_, _] = m
    rw [fN_two (by omega) (by omega)]; omega
  have ed : dF (dayS y m d).data.toList = d := by
    rw [hl]
    show fN [_, _] = d
    rw [fN_two (by omega) (by omega)]; omega
  rw [rdF_some (dayS_size h) (by rw [hl]; rfl) (by rw [hl]; rfl) (by rw [ey, em, ed]; exact h), ey, em, ed]
theorem dayS_noblank {y m d : Int} (h : dateOk y m d) : ∀ b ∈ (dayS y m d).data.toList, b ≠ 32 := by
  obtain ⟨⟨h1, h2⟩, ⟨h3, h4⟩, h5, h6⟩ := id h
  have hlm := lenM_pos y h3 h4
  unfold dayS
  rw [dayL_form h]
  intro b hb
  simp only [List.mem_cons, List.not_mem_nil, or_false] at hb
  rcases hb with rfl | rfl | rfl | rfl | rfl | rfl | rfl | rfl | rfl | rfl
  · exact dgt_nb _ (by omega)
  · exact dgt_nb _ (by omega)
  · exact dgt_nb _ (by omega)
  · exact dgt_nb _ (by omega)
  · decide
  · exact dgt_nb _ (by omega)
  · exact dgt_nb _ (by omega)
  · decide
  · exact dgt_nb _ (by omega)
  · exact dgt_nb _ (by omega)
/-- The text of a valid day of verification is read back. -/
theorem rvF_back {x : DVerified} {y m d : Int} (hv : verB x = true) (h : dateOk y m d) (hd : x.day = numD y m d) : rvF (vtF x (dayS y m d)) = some x := by
  have hv2 := hv
  unfold verB inB at hv2
  simp only [Bool.and_eq_true, decide_eq_true_eq] at hv2
  have hf : fitsL [x.told, x.seen] = true := fitsL_of (by show 2 ≤ 64; decide) (fun z hz => by
    simp only [List.mem_cons, List.not_mem_nil, or_false] at hz
    rcases hz with rfl | rfl <;> omega)
  have e : vtF x (dayS y m d) = widT (dayS y m d) [x.told, x.seen] := by unfold vtF widT; rw [if_pos hv]
  rw [e]
  obtain ⟨hA, hZ⟩ := widT_cut (dayS_noblank h) hf
  have hr := rlF_list hf
  rw [rvF_yes (d := numD y m d) (p := x.told) (q := x.seen) (by rw [hZ, oneK_some hr]; rfl) (by rw [hZ]; exact numK_some hr rfl) (by rw [hA]; exact rdF_back h) (by rw [← hd]; exact hv), ← hd]
theorem vtF_size {x : DVerified} {t : ByteArray} (hok : fVerified.ok x) (ht : t.size = 10) : (vtF x t).size ≤ 1048576 := by
  unfold vtF
  split
  · have hl : ∀ y ∈ [x.told, x.seen], fInt.ok y := fun y hy => by
      simp only [List.mem_cons, List.not_mem_nil, or_false] at hy
      rcases hy with rfl | rfl
      · exact hok.2.1
      · exact hok.2.2
    have hs := listS_size hl
    unfold listT
    split
    · rw [ByteArray.size_append, ByteArray.size_append, ht]
      have e1 : (⟨#[32]⟩ : ByteArray).size = 1 := rfl
      have e2 : [x.told, x.seen].length = 2 := rfl
      rw [e1]
      rw [e2] at hs
      omega
    · rw [ByteArray.size_append, ByteArray.size_append, ht]
      show 10 + 1 + 0 ≤ _; omega
  · show 0 ≤ _; omega
end Go.Proofs.YthabmofkjdiccaaGreatDoor

namespace Go.Proofs.YthabmofkjdiccaaGreatDoor
open Go.RowKit
set_option linter.unusedVariables false

theorem riF_back {x : DIncident} {y m d : Int} (hv : incB x = true) (h : dateOk y m d) (hd : x.day = numD y m d) : riF (itF x (dayS y m d)) = some x := by
  have hv2 := hv
  unfold incB inB at hv2
  simp only [Bool.and_eq_true, decide_eq_true_eq] at hv2
  obtain ⟨⟨⟨⟨⟨⟨a1, a2⟩, a3⟩, a4⟩, a5, a6⟩, a7, a8⟩, a9, a10⟩ := hv2
  have hf : fitsL [x.level, x.caught, x.buried] = true := fitsL_of (by show 3 ≤ 64; decide) (fun z hz => by
    simp only [List.mem_cons, List.not_mem_nil, or_false] at hz
    rcases hz with rfl | rfl | rfl <;> omega)
  have e : itF x (dayS y m d) = dayS y m d ++ ⟨#[32]⟩ ++ x.place ++ ⟨#[32]⟩ ++ x.cause ++ ⟨#[32]⟩ ++ listS [x.level, x.caught, x.buried] := by
    unfold itF listT
    rw [if_pos hv, if_pos hf]
  have hs : splS 32 (itF x (dayS y m d)) = [dayS y m d, x.place, x.cause, listS [x.level, x.caught, x.buried]] := by
    refine (splS_of ?_).symm
    rw [e, List.map_cons, List.map_cons, List.map_cons, List.map_cons, List.map_nil]
    rw [show (dayS y m d ++ ⟨#[32]⟩ ++ x.place ++ ⟨#[32]⟩ ++ x.cause ++ ⟨#[32]⟩ ++ listS [x.level, x.caught, x.buried]).data.toList = (dayS y m d).data.toList ++ 32 :: (x.place.data.toList ++ 32 :: (x.cause.data.toList ++ 32 :: (listS [x.level, x.caught, x.buried]).data.toList)) by simp [Go.Joins.data_append]]
    rw [splL_app 32 _ _ (dayS_noblank h), splL_app 32 _ _ (name_noblank a3), splL_app 32 _ _ (name_noblank a4), splL_none (listS_noblank _)]
  have hr := rlF_list hf
  rw [riF_yes (d := numD y m d) (p := x.level) (q := x.caught) (r := x.buried) hs (by rw [oneK_some hr]; rfl) (numK_some hr rfl) (rdF_back h) (by rw [← hd]; exact hv), ← hd]
theorem itF_size {x : DIncident} {t : ByteArray} (hok : fIncident.ok x) (ht : t.size = 10) : (itF x t).size ≤ 1048576 := by
  unfold itF
  split
  · rename_i hv
    unfold incB at hv
    simp only [Bool.and_eq_true] at hv
    have h1 := nameB_size hv.1.1.1.1.2
    have h2 := nameB_size hv.1.1.1.2
    have hl : ∀ y ∈ [x.level, x.caught, x.buried], fInt.ok y := fun y hy => by
      simp only [List.mem_cons, List.not_mem_nil, or_false] at hy
      rcases hy with rfl | rfl | rfl
      · exact hok.2.2.2.1
      · exact hok.2.2.2.2.1
      · exact hok.2.2.2.2.2
    have hs := listS_size hl
    have e2 : [x.level, x.caught, x.buried].length = 3 := rfl
    rw [e2] at hs
    have e1 : (⟨#[32]⟩ : ByteArray).size = 1 := rfl
    have hz : (listT [x.level, x.caught, x.buried]).size ≤ 67 := by
      unfold listT
      split
      · omega
      · show 0 ≤ _; omega
    simp only [ByteArray.size_append, ht, e1]
    omega
  · show 0 ≤ _; omega
end Go.Proofs.YthabmofkjdiccaaGreatDoor

namespace Go.Proofs.YthabmofkjdiccaaGreatDoor
open Go.RowKit
set_option linter.unusedVariables false

/-! ### strings in a list -/
def memS (s : ByteArray) (xs : List ByteArray) : Bool := xs.any fun x => decide (x = s)
def NotS (xs : List ByteArray) (s : ByteArray) (k : Nat) : Prop := ∀ j (hj : j < k) (h : j < xs.length), xs[j] ≠ s
theorem NotS.zero {xs : List ByteArray} {s : ByteArray} : NotS xs s 0 := fun j hj => absurd hj (Nat.not_lt_zero _)
theorem NotS.step {xs : List ByteArray} {s : ByteArray} {k : Nat} (h : k < xs.length) (he : xs[k] ≠ s) (h0 : NotS xs s k) : NotS xs s (k + 1) := by
  intro j hj hl
  by_cases e : j = k
  · subst e; exact he
  · exact h0 j (by omega) hl
theorem NotS.none {xs : List ByteArray} {s : ByteArray} {k : Nat} (h : xs.length ≤ k) (h0 : NotS xs s k) : memS s xs = false := by
  unfold memS
  rw [List.any_eq_false]
  intro x hm
  obtain ⟨j, hj, e⟩ := List.getElem_of_mem hm
  have := h0 j (by omega) hj
  rw [e] at this
  simpa using this
theorem inS {xs : List ByteArray} {s : ByteArray} {k : Nat} (h : k < xs.length) (he : xs[k] = s) : memS s xs = true := by
  unfold memS
  rw [List.any_eq_true]
  exact ⟨xs[k], List.getElem_mem h, by simpa using he⟩
theorem memS_true {xs : List ByteArray} {s : ByteArray} : memS s xs = true ↔ s ∈ xs := by
  unfold memS; rw [List.any_eq_true]
  constructor
  · rintro ⟨x, hx, he⟩
    have he := of_decide_eq_true he
    subst he; exact hx
  · intro h; exact ⟨s, h, decide_eq_true rfl⟩
def memI (n : Int) (xs : List Int) : Bool := xs.any fun x => decide (x = n)
def NotI (xs : List Int) (n : Int) (k : Nat) : Prop := ∀ j (hj : j < k) (h : j < xs.length), xs[j] ≠ n
theorem NotI.zero {xs : List Int} {n : Int} : NotI xs n 0 := fun j hj => absurd hj (Nat.not_lt_zero _)
theorem NotI.step {xs : List Int} {n : Int} {k : Nat} (h : k < xs.length) (he : xs[k] ≠ n) (h0 : NotI xs n k) : NotI xs n (k + 1) := by
  intro j hj hl
  by_cases e : j = k
  · subst e; exact he
  · exact h0 j (by omega) hl
theorem NotI.none {xs : List Int} {n : Int} {k : Nat} (h : xs.length ≤ k) (h0 : NotI xs n k) : memI n xs = false := by
  unfold memI
  rw [List.any_eq_false]
  intro x hm
  obtain ⟨j, hj, e⟩ := List.getElem_of_mem hm
  have := h0 j (by omega) hj
  rw [e] at this
  simpa using this
theorem inI {xs : List Int} {n : Int} {k : Nat} (h : k < xs.length) (he : xs[k] = n) : memI n xs = true := by
  unfold memI
  rw [List.any_eq_true]
  exact ⟨xs[k], List.getElem_mem h, by simpa using he⟩
theorem memI_true {xs : List Int} {n : Int} : memI n xs = true ↔ n ∈ xs := by
  unfold memI; rw [List.any_eq_true]
  constructor
  · rintro ⟨x, hx, he⟩
    have he := of_decide_eq_true he
    subst he; exact hx
  · intro h; exact ⟨n, h, decide_eq_true rfl⟩
set_option maxRecDepth 100000 in
set_option maxHeartbeats 2000000 in
theorem b10Has_any (v : Value) (xs : List Int) (fp : List Nat) (n : Int) (w : World) (hx : Sl fInt.cod w v xs fp) :
    Calls Tryz.prog 11 #[v, .int .i64 n] w fun e w' => e = .returned (.bool (memI n xs)) ∧ w = w' := by
  obtain ⟨A, cap, rfl, hlen, hcap⟩ := hx.form
  go_enter Tryz.func11, Tryz.ntmps11
  go_wp2
  go_loop [5] (fun i => ∃ k : Nat, k ≤ xs.length ∧ i = .int .i64 k ∧ Hid (NotI xs n k)) (fun i => xs.length - (intOf i).toNat)
  case atStart => exact ⟨0, Nat.zero_le _, rfl, NotI.zero⟩
  case round =>
    obtain ⟨k, hk, rfl, H0⟩ := hrel
    by_cases hlt : k < xs.length
    · obtain ⟨b, off, rfl, _, hok, hc, _⟩ := hx.cell1 rfl hlt rfl
      by_cases he : xs[k] = n
      · have HF := Lib.hid (inI hlt he)
        have e6 : (xs[k] == n) = true := by rw [beq_iff_eq]; exact he
        clear he
        go_wp2
        go_ret
        exact ⟨ret_bool HF.out.symm, rfl⟩
      · have HS := Lib.hid (NotI.step hlt he H0.out)
        have e6 : (xs[k] == n) = false := by rw [beq_eq_false_iff_ne]; exact he
        clear he
        go_wp2
        go_round
        case rel => exact ⟨k + 1, by omega, by go_num, HS⟩
        case measure => simp [intOf]; omega
    · have HF := Lib.hid (NotI.none (by omega) H0.out)
      go_wp2
      go_ret
      exact ⟨ret_bool HF.out.symm, rfl⟩
end Go.Proofs.YthabmofkjdiccaaGreatDoor

namespace Go.Proofs.YthabmofkjdiccaaGreatDoor
open Go.RowKit
set_option linter.unusedVariables false

set_option maxRecDepth 100000 in
set_option maxHeartbeats 400000 in
theorem b10Long_any (v : Value) (xs : List UInt8) (fp : List Nat) (w : World) (hx : Sl fByte.cod w v xs fp) :
    Calls Tryz.prog 5 #[v] w fun e w' => e = .returned (.bool (decide (1048576 < xs.length))) ∧ w = w' := by
  obtain ⟨A, cap, rfl, hlen, hcap⟩ := hx.form
  go_enter Tryz.func5, Tryz.ntmps5
  go_wp2
  go_ret
  refine ⟨?_, rfl⟩
  show Ending.returned (.bool _) = _
  congr 2
  rw [Bool.eq_iff_iff]
  simp <;> omega
/-- The number at index i lies in 0 .. n-1, and is greater than the one before it. -/
def riseAt (xs : List Int) (n : Int) (i : Nat) : Bool := inB (xs.getD i 0) 0 (n - 1) && (i == 0 || decide (xs.getD (i - 1) 0 < xs.getD i 0))
def risesB (xs : List Int) (n : Int) : Bool := allIdx (riseAt xs n) xs.length
theorem riseAt_in {xs : List Int} {n : Int} {k : Nat} (h : k < xs.length) : riseAt xs n k = (inB xs[k] 0 (n - 1) && (k == 0 || decide (xs.getD (k - 1) 0 < xs[k]))) := by
  unfold riseAt; rw [getD_of_lt h]
theorem riseAt_neg {xs : List Int} {n : Int} {k : Nat} (h : k < xs.length) (h1 : xs[k] < 0) : riseAt xs n k = false := by
  rw [riseAt_in h]; unfold inB; rw [decide_eq_false (by omega)]; rfl
theorem riseAt_far {xs : List Int} {n : Int} {k : Nat} (h : k < xs.length) (h1 : n ≤ xs[k]) : riseAt xs n k = false := by
  rw [riseAt_in h]; unfold inB; rw [decide_eq_false (by omega : ¬ xs[k] ≤ n - 1)]; simp
theorem riseAt_low {xs : List Int} {n : Int} {m : Nat} (h : m + 1 < xs.length) (h1 : xs[m + 1] ≤ xs[m]) : riseAt xs n (m + 1) = false := by
  rw [riseAt_in h, show m + 1 - 1 = m from rfl, getD_of_lt (by omega : m < xs.length), decide_eq_false (by omega)]
  simp
theorem riseAt_zero {xs : List Int} {n : Int} (h : 0 < xs.length) (h0 : (0 : Int) ≤ xs[0]) (h1 : xs[0] < n) : riseAt xs n 0 = true := by
  rw [riseAt_in h]; unfold inB; rw [decide_eq_true h0, decide_eq_true (by omega)]; rfl
theorem riseAt_ok {xs : List Int} {n : Int} {m : Nat} (h : m + 1 < xs.length) (h0 : (0 : Int) ≤ xs[m + 1]) (h1 : xs[m + 1] < n) (h2 : xs[m] < xs[m + 1]) : riseAt xs n (m + 1) = true := by
  rw [riseAt_in h, show m + 1 - 1 = m from rfl, getD_of_lt (by omega : m < xs.length), decide_eq_true h2]
  unfold inB; rw [decide_eq_true h0, decide_eq_true (by omega)]; simp
set_option maxRecDepth 100000 in
set_option maxHeartbeats 2000000 in
theorem b10Inside_any (v : Value) (xs : List ByteArray) (fp : List Nat) (s : ByteArray) (w : World) (hx : Sl fStr.cod w v xs fp) :
    Calls Tryz.prog 26 #[v, .string s] w fun e w' => e = .returned (.bool (memS s xs)) ∧ w = w' := by
  obtain ⟨A, cap, rfl, hlen, hcap⟩ := hx.form
  go_enter Tryz.func26, Tryz.ntmps26
  go_wp2
  go_loop [5] (fun i => ∃ k : Nat, k ≤ xs.length ∧ i = .int .i64 k ∧ Hid (NotS xs s k)) (fun i => xs.length - (intOf i).toNat)
  case atStart => exact ⟨0, Nat.zero_le _, rfl, NotS.zero⟩
  case round =>
    obtain ⟨k, hk, rfl, H0⟩ := hrel
    by_cases hlt : k < xs.length
    · obtain ⟨b, off, rfl, _, hok, hc, _⟩ := hx.cell1 rfl hlt rfl
      by_cases he : xs[k] = s
      · have HF := Lib.hid (inS hlt he)
        have e6 : (xs[k].toList == s.toList) = true := eqS_true.2 he
        clear he
        go_wp2
        go_ret
        exact ⟨ret_bool HF.out.symm, rfl⟩
      · have HS := Lib.hid (NotS.step hlt he H0.out)
        have e6 : (xs[k].toList == s.toList) = false := bytes_beq_false he
        clear he
        go_wp2
        go_round
        case rel => exact ⟨k + 1, by omega, by go_num, HS⟩
        case measure => simp [intOf]; omega
    · have HF := Lib.hid (NotS.none (by omega) H0.out)
      go_wp2
      go_ret
      exact ⟨ret_bool HF.out.symm, rfl⟩
end Go.Proofs.YthabmofkjdiccaaGreatDoor

namespace Go.Proofs.YthabmofkjdiccaaGreatDoor
open Go.RowKit
set_option linter.unusedVariables false

set_option maxRecDepth 100000 in
set_option maxHeartbeats 1000000 in
theorem specValidInc_any (v : Value) (xs : List DIncident) (fp : List Nat) (w : World) (hx : Sl fIncident.cod w v xs fp) :
    Calls Tryz.prog 24 #[v] w fun e w' => e = .returned (.bool (incsB xs)) ∧ Below w.heap.size w w' := by
  go_enter Tryz.func24, Tryz.ntmps24
  go_wp2_with fail
  refine (l28Ok_any _ xs fp _ hx).mono ?_
  rintro e w1 ⟨rfl, hb⟩
  go_wp2
  go_ret
  exact ⟨rfl, hb⟩
/-- What the law asks of sums by names. -/
theorem sb_law (f : DIncident → BN) {L : List DIncident} (hv : incsB L = true) (m : Int) (hm : ∀ x ∈ L, 0 ≤ (f x).2 ∧ (f x).2 ≤ m) (hm2 : 0 ≤ m ∧ m ≤ 20) :
    (sbD f L).length = (sbM f L).length ∧ (sbD f L).length ≤ 48 ∧ sumI (sbM f L) = totS (L.map f) ∧ (∀ x ∈ sbM f L, 0 ≤ x ∧ x ≤ 1000000) ∧ (∀ x ∈ L, memS (f x).1 (sbD f L) = true) ∧ SSrt (sbD f L) := by
  have e1 : sbD f L = cdF (nmS (L.map f)) := by unfold sbD; rw [if_pos hv]
  have e2 : sbM f L = (cdF (nmS (L.map f))).map (sumS (L.map f)) := by unfold sbM; rw [if_pos hv]
  have hl := incsB_len hv
  rw [e1, e2]
  have hpv : ∀ p ∈ L.map f, 0 ≤ p.2 ∧ p.2 ≤ m := fun p hp => by
    obtain ⟨y, hy, rfl⟩ := List.mem_map.1 hp
    exact hm y hy
  refine ⟨by rw [List.length_map], by have := sb_len f L; omega, by rw [sumI_sum, sum_names], fun x hx => ?_, fun x hx => ?_, cdF_ssrt _⟩
  · obtain ⟨s, _, rfl⟩ := List.mem_map.1 hx
    have h := sumS_bounds hpv s
    rw [List.length_map] at h
    have h2 : m * (L.length : Int) ≤ 20 * L.length := Int.mul_le_mul_of_nonneg_right hm2.2 (by omega)
    omega
  · rw [memS_true, cdF_mem]
    exact List.mem_map.2 ⟨f x, List.mem_map.2 ⟨x, hx, rfl⟩, rfl⟩
theorem tot_places (L : List DIncident) : totS (L.map prP) = L.length := by
  unfold totS
  induction L with
  | nil => rfl
  | cons x L ih => rw [List.map_cons, List.map_cons, List.sum_cons, ih, List.length_cons]; show 1 + (L.length : Int) = _; omega
def cauS : List DIncident → Int
  | [] => 0
  | x :: L => x.caught + cauS L
theorem cauS_snoc (L : List DIncident) (x : DIncident) : cauS (L ++ [x]) = cauS L + x.caught := by
  induction L with
  | nil => show x.caught + 0 = 0 + x.caught; omega
  | cons y L ih => show y.caught + cauS (L ++ [x]) = y.caught + cauS L + x.caught; rw [ih]; omega
theorem tot_causes (L : List DIncident) : totS (L.map prC) = cauS L := by
  unfold totS
  induction L with
  | nil => rfl
  | cons x L ih => rw [List.map_cons, List.map_cons, List.sum_cons, ih]; rfl
set_option maxRecDepth 100000 in
set_option maxHeartbeats 16000000 in
theorem walkIncidents (v0 : Value) (xs0 : List UInt8) (fp0 : List Nat) (v1 : Value) (xs1 : List UInt8) (fp1 : List Nat) (w : World) (hx0 : Sl fByte.cod w v0 xs0 fp0) (hx1 : Sl fByte.cod w v1 xs1 fp1) (hsh : w.ShapedOpen Tryz.prog) (hrd : RdTabs w) :
    Calls Tryz.prog 4 #[v0, v1] w fun e w' => YesR w e w' := by
  obtain ⟨mx, hm⟩ := maxLen_cell hsh
  clear hsh
  go_enter Tryz.func4, Tryz.ntmps4
  go_wp2_with fail
  refine (b10Long_any _ _ _ _ hx0).mono ?_
  rintro e w' ⟨rfl, rfl⟩
  cases hl0 : decide (1048576 < xs0.length)
  case true =>
    go_wp2
    go_ret
    exact ⟨rfl, Below.refl _ _⟩
  clear hl0
  go_wp2_with fail
  refine (b10Long_any _ _ _ _ hx1).mono ?_
  rintro e w' ⟨rfl, rfl⟩
  cases hl1 : decide (1048576 < xs1.length)
  case true =>
    go_wp2
    go_ret
    exact ⟨rfl, Below.refl _ _⟩
  clear hl1
  go_wp2_with fail
  refine (DrawAddIncident_any _ _ _ _ hx0).mono ?_
  rintro e w1 ⟨y0, ys, x, fq, rfl, hys, hsmy, hyl, hsm, hb1⟩
  have hokx := hsm.ok
  obtain ⟨A0, k0, rfl, _, _⟩ := hys.form
  have hAl : Below w1.heap.size w1 (w1.alloc (.cells #[.int .i64 x.day, .string x.place, .string x.cause, .int .i64 x.level, .int .i64 x.caught, .int .i64 x.buried] 48)) := (Below.refl _ _).alloc (Nat.le_refl _) _
  have hp2 := PIncident.box w1 x 48
  unfold agIncident
  go_wp2_with fail
  refine (addIncident_any _ ys fq x _ (hys.below' hAl) hokx).mono ?_
  rintro e w2 ⟨vn, rfl, ⟨⟨fl, hsl, _, _⟩, hbN⟩⟩
  replace hp2 := hp2.below' hbN
  replace hbN : Below w1.heap.size w1 w2 := hAl.trans (hbN.mono (by simp))
  have hB2 := hb1.trans (hbN.mono hb1.size)
  replace hx1 := hx1.below' hB2
  replace hrd := hrd.below hB2
  replace hm := cell_below hB2 hm
  obtain ⟨A1, k1, rfl, _, _⟩ := hsl.form
  clear hAl hbN hb1 hys hsmy hx0
  generalize w1.heap.size = bx at *
  go_upto_if 49 with fail
  go_cut [7, 8, 9, 10, 11, 12, 13, 14, 15, 16, 17, 18, 19, 20, 21, 22] from 31 (fun _ _ _ _ _ _ _ _ _ _ _ _ _ _ _ _ wx => Below w2.heap.size w2 wx)
  case first =>
    by_cases hc : addIncidentC ys x = 0
    rotate_left
    · have e1 : (addIncidentC ys x == 0) = false := by rw [beq_eq_false_iff_ne]; exact hc
      generalize addIncidentC ys x = cc at *
      clear hc
      go_wp2
      go_meet
      case rel => exact Below.refl _ _
    obtain ⟨hvn, hlen, k, hk, hkx⟩ := addInc_valid hc
    obtain ⟨_, hox, _, _⟩ := addIncident_ok hc
    rw [hc]
    have hlen48 := incsB_len hvn
    have HLEN := Lib.hid hlen
    have HVN := Lib.hid hvn
    have hva := incs_one hvn
    clear hc hlen
    generalize addIncidentF ys x = L at *
    have hxm : x ∈ L := by rw [← hkx]; exact List.getElem_mem hk
    have hL0 : 0 < L.length := by omega
    clear hkx hk
    obtain ⟨p1, p2, p3, p4, p5, p6⟩ := sb_law prP hvn 1 (fun y _ => ⟨by show (0 : Int) ≤ 1; decide, by show (1 : Int) ≤ 1; decide⟩) (by decide)
    obtain ⟨q1, q2, q3, q4, q5, q6⟩ := sb_law prC hvn 20 (fun y hy => by have := incB_parts (hva y hy); show 0 ≤ y.caught ∧ y.caught ≤ 20; omega) (by decide)
    replace p1 := Lib.hid p1
    replace q1 := Lib.hid q1
    have p7 := Lib.hid (p3.trans (tot_places L))
    have q7 := Lib.hid (q3.trans (tot_causes L))
    have p8 := p5 x hxm
    have q8 := q5 x hxm
    have hbC : sbC L = 0 := by unfold sbC; rw [hvn]; rfl
    clear p3 q3 p5 q5 hvn q6
    go_wp2_with fail
    refine (PlacesOf_any _ L fl _ hsl).mono ?_
    rintro e w3 ⟨vp, vc, rfl, fpp, fpc, hpp, hpc, _, _, _, _, _, hb3⟩
    rw [hbC]
    replace hsl := hsl.below' hb3
    replace hp2 := hp2.below' hb3
    replace hrd := hrd.below hb3
    replace hm := cell_below hb3 hm
    generalize sbD prP L = PD at *
    generalize sbM prP L = PM at *
    obtain ⟨A3, k3, rfl, _, _⟩ := hpp.form
    obtain ⟨A4, k4, rfl, _, _⟩ := hpc.form
    go_wp2_with fail
    refine (CausesBy_any _ L fl _ hsl).mono ?_
    rintro e w4 ⟨vp2, vc2, rfl, fpp2, fpc2, hpp2, hpc2, _, _, _, _, _, hb4⟩
    rw [hbC]
    replace hsl := hsl.below' hb4
    replace hp2 := hp2.below' hb4
    replace hrd := hrd.below hb4
    replace hm := cell_below hb4 hm
    replace hpp := hpp.below' hb4
    replace hpc := hpc.below' hb4
    replace hb4 := hb3.trans (hb4.mono hb3.size)
    clear hb3 hbC
    generalize sbD prC L = CD at *
    generalize sbM prC L = CM at *
    obtain ⟨A5, k5, rfl, _, _⟩ := hpp2.form
    obtain ⟨A6, k6, rfl, _, _⟩ := hpc2.form
    obtain ⟨d0, d1, d2, d3, d4, d5⟩ := id hp2
    obtain ⟨v1, v2, _⟩ := incB_parts hox
    obtain ⟨dy, dm, dd, hdok, hdn⟩ := day_has v1 v2
    have hdz := itF_size (x := x) hokx (dayS_size hdok)
    have hback := Lib.hid (riF_back hox hdok hdn)
    replace hdn := Lib.hid hdn
    clear v1 v2
    go_wp2_with fail
    refine (IncidentText_any x dy dm dd _ hdok hdn.out hokx hrd.tab).mono ?_
    rintro e w5 ⟨rfl, hb5⟩
    replace hsl := hsl.below' hb5
    replace hp2 := hp2.below' hb5
    replace hrd := hrd.below hb5
    replace hm := cell_below hb5 hm
    replace hpp := hpp.below' hb5
    replace hpc := hpc.below' hb5
    replace hpp2 := hpp2.below' hb5
    replace hpc2 := hpc2.below' hb5
    replace hb5 := hb4.trans (hb5.mono hb4.size)
    clear hb4 hdn d0 d1 d2 d3 d4 d5
    generalize itF x (dayS dy dm dd) = tx at *
    go_wp2_with fail
    refine (implReadIncident_any tx mx _ hdz hm hrd).mono ?_
    rintro e w6 ⟨hr, hb6⟩
    unfold IRet at hr
    rw [hback.out] at hr
    subst hr
    have hAl : Below w6.heap.size w6 (w6.alloc (.cells #[.int .i64 x.day, .string x.place, .string x.cause, .int .i64 x.level, .int .i64 x.caught, .int .i64 x.buried] 48)) := (Below.refl _ _).alloc (Nat.le_refl _) _
    have hq9 := PIncident.box w6 x 48
    replace hb6 := hb6.trans (hAl.mono hb6.size)
    replace hsl := hsl.below' hb6
    replace hp2 := hp2.below' hb6
    replace hpp := hpp.below' hb6
    replace hpc := hpc.below' hb6
    replace hpp2 := hpp2.below' hb6
    replace hpc2 := hpc2.below' hb6
    replace hb6 := hb5.trans (hb6.mono hb5.size)
    clear hb5 hm hrd hback hdz hAl hdok hokx hsm
    unfold iAg
    simp only [Option.getD_some, Option.isSome_some]
    go_wp2_with fail
    refine (specValidInc_any _ L fl _ hsl).mono ?_
    rintro e w7 ⟨rfl, hb7⟩
    rw [HVN.out]
    replace hsl := hsl.below' hb7
    replace hp2 := hp2.below' hb7
    replace hq9 := hq9.below' hb7
    replace hpp := hpp.below' hb7
    replace hpc := hpc.below' hb7
    replace hpp2 := hpp2.below' hb7
    replace hpc2 := hpc2.below' hb7
    replace hb7 := hb6.trans (hb7.mono hb6.size)
    clear hb6
    have elen : ((L.length : Int) != (ys.length : Int) + 1) = false := by rw [HLEN.out]; simp
    have el1 : ((PD.length : Int) != (PM.length : Int)) = false := by rw [p1.out]; simp
    have el2 : ((CD.length : Int) != (CM.length : Int)) = false := by rw [q1.out]; simp
    obtain ⟨c0, c1, c2, c3, c4, c5⟩ := id hp2
    obtain ⟨d0, d1, d2, d3, d4, d5⟩ := id hq9
    have hPM : PM.length ≤ 1000000 := by have := p1.out; omega
    have hCM : CM.length ≤ 1000000 := by have := q1.out; omega
    clear p1 q1
    go_wp2_with fail
    refine (b10Sum_any _ PM fpc _ hpc p4 hPM).mono ?_
    rintro e w' ⟨rfl, rfl⟩
    rw [p7.out]
    clear p4 hpc
    go_wp2
    go_loopw [17, 18] (fun s i wr => ∃ (k : Nat) (c : Int), k ≤ L.length ∧ Hid (cauS (L.take k) = c) ∧ 0 ≤ c ∧ c ≤ 20 * k ∧ s = .int .i64 c ∧ i = .int .i64 k ∧ Below w7.heap.size w7 wr) (fun _ i _ => L.length - (intOf i).toNat)
    case atStart => exact ⟨0, 0, Nat.zero_le _, rfl, by decide, by decide, rfl, rfl, Below.refl _ _⟩
    case round =>
      clear c0 c1 c2 c3 c4 c5 d0 d1 d2 d3 d4 d5 elen el1 el2 hq9
      obtain ⟨k, c, hk, HS, g0, g1, rfl, rfl, hb⟩ := hrel
      by_cases hlt : k < L.length
      · obtain ⟨b, off, rfl, _, _, hp⟩ := PIncident.elem (hsl.below' hb) hlt
        obtain ⟨c0, c1, c2, c3, c4, c5⟩ := id hp
        have hcb := incB_parts (hva _ (List.getElem_mem hlt))
        have hcb2 : 0 ≤ L[k].caught ∧ L[k].caught ≤ 20 := by omega
        have HN : Hid (cauS (L.take (k + 1)) = c + L[k].caught) := by show _ = _; rw [List.take_succ_eq_append_getElem hlt, cauS_snoc, HS.out]
        clear hcb hp
        go_wp2
        go_roundw
        case rel => exact ⟨k + 1, _, by omega, HN, by omega, by omega, by go_num, by go_num, hb⟩
        case measure => simp [intOf]; omega
      · have HF : Hid (cauS L = c) := by show _ = _; rw [← HS.out, List.take_of_length_le (by omega)]
        replace hsl := hsl.below' hb
        replace hp2 := hp2.below' hb
        replace hpp := hpp.below' hb
        replace hpp2 := hpp2.below' hb
        replace hpc2 := hpc2.below' hb
        replace hb7 := hb7.trans (hb.mono hb7.size)
        obtain ⟨c0, c1, c2, c3, c4, c5⟩ := id hp2
        clear hb HS
        go_wp2_with fail
        refine (b10Sum_any _ CM fpc2 _ hpc2 q4 hCM).mono ?_
        rintro e w' ⟨rfl, rfl⟩
        rw [q7.out.trans HF.out]
        clear hpc2 q4
        go_wp2_with fail
        refine (b10Inside_any _ PD fpp _ _ hpp).mono ?_
        rintro e w' ⟨rfl, rfl⟩
        rw [show memS x.place PD = true from p8]
        go_wp2_with fail
        refine (b10Inside_any _ CD fpp2 _ _ hpp2).mono ?_
        rintro e w' ⟨rfl, rfl⟩
        rw [show memS x.cause CD = true from q8]
        clear hpp2 p8 q8 hp2 c0 c1 c2 c3 c4 c5
        rename World => wA
        go_wp2
        go_loopw [19] (fun i wr => ∃ k : Nat, k ≤ PD.length ∧ i = .int .i64 ((k : Int) + 1) ∧ Below wA.heap.size wA wr) (fun i _ => 50 - (intOf i).toNat)
        case atStart => exact ⟨0, Nat.zero_le _, rfl, Below.refl _ _⟩
        case round =>
          obtain ⟨j, hj, rfl, hb⟩ := hrel
          by_cases hlt2 : j + 1 < PD.length
          · have hlt' : (j : Int) + 1 < (PD.length : Int) := by omega
            obtain ⟨b, off, rfl, _, _, n0, _⟩ := (hpp.below' hb).cell1 rfl (k := j) (by omega) rfl
            obtain ⟨b', off', hA, _, _, n1, _⟩ := (hpp.below' hb).cell1 rfl (k := j + 1) hlt2 rfl
            injection hA with hA
            injection hA with hA1 hA2 _
            subst hA1 hA2
            have hss : ltS PD[j] PD[j + 1] = true := List.pairwise_iff_getElem.1 p6 j (j + 1) (by omega) hlt2 (by omega)
            have hss2 : Op.bytesLess PD[j].toList PD[j + 1].toList = true := hss
            have n0' : wr.cell? ⟨b, off + j, none⟩ = some (.string PD[j]) := by simpa using n0
            have n1' : wr.cell? ⟨b, off + (j + 1), none⟩ = some (.string PD[j + 1]) := by simpa using n1
            clear n0 n1 hss
            generalize PD[j + 1] = s2 at *
            generalize PD[j]'(by omega) = s1 at *
            go_wp2
            have gn0_ := cell_regrown n0'
            have gn1_ := cell_regrown n1'
            refine wp_region_mix (C := fun w' => ∃ p : Regrown, w' = Go.Sort.grow (redrawn wr p.d) p.os) [true, true, true, true, true, true, true, true, true, true] (by kernel_rfl) (by kernel_rfl) (by kernel_rfl) (fun _ _ d _ _ h => by cases d <;> exact h) (regrown_of_below (Below.drew (Below.refl _ _))) ?_
            have hS0 : Below (wr.heap.size) wr wr.drew := Below.drew (Below.refl _ _)
            refine wpMix_pure (by kernel_rfl) (fun K hK => ?_); go_big_quiet_op; refine hK _ ?_; clear hK K
            refine wpMix_pure (by kernel_rfl) (fun K hK => ?_); go_big_quiet_op; refine hK _ ?_; clear hK K
            refine wpMix_pure (by kernel_rfl) (fun K hK => ?_); go_big_quiet_op; refine hK _ ?_; clear hK K
            refine wpMix_pure (by kernel_rfl) (fun K hK => ?_); go_big_quiet_op; refine hK _ ?_; clear hK K
            refine wpMix_pure (by kernel_rfl) (fun K hK => ?_); go_big_quiet_op; refine hK _ ?_; clear hK K
            refine wpMix_pure (by kernel_rfl) (fun K hK => ?_); go_big_quiet_op; refine hK _ ?_; clear hK K
            refine wpMix_pure (by kernel_rfl) (fun K hK => ?_); go_big_quiet_op; refine hK _ ?_; clear hK K
            refine wpMix_pure (by kernel_rfl) (fun K hK => ?_); go_big_quiet_op; refine hK _ ?_; clear hK K
            refine wpMix_pure (by kernel_rfl) (fun K hK => ?_); go_big_quiet_op; refine hK _ ?_; clear hK K
            refine wpMix_pure (by kernel_rfl) (fun K hK => ?_); go_big_quiet_op; refine hK _ ?_; clear hK K
            refine wpMix_nil ?_
            go_wp2
            go_roundw
            case rel => exact ⟨j + 1, by omega, by go_num, hb.trans ((hS0).mono hb.size)⟩
            case measure => simp [intOf]; omega
          · have hlt' : ¬ (j : Int) + 1 < (PD.length : Int) := by omega
            replace hsl := hsl.below' hb
            replace hb7 := hb7.trans (hb.mono hb7.size)
            clear hb hpp p6
            go_wp2_with fail
            refine (WorstOf_any _ L fl _ hsl HVN.out hL0).mono ?_
            rintro e w8 ⟨m, hm, rfl, hwo, hb8⟩
            replace hsl := hsl.below' hb8
            replace hb7 := hb7.trans (hb8.mono hb7.size)
            have hm2 : ¬ (L.length : Int) ≤ (m : Int) := by omega
            clear hb8
            go_wp2
            go_loopw [22] (fun i wr => ∃ k : Nat, k ≤ L.length ∧ i = .int .i64 k ∧ Below w8.heap.size w8 wr) (fun i _ => L.length - (intOf i).toNat)
            case atStart => exact ⟨0, Nat.zero_le _, rfl, Below.refl _ _⟩
            case round =>
              obtain ⟨i, hi, rfl, hb⟩ := hrel
              by_cases hlt3 : i < L.length
              · obtain ⟨b, off, rfl, _, _, hp⟩ := PIncident.elem (hsl.below' hb) hlt3
                obtain ⟨b', off', hA, _, _, hq⟩ := PIncident.elem (hsl.below' hb) hm
                injection hA with hA
                injection hA with hA1 hA2 _
                subst hA1 hA2
                obtain ⟨c0, c1, c2, c3, c4, c5⟩ := id hp
                obtain ⟨d0, d1, d2, d3, d4, d5⟩ := id hq
                have hnw := hwo i hlt3
                unfold wors at hnw
                clear hp hq
                generalize L[i] = z at *
                generalize L[m] = u at *
                have hq10 : ¬ u.buried < z.buried := fun h => hnw (.inl h)
                by_cases hbb : z.buried = u.buried
                · have hq34 : ¬ u.caught < z.caught := fun h => hnw (.inr ⟨hbb, h⟩)
                  have e22 : (z.buried == u.buried) = true := by rw [beq_iff_eq]; exact hbb
                  clear hbb hnw
                  go_wp2
                  have gc4 := cell_regrown c4
                  have gc5 := cell_regrown c5
                  have gd4 := cell_regrown d4
                  have gd5 := cell_regrown d5
                  refine wp_region_mix (C := fun w' => ∃ p : Regrown, w' = Go.Sort.grow (redrawn wr p.d) p.os) [true, true, true, true, true, true, true, true, true, true, true, true, true, true, true, true, true, true, true, true, true, true, true, true, true, true, true, true, true, true, true, true, true, true, true, true, true] (by kernel_rfl) (by kernel_rfl) (by kernel_rfl) (fun _ _ d _ _ h => by cases d <;> exact h) (regrown_of_below (Below.drew (Below.refl _ _))) ?_
                  have hS0 : Below (wr.heap.size) wr wr.drew := Below.drew (Below.refl _ _)
                  refine wpMix_pure (by kernel_rfl) (fun K hK => ?_); go_big_quiet_op; refine hK _ ?_; clear hK K
                  refine wpMix_pure (by kernel_rfl) (fun K hK => ?_); go_big_quiet_op; refine hK _ ?_; clear hK K
                  refine wpMix_pure (by kernel_rfl) (fun K hK => ?_); go_big_quiet_op; refine hK _ ?_; clear hK K
                  refine wpMix_pure (by kernel_rfl) (fun K hK => ?_); go_big_quiet_op; refine hK _ ?_; clear hK K
                  refine wpMix_pure (by kernel_rfl) (fun K hK => ?_); go_big_quiet_op; refine hK _ ?_; clear hK K
                  refine wpMix_pure (by kernel_rfl) (fun K hK => ?_); go_big_quiet_op; refine hK _ ?_; clear hK K
                  refine wpMix_pure (by kernel_rfl) (fun K hK => ?_); go_big_quiet_op; refine hK _ ?_; clear hK K
                  refine wpMix_pure (by kernel_rfl) (fun K hK => ?_); go_big_quiet_op; refine hK _ ?_; clear hK K
                  refine wpMix_pure (by kernel_rfl) (fun K hK => ?_); go_big_quiet_op; refine hK _ ?_; clear hK K
                  refine wpMix_pure (by kernel_rfl) (fun K hK => ?_); go_big_quiet_op; refine hK _ ?_; clear hK K
                  have q10 : ¬ z.buried > u.buried := by omega
                  refine wpMix_pure (by kernel_rfl) (fun K hK => ?_); go_big_quiet_op; refine hK _ ?_; clear hK K
                  refine wpMix_pure (by kernel_rfl) (fun K hK => ?_); go_big_quiet_op; refine hK _ ?_; clear hK K
                  refine wpMix_pure (by kernel_rfl) (fun K hK => ?_); go_big_quiet_op; refine hK _ ?_; clear hK K
                  refine wpMix_pure (by kernel_rfl) (fun K hK => ?_); go_big_quiet_op; refine hK _ ?_; clear hK K
                  refine wpMix_pure (by kernel_rfl) (fun K hK => ?_); go_big_quiet_op; refine hK _ ?_; clear hK K
                  refine wpMix_pure (by kernel_rfl) (fun K hK => ?_); go_big_quiet_op; refine hK _ ?_; clear hK K
                  refine wpMix_pure (by kernel_rfl) (fun K hK => ?_); go_big_quiet_op; refine hK _ ?_; clear hK K
                  refine wpMix_pure (by kernel_rfl) (fun K hK => ?_); go_big_quiet_op; refine hK _ ?_; clear hK K
                  refine wpMix_pure (by kernel_rfl) (fun K hK => ?_); go_big_quiet_op; refine hK _ ?_; clear hK K
                  refine wpMix_pure (by kernel_rfl) (fun K hK => ?_); go_big_quiet_op; refine hK _ ?_; clear hK K
                  refine wpMix_pure (by kernel_rfl) (fun K hK => ?_); go_big_quiet_op; refine hK _ ?_; clear hK K
                  refine wpMix_pure (by kernel_rfl) (fun K hK => ?_); go_big_quiet_op; refine hK _ ?_; clear hK K
                  refine wpMix_pure (by kernel_rfl) (fun K hK => ?_); go_big_quiet_op; refine hK _ ?_; clear hK K
                  refine wpMix_pure (by kernel_rfl) (fun K hK => ?_); go_big_quiet_op; refine hK _ ?_; clear hK K
                  refine wpMix_pure (by kernel_rfl) (fun K hK => ?_); go_big_quiet_op; refine hK _ ?_; clear hK K
                  refine wpMix_pure (by kernel_rfl) (fun K hK => ?_); go_big_quiet_op; refine hK _ ?_; clear hK K
                  refine wpMix_pure (by kernel_rfl) (fun K hK => ?_); go_big_quiet_op; refine hK _ ?_; clear hK K
                  refine wpMix_pure (by kernel_rfl) (fun K hK => ?_); go_big_quiet_op; refine hK _ ?_; clear hK K
                  refine wpMix_pure (by kernel_rfl) (fun K hK => ?_); go_big_quiet_op; refine hK _ ?_; clear hK K
                  refine wpMix_pure (by kernel_rfl) (fun K hK => ?_); go_big_quiet_op; refine hK _ ?_; clear hK K
                  refine wpMix_pure (by kernel_rfl) (fun K hK => ?_); go_big_quiet_op; refine hK _ ?_; clear hK K
                  refine wpMix_pure (by kernel_rfl) (fun K hK => ?_); go_big_quiet_op; refine hK _ ?_; clear hK K
                  refine wpMix_pure (by kernel_rfl) (fun K hK => ?_); go_big_quiet_op; refine hK _ ?_; clear hK K
                  refine wpMix_pure (by kernel_rfl) (fun K hK => ?_); go_big_quiet_op; refine hK _ ?_; clear hK K
                  have q34 : ¬ z.caught > u.caught := by omega
                  refine wpMix_pure (by kernel_rfl) (fun K hK => ?_); go_big_quiet_op; refine hK _ ?_; clear hK K
                  refine wpMix_pure (by kernel_rfl) (fun K hK => ?_); go_big_quiet_op; refine hK _ ?_; clear hK K
                  refine wpMix_pure (by kernel_rfl) (fun K hK => ?_); go_big_quiet_op; refine hK _ ?_; clear hK K
                  refine wpMix_nil ?_
                  go_wp2
                  go_roundw
                  case rel => exact ⟨i + 1, by omega, by go_num, hb.trans ((hS0).mono hb.size)⟩
                  case measure => simp [intOf]; omega
                · have e22 : (z.buried == u.buried) = false := by rw [beq_eq_false_iff_ne]; exact hbb
                  clear hbb hnw
                  go_wp2
                  have gc4 := cell_regrown c4
                  have gc5 := cell_regrown c5
                  have gd4 := cell_regrown d4
                  have gd5 := cell_regrown d5
                  refine wp_region_mix (C := fun w' => ∃ p : Regrown, w' = Go.Sort.grow (redrawn wr p.d) p.os) [true, true, true, true, true, true, true, true, true, true, true, true, true, true, true, true, true, true, true, true, true, true, true, true, true, true, true, true, true, true, true, true, true, true, true, true, true] (by kernel_rfl) (by kernel_rfl) (by kernel_rfl) (fun _ _ d _ _ h => by cases d <;> exact h) (regrown_of_below (Below.drew (Below.refl _ _))) ?_
                  have hS0 : Below (wr.heap.size) wr wr.drew := Below.drew (Below.refl _ _)
                  refine wpMix_pure (by kernel_rfl) (fun K hK => ?_); go_big_quiet_op; refine hK _ ?_; clear hK K
                  refine wpMix_pure (by kernel_rfl) (fun K hK => ?_); go_big_quiet_op; refine hK _ ?_; clear hK K
                  refine wpMix_pure (by kernel_rfl) (fun K hK => ?_); go_big_quiet_op; refine hK _ ?_; clear hK K
                  refine wpMix_pure (by kernel_rfl) (fun K hK => ?_); go_big_quiet_op; refine hK _ ?_; clear hK K
                  refine wpMix_pure (by kernel_rfl) (fun K hK => ?_); go_big_quiet_op; refine hK _ ?_; clear hK K
                  refine wpMix_pure (by kernel_rfl) (fun K hK => ?_); go_big_quiet_op; refine hK _ ?_; clear hK K
                  refine wpMix_pure (by kernel_rfl) (fun K hK => ?_); go_big_quiet_op; refine hK _ ?_; clear hK K
                  refine wpMix_pure (by kernel_rfl) (fun K hK => ?_); go_big_quiet_op; refine hK _ ?_; clear hK K
                  refine wpMix_pure (by kernel_rfl) (fun K hK => ?_); go_big_quiet_op; refine hK _ ?_; clear hK K
                  refine wpMix_pure (by kernel_rfl) (fun K hK => ?_); go_big_quiet_op; refine hK _ ?_; clear hK K
                  have q10 : ¬ z.buried > u.buried := by omega
                  refine wpMix_pure (by kernel_rfl) (fun K hK => ?_); go_big_quiet_op; refine hK _ ?_; clear hK K
                  refine wpMix_pure (by kernel_rfl) (fun K hK => ?_); go_big_quiet_op; refine hK _ ?_; clear hK K
                  refine wpMix_pure (by kernel_rfl) (fun K hK => ?_); go_big_quiet_op; refine hK _ ?_; clear hK K
                  refine wpMix_pure (by kernel_rfl) (fun K hK => ?_); go_big_quiet_op; refine hK _ ?_; clear hK K
                  refine wpMix_pure (by kernel_rfl) (fun K hK => ?_); go_big_quiet_op; refine hK _ ?_; clear hK K
                  refine wpMix_pure (by kernel_rfl) (fun K hK => ?_); go_big_quiet_op; refine hK _ ?_; clear hK K
                  refine wpMix_pure (by kernel_rfl) (fun K hK => ?_); go_big_quiet_op; refine hK _ ?_; clear hK K
                  refine wpMix_pure (by kernel_rfl) (fun K hK => ?_); go_big_quiet_op; refine hK _ ?_; clear hK K
                  refine wpMix_pure (by kernel_rfl) (fun K hK => ?_); go_big_quiet_op; refine hK _ ?_; clear hK K
                  refine wpMix_pure (by kernel_rfl) (fun K hK => ?_); go_big_quiet_op; refine hK _ ?_; clear hK K
                  refine wpMix_pure (by kernel_rfl) (fun K hK => ?_); go_big_quiet_op; refine hK _ ?_; clear hK K
                  refine wpMix_pure (by kernel_rfl) (fun K hK => ?_); go_big_quiet_op; refine hK _ ?_; clear hK K
                  refine wpMix_pure (by kernel_rfl) (fun K hK => ?_); go_big_quiet_op; refine hK _ ?_; clear hK K
                  refine wpMix_pure (by kernel_rfl) (fun K hK => ?_); go_big_quiet_op; refine hK _ ?_; clear hK K
                  refine wpMix_skip (by kernel_rfl) (fun K hK => ?_)
                  simp only [Act.put, List.setIfInBounds_toArray, List.set_cons_zero, List.set_cons_succ]
                  refine hK _ ?_; clear hK K
                  refine wpMix_skip (by kernel_rfl) (fun K hK => ?_)
                  simp only [Act.put, List.setIfInBounds_toArray, List.set_cons_zero, List.set_cons_succ]
                  refine hK _ ?_; clear hK K
                  refine wpMix_skip (by kernel_rfl) (fun K hK => ?_)
                  simp only [Act.put, List.setIfInBounds_toArray, List.set_cons_zero, List.set_cons_succ]
                  refine hK _ ?_; clear hK K
                  refine wpMix_skip (by kernel_rfl) (fun K hK => ?_)
                  simp only [Act.put, List.setIfInBounds_toArray, List.set_cons_zero, List.set_cons_succ]
                  refine hK _ ?_; clear hK K
                  refine wpMix_skip (by kernel_rfl) (fun K hK => ?_)
                  simp only [Act.put, List.setIfInBounds_toArray, List.set_cons_zero, List.set_cons_succ]
                  refine hK _ ?_; clear hK K
                  refine wpMix_skip (by kernel_rfl) (fun K hK => ?_)
                  simp only [Act.put, List.setIfInBounds_toArray, List.set_cons_zero, List.set_cons_succ]
                  refine hK _ ?_; clear hK K
                  refine wpMix_skip (by kernel_rfl) (fun K hK => ?_)
                  simp only [Act.put, List.setIfInBounds_toArray, List.set_cons_zero, List.set_cons_succ]
                  refine hK _ ?_; clear hK K
                  refine wpMix_skip (by kernel_rfl) (fun K hK => ?_)
                  simp only [Act.put, List.setIfInBounds_toArray, List.set_cons_zero, List.set_cons_succ]
                  refine hK _ ?_; clear hK K
                  refine wpMix_skip (by kernel_rfl) (fun K hK => ?_)
                  simp only [Act.put, List.setIfInBounds_toArray, List.set_cons_zero, List.set_cons_succ]
                  refine hK _ ?_; clear hK K
                  refine wpMix_skip (by kernel_rfl) (fun K hK => ?_)
                  simp only [Act.put, List.setIfInBounds_toArray, List.set_cons_zero, List.set_cons_succ]
                  refine hK _ ?_; clear hK K
                  refine wpMix_skip (by kernel_rfl) (fun K hK => ?_)
                  simp only [Act.put, List.setIfInBounds_toArray, List.set_cons_zero, List.set_cons_succ]
                  refine hK _ ?_; clear hK K
                  refine wpMix_pure (by kernel_rfl) (fun K hK => ?_); go_big_quiet_op; refine hK _ ?_; clear hK K
                  refine wpMix_pure (by kernel_rfl) (fun K hK => ?_); go_big_quiet_op; refine hK _ ?_; clear hK K
                  refine wpMix_nil ?_
                  go_wp2
                  go_roundw
                  case rel => exact ⟨i + 1, by omega, by go_num, hb.trans ((hS0).mono hb.size)⟩
                  case measure => simp [intOf]; omega
              · go_wp2
                go_meet
                case rel => exact hb7.trans (hb.mono hb7.size)
  case rest =>
    have hB3 := hB2.trans (hcut.mono hB2.size)
    replace hx1 := hx1.below' hcut
    clear hcut hB2 hp2 hrd hm hokx hsm hsl
    go_wp2_with fail
    refine (DrawMostDangerous_any _ _ _ _ hx1).mono ?_
    rintro e w3 ⟨yv, v2, L, ds, fq2, fd, rfl, hsl, hsd, hsmL, hlL, hlD, hdb, hb3⟩
    obtain ⟨A3, k3, rfl, _, _⟩ := hsl.form
    obtain ⟨A4, k4, rfl, _, _⟩ := hsd.form
    have hB4 := hB3.trans (hb3.mono hB3.size)
    clear hx1 hB3 hb3
    go_wp2_with fail
    refine (MostDangerous_any _ _ L ds _ _ _ hsl hsd).mono ?_
    rintro e w4 ⟨p, q, rfl, hbad, hgood, hb4⟩
    replace hsl := hsl.below' hb4
    replace hsd := hsd.below' hb4
    have hB5 := hB4.trans (hb4.mono hB4.size)
    clear hB4 hb4
    by_cases hc : mdC L ds = 0
    rotate_left
    · obtain ⟨rfl, rfl⟩ := hbad hc
      have e1 : (mdC L ds != 0) = true := by simp [hc]
      generalize mdC L ds = mc at *
      clear hc hbad hgood
      go_wp2
      go_ret
      exact ⟨rfl, hB5⟩
    obtain ⟨b, rfl, rfl, hM⟩ := hgood hc
    obtain ⟨m1, m2, m3⟩ := id hM
    have hv : incsB L = true := by
      cases hv : incsB L with
      | true => rfl
      | false => unfold mdC at hc; rw [hv, if_pos rfl] at hc; exact absurd hc (by decide)
    have h5 : ds.length = 5 ∧ allIn ds 1 1000 = true := by
      unfold mdC at hc
      rw [hv, if_neg (by decide)] at hc
      by_cases h : ds.length = 5 ∧ allIn ds 1 1000 = true
      · exact h
      · rw [if_neg h] at hc; exact absurd hc (by decide)
    have hdk : ∀ j (h : j < ds.length), 1 ≤ ds[j] ∧ ds[j] ≤ 1000 := fun j h => by
      have ha := h5.2
      unfold allIn at ha
      rw [List.all_eq_true] at ha
      exact inB_true.1 (ha _ (List.getElem_mem h))
    have hgd : ∀ j (h : j < ds.length), rtJ L ds j = rtV L ((j : Int) + 1) ds[j] := fun j h => by unfold rtJ; rw [getD_of_lt h]
    have h51 := h5.1
    have e5 : ((ds.length : Int) != 5) = false := by rw [h51]; rfl
    have hds := Lib.hid h51
    have HM2 := Lib.hid m2
    have HM3 := Lib.hid m3
    rw [hc]
    clear hc hbad hgood hM h5 h51 m2 m3
    obtain ⟨rb, hrb⟩ : ∃ rb, rtJ L ds b = rb := ⟨_, rfl⟩
    rw [hrb]
    replace hrb := Lib.hid hrb
    go_wp2
    go_loopw [28] (fun i wr => ∃ k : Nat, k ≤ 5 ∧ i = .int .i64 ((k : Int) + 1) ∧ Below w4.heap.size w4 wr) (fun i _ => 6 - (intOf i).toNat)
    case atStart => exact ⟨0, by decide, rfl, Below.refl _ _⟩
    case round =>
      obtain ⟨k, hk, rfl, hb⟩ := hrel
      by_cases hlt : k < 5
      · have hk1 : k < ds.length := by have := hds.out; omega
        have hkle : (k : Int) + 1 ≤ 5 := by omega
        obtain ⟨b1, off, rfl, _, _, n1, _⟩ := (hsd.below' hb).cell1 rfl (k := k) hk1 rfl
        have hd1 := hdk k hk1
        have hr1 := hgd k hk1
        go_wp2_with fail
        refine (RateOf_any _ L _ ((k : Int) + 1) ds[k] _ (hsl.below' hb) hv (by omega) hd1).mono ?_
        rintro e w5 ⟨rfl, hb5⟩
        have hb6 := hb.trans (hb5.mono hb.size)
        rw [← hr1]
        have g2 := HM2.out k (by omega)
        rw [hrb.out] at g2
        have g3 : k < b → rtJ L ds k < rb := fun h => by have := HM3.out k h; rw [hrb.out] at this; exact this
        have g4 : k = b → rtJ L ds k = rb := fun h => by rw [h]; exact hrb.out
        clear n1 hr1 hb5 hb
        generalize rtJ L ds k = rk at *
        rcases Nat.lt_trichotomy k b with h1 | h1 | h1
        · have g5 := g3 h1
          have e1 : ((k : Int) + 1 == (b : Int) + 1) = false := by rw [beq_eq_false_iff_ne]; omega
          have e2 : (rk == rb) = false := by rw [beq_eq_false_iff_ne]; omega
          have e3 : (k : Int) + 1 < (b : Int) + 1 := by omega
          clear g3 g4
          go_wp2
          go_roundw
          case rel => exact ⟨k + 1, by omega, by go_num, hb6⟩
          case measure => simp [intOf]; omega
        · have g5 := g4 h1
          subst h1
          subst g5
          clear g3 g4
          go_wp2
          go_roundw
          case rel => exact ⟨k + 1, by omega, by go_num, hb6⟩
          case measure => simp [intOf]; omega
        · have e1 : ((k : Int) + 1 == (b : Int) + 1) = false := by rw [beq_eq_false_iff_ne]; omega
          have e3 : ¬ (k : Int) + 1 < (b : Int) + 1 := by omega
          clear g3 g4
          go_wp2
          go_roundw
          case rel => exact ⟨k + 1, by omega, by go_num, hb6⟩
          case measure => simp [intOf]; omega
      · go_wp2
        go_ret
        exact ⟨rfl, hB5.trans (hb.mono hB5.size)⟩
end Go.Proofs.YthabmofkjdiccaaGreatDoor

namespace Go.Proofs.YthabmofkjdiccaaGreatDoor
open Go.RowKit Go.WideShapes Go.ChangeShapes Go.ChangeAt

set_option maxRecDepth 100000 in
theorem law_liftedL {F : FuncId} {fn : Func} {s : ChangeSpec} (laid : List (String × DataW Unit)) (os : Os) (started : os.Started) (H : Type) (enc : TypeId × Value → H)
    (hfn : Tryz.checked.prog.funcs[F]? = some fn) (noInit : Tryz.checked.prog.inits.idxOf? F = none)
    (witness : ∃ (w : World) (tape : Tape) (i : Input), w.os = os ∧ (w.forCall tape i).Shaped Tryz.checked.prog ∧ i.vars = [] ∧ Input.okWide Tryz.checked.prog (w.forCall tape i) .any w.heap.size F i ∧
      ((s.pre enc Tryz.checked.prog fn [] false (w.forCall tape i).memory i.args ∧ laidMetH Tryz.checked.prog laid (w.forCall tape i).memory) ∧ sizedMet enc Tryz.checked.prog fn (OpenSpec.ofChange s) false (w.forCall tape i).memory i.args) ∧ ({} : Assume).holds Tryz.checked.prog (lone (Frame.enter Tryz.checked.prog F i.args .normal) [] (w.forCall tape i)))
    (hs : s.vars = []) (hres : fn.resultTypes = #[4]) (hread : ∀ t ∈ fn.params.toList, Tryz.prog.readableRec t = true ∧ t < Tryz.prog.types.size)
    (hspec : ∀ ds : List (DataW H), ds.length = fn.params.toList.length → s.fn H ds = { results := [.lit (.bool true)], args := ds })
    (walk : ∀ (W : World) (args : Array Value) (ds : List (DataW H)) (p : List MemPlace), W.ShapedOpen Tryz.prog → laidMetH Tryz.prog laid W → (∀ (j : Nat) t v, fn.params[j]? = some t → args[j]? = some v → ∃ base, Value.okWide Tryz.prog W .any base t v) →
      DataW.TrodAll enc Tryz.prog W 0 (fun _ => true) true fn.params.toList args.toList ds p → W.noneFrozen p → Calls Tryz.prog F args W fun e W' => e = .returned (.bool true) ∧ Below W.heap.size W W') :
    ReturnsInHanded {} Tryz.checked os F .any (fun w args => (s.pre enc Tryz.checked.prog fn [] false w args ∧ laidMetH Tryz.checked.prog laid w) ∧ sizedMet enc Tryz.checked.prog fn (OpenSpec.ofChange s) false w args) (s.post enc Tryz.checked.prog fn false true false false) := by
  refine returnsInHanded_of_calls (C := Tryz.checked) Tryz.own started noInit witness ?_
  intro w tape i _ hsh _ hok hpre hholds
  obtain ⟨_, _, _, fn', hfn', _, _, _, _, hval⟩ := hok
  have e : fn' = fn := Option.some.inj (hfn'.symm.trans hfn)
  subst e
  obtain ⟨⟨⟨ds, gs, before, hw, hc⟩, hx⟩, hz⟩ := hpre
  have hW := DataW.Whole.of_heap (w' := w.forCall tape i) (by rfl) hw
  have hX : laidMetH Tryz.prog laid (w.forCall tape i) := laidMetH.of_heap (by rfl) hx
  generalize w.forCall tape i = W at *
  have hW' := hW
  obtain ⟨p, q, hA, hV, hpq, hfz, hnd⟩ := hW
  rw [hs] at hV
  obtain ⟨rfl, rfl⟩ := trodVars_none hV
  rw [List.append_nil] at hpq
  subst hpq
  refine (walk W i.args ds _ hsh hX (fun j t v h1 h2 => ⟨w.heap.size, hval j t v h1 h2⟩) hA hfz).mono fun e W' ⟨he, hb⟩ => ?_
  subst he
  have hsp : s.fn H (ds ++ []) = { results := [.lit (.bool true)], args := ds } := by
    rw [List.append_nil]; exact hspec ds (trodAll_len _ _ _ _ hA)
  have hlt := fun x hx => hW'.lt x hx
  refine ChangeSpec.post_blind (W := W) ?_
  refine post_of_below (pa := before) (pv := []) hW' (fun b sp hd => ?_) (fun sp h => ?_) (fun sp h => ?_) (by simp) hb ?_
  · rw [hsp, hres]; exact trodAll_mk1 (shut_bool Tryz.underlying4 _)
  · rw [hsp]; exact trodAll_below Tryz.laidOut hb _ _ _ _ hread hA hlt h
  · rw [hsp, hs]; rfl
  · rw [hres]; exact fun j t r h1 h2 => ok_one (f := fn') hres rfl (okWide_bool_mk Tryz.underlying4 _) j t r (by rw [hres]; exact h1) (by rw [hres]; exact h2)
end Go.Proofs.YthabmofkjdiccaaGreatDoor

namespace Go.Proofs.YthabmofkjdiccaaGreatDoor
noncomputable def doorWorld (os : Os) : World := (World.doorLaid Tryz.prog 72 os).setRow 2 (Go.Pinned.utf8FirstZ.map (fun z : Nat => Value.int .u8 (z : Int))).toArray
end Go.Proofs.YthabmofkjdiccaaGreatDoor

namespace Go.Proofs.YthabmofkjdiccaaGreatDoor
open Go.RowKit Go.WideShapes Go.ChangeShapes Go.ChangeAt Go.Deep

/-- Whatever the form's reader reads at type t reads by E. -/
def Opens {α : Type} (t : TypeId) (E : Cod α) : Prop :=
  ∀ {H : Type} {enc : TypeId × Value → H} {w : World} {n : Nat} {cs : List Value} {x : DataW H × List MemPlace},
    DataW.trod enc Tryz.prog w 0 (fun _ => true) true n t cs = some x → w.noneFrozen x.2 → ∃ y fp, E.rd w cs y fp

theorem opens_int {t : TypeId} (ht : Tryz.prog.underlying t = some (.int .i64)) : Opens t fInt.cod := by
  intro H enc w n cs x h _
  obtain ⟨k, rfl, rfl, wk⟩ := DataW.trod_int ht h
  refine ⟨k, [], rfl, ?_, rfl⟩
  exact bounds_i64 wk
theorem opens_str {t : TypeId} (ht : Tryz.prog.underlying t = some .string) : Opens t fStr.cod := by
  intro H enc w n cs x h _
  obtain ⟨s, rfl, rfl, hs⟩ := DataW.trod_string ht h
  exact ⟨s, [], rfl, by unfold maxLen at hs; exact hs, rfl⟩
theorem opens_bool {t : TypeId} (ht : Tryz.prog.underlying t = some .bool) : Opens t fBool.cod := by
  intro H enc w n cs x h _
  obtain ⟨s, rfl, rfl⟩ := DataW.trod_bool ht h
  exact ⟨s, [], rfl, trivial, rfl⟩

theorem add_none (b off x y : Nat) : ((⟨b, off, none⟩ : Addr).add x).add y = ⟨b, off + x + y, none⟩ := by
  unfold Addr.add
  by_cases hx : x = 0 <;> by_cases hy : y = 0 <;> simp [hx, hy]

theorem opens_slice {α : Type} {E : Cod α} {t e : TypeId} (ht : Tryz.prog.underlying t = some (.slice e)) (hn : Tryz.prog.cellsOf e = E.n) (he : Opens e E) : Opens t E.slice := by
  intro H enc w n cs x h hfz
  rcases open_slice ht h with ⟨rfl, rfl⟩ | ⟨a, len, cap, m, n', D, Pl, rfl, hb, hl, hm, hmm, hx, hi⟩
  · exact ⟨[], [], _, rfl, none, 0, rfl, by simp, by simp [maxLen], .inl ⟨rfl, rfl⟩⟩
  · simp only [if_true] at hmm
    subst hmm
    rcases Nat.eq_zero_or_pos len with h0 | h0
    · subst h0
      exact ⟨[], [], _, rfl, some a, m, rfl, by simp, hm, .inl ⟨rfl, rfl⟩⟩
    · rw [hn] at hi
      have hspot : a = ⟨a.block, a.off, none⟩ := by
        obtain ⟨cs', hc, _⟩ := hi 0 (by omega)
        obtain ⟨_, hcl, hat⟩ := World.cells?_some hc
        have h1 := hat 0 E.pos
        have hps := E.pos
        rw [List.getElem?_eq_getElem (by omega)] at h1
        have h2 : w.cell? a = some cs'[0] := by simpa [Addr.add] using h1
        have := World.cell?_spot h2
        cases a; simp_all
      have hel : ∀ i : Fin len, ∃ p : α × List Nat × List Value, (∀ j, j < E.n → w.cell? ⟨a.block, a.off + i.1 * E.n + j, none⟩ = p.2.2[j]?) ∧ (∀ j, j < E.n → w.frozen? ⟨a.block, a.off + i.1 * E.n + j, none⟩ = false) ∧ E.rd w p.2.2 p.1 p.2.1 := by
        intro ⟨i, hil⟩
        obtain ⟨cs', hc, htr⟩ := hi i (by omega)
        obtain ⟨_, hcl, hat⟩ := World.cells?_some hc
        have hsub : ∀ pl ∈ Pl i, pl ∈ x.2 := by
          intro pl hpl
          rw [hx]
          exact List.mem_append_right _ (List.mem_flatMap.2 ⟨i, by simp; omega, hpl⟩)
        obtain ⟨y, fp, hy⟩ := he htr (fun b off hmem => hfz b off (hsub _ hmem))
        refine ⟨⟨y, fp, cs'⟩, fun j hj => ?_, fun j hj => ?_, hy⟩
        · have := hat j hj
          rw [hspot, add_none] at this
          exact this
        · refine hfz _ _ ?_
          rw [hx]
          refine List.mem_append_left _ ?_
          unfold MemPlace.row
          refine List.mem_map.2 ⟨i * E.n + j, ?_, by rw [Nat.add_assoc]⟩
          rw [List.mem_range, hn]
          have : (i + 1) * E.n ≤ m * E.n := Nat.mul_le_mul_right _ (by omega)
          rw [Nat.succ_mul] at this
          omega
      obtain ⟨f, hf⟩ := Classical.axiomOfChoice hel
      have hblk : a.block < w.heap.size := by
        obtain ⟨h1, _, h3⟩ := hf ⟨0, h0⟩
        have h1 := h1 0 E.pos
        have h4 := E.len h3
        have hps := E.pos
        rw [List.getElem?_eq_getElem (by omega)] at h1
        exact block_lt_of_cell (a := ⟨a.block, _, none⟩) h1
      refine ⟨List.ofFn fun i => (f i).1, a.block :: (List.range len).flatMap fun i => if h : i < len then (f ⟨i, h⟩).2.1 else [], _, rfl, some a, m, by simp, by simpa using hl, hm,
        .inr ⟨a.block, a.off, _, by rw [← hspot], hblk, by rw [List.length_ofFn], fun i hil => ?_⟩⟩
      rw [List.length_ofFn] at hil
      obtain ⟨h1, h2, h3⟩ := hf ⟨i, hil⟩
      refine ⟨(f ⟨i, hil⟩).2.2, h1, h2, ?_⟩
      simpa [hil] using h3

/-- A struct of fields of one cell each. -/
theorem opens_fields {t : TypeId} {fs : Array Field} (ht : Tryz.prog.underlying t = some (.struct fs)) (hone : oneCellFields Tryz.prog fs = true) (hC : Tryz.prog.cellsOf t = fs.size)
    {H : Type} {enc : TypeId × Value → H} {w : World} {n : Nat} {cs : List Value} {x : DataW H × List MemPlace} (h : DataW.trod enc Tryz.prog w 0 (fun _ => true) true n t cs = some x) (hfz : w.noneFrozen x.2) :
    cs.length = fs.size ∧ ∀ (j : Nat) (f : Field), fs[j]? = some f → ∃ (v : Value) (m : Nat) (y : DataW H × List MemPlace), cs[j]? = some v ∧ DataW.trod enc Tryz.prog w 0 (fun _ => true) true m f.type [v] = some y ∧ w.noneFrozen y.2 := by
  obtain ⟨xs, n', rfl, hx, hl, hxl, hf⟩ := DataW.trod_struct ht h
  refine ⟨hl.trans hC, fun j f hj => ?_⟩
  have hjl : j < fs.size := (Array.getElem?_eq_some_iff.1 hj).1
  obtain ⟨ho, hk⟩ := hone_of hone j f hj
  have h1 := hf j f hj
  rw [ho, hk] at h1
  have hcl : j < cs.length := by rw [hl, hC]; exact hjl
  have e1 : (cs.drop j).take 1 = [cs[j]] := by
    rw [List.drop_eq_getElem_cons hcl]; rfl
  rw [e1, List.getElem?_eq_getElem (by omega)] at h1
  refine ⟨cs[j], n', xs[j], List.getElem?_eq_getElem hcl, h1, fun b off hm => hfz b off ?_⟩
  rw [hx]
  exact List.mem_flatMap.2 ⟨xs[j], List.getElem_mem _, hm⟩

/-- An argument that came in: its value reads. -/
theorem Opens.arg {α : Type} {t : TypeId} {E : Cod α} (ho : Opens t E) {H : Type} {enc : TypeId × Value → H} {w : World} {v : Value} {d : DataW H} {ps : List MemPlace}
    (h : DataW.Trod enc Tryz.prog w 0 (fun _ => true) true t v d ps) (hfz : w.noneFrozen ps) : ∃ y fp, E.rd w v.cells.toList y fp := by
  obtain ⟨n, hn⟩ := h
  exact ho hn hfz
theorem Opens.sl {α : Type} {t : TypeId} {E : Cod α} (ho : Opens t E.slice) {H : Type} {enc : TypeId × Value → H} {w : World} {v : Value} {d : DataW H} {ps : List MemPlace}
    (h : DataW.Trod enc Tryz.prog w 0 (fun _ => true) true t v d ps) (hfz : w.noneFrozen ps) {A : Option Addr} {len cap : Nat} (hv : v = .slice A len cap) : ∃ y fp, Sl E w v y fp := by
  obtain ⟨y, fp, u, hu, hs⟩ := ho.arg h hfz
  subst hv
  simp [Value.cells] at hu
  subst hu
  exact ⟨y, fp, hs⟩

end Go.Proofs.YthabmofkjdiccaaGreatDoor

namespace Go.Proofs.YthabmofkjdiccaaGreatDoor
open Go.RowKit Go.WideShapes Go.ChangeShapes Go.ChangeAt Go.Deep

set_option maxRecDepth 100000 in
set_option maxHeartbeats 400000 in
theorem opens_byte {t : TypeId} (ht : Tryz.prog.underlying t = some (.int .u8)) : Opens t fByte.cod := by
  intro H enc w n cs x h _
  obtain ⟨k, rfl, rfl, wk⟩ := DataW.trod_int ht h
  have hk : 0 ≤ k ∧ k ≤ 255 := by
    have h1 : IntKind.u8.min = 0 := by decide
    have h2 : IntKind.u8.max = 255 := by decide
    have := wk
    simp [Lit.wf, h1, h2] at this
    omega
  refine ⟨UInt8.ofNat k.toNat, [], ?_, trivial, rfl⟩
  show _ = [Value.int .u8 _]
  rw [UInt8.toNat_ofNat']
  congr 2
  omega
end Go.Proofs.YthabmofkjdiccaaGreatDoor
