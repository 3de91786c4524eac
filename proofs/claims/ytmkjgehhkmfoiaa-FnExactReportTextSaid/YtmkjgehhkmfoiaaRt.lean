/- Contracts of ReportText, the program's and the reference's. -/
import Derived.Test.YtmkjgehhkmfoiaaLn
import Derived.Test.YtmkjgehhkmfoiaaTString
import Derived.Test.YtmkjgehhkmfoiaaBu
import Derived.Test.YtmkjgehhkmfoiaaShelf
namespace Go.Proofs.Ytmkjgehhkmfoiaa
open Go.RowKit

def rT (xs : List ByteArray) : List UInt8 := xs.flatMap fun s => s.data.toList ++ [10]
theorem rT_step {xs : List ByteArray} {k : Nat} (h : k < xs.length) : rT (xs.take (k + 1)) = rT (xs.take k) ++ (xs[k].data.toList ++ [10]) := by
  unfold rT; rw [List.take_succ_eq_append_getElem h, List.flatMap_append]; simp
theorem rT_len (xs : List ByteArray) : (rT xs).length = totStringS xs := by
  unfold rT totStringS
  induction xs with
  | nil => rfl
  | cons s xs ih =>
    rw [List.flatMap_cons, List.length_append, ih, List.map_cons, List.sum_cons, List.length_cons, List.length_append]
    show s.data.toList.length + 1 + _ = _ + 1 + (s.data.size + _)
    rw [Array.length_toList]; omega
theorem tot_take (xs : List ByteArray) (k : Nat) : totStringS (xs.take k) ≤ totStringS xs := by
  unfold totStringS
  have h1 : (xs.take k).length ≤ xs.length := by rw [List.length_take]; omega
  have h2 : ((xs.take k).map totString).sum ≤ (xs.map totString).sum := by
    conv => rhs; rw [← List.take_append_drop k xs, List.map_append, List.sum_append]
    omega
  omega
def reportF (xs : List ByteArray) : ByteArray := if linesB xs = true then ⟨(rT xs).toArray⟩ else ⟨#[]⟩
theorem bytes_append (a b : List UInt8) : (ByteArray.mk a.toArray ++ ByteArray.mk b.toArray) = ⟨(a ++ b).toArray⟩ := ByteArray.mk_append_mk a b
theorem bytes_self (s : ByteArray) : s = ⟨s.data.toList.toArray⟩ := by cases s; simp
theorem size_mk_list (l : List UInt8) : (ByteArray.mk l.toArray).size = l.length := by show l.toArray.size = _; simp
theorem line_append (s : ByteArray) : s ++ ⟨#[10]⟩ = ⟨(s.data.toList ++ [10]).toArray⟩ := by
  conv => lhs; rw [bytes_self s]
  exact bytes_append _ [10]

set_option maxHeartbeats 1000000 in
theorem l30Text_any (v : Value) (xs : List ByteArray) (fp : List Nat) (w : World) (hx : Sl fStr.cod w v xs fp) (ht : totStringS xs ≤ 1048576) :
    Calls Try.prog 46 #[v] w fun e w' => e = .returned (.string ⟨(rT xs).toArray⟩) ∧ Below w.heap.size w w' := by
  obtain ⟨A, cap, rfl, hlen, hcap⟩ := hx.form
  go_enter Try.func46, Try.ntmps46
  go_wp2
  go_loop [3, 4] (fun o i => ∃ k : Nat, k ≤ xs.length ∧ i = .int .i64 k ∧ ∃ t : ByteArray, o = .string t ∧ Hid (t = ⟨(rT (xs.take k)).toArray⟩) ∧ t.size ≤ 1048576) (fun _ i => xs.length - (intOf i).toNat)
  case atStart => exact ⟨0, Nat.zero_le _, rfl, _, rfl, rfl, by show 0 ≤ _; omega⟩
  case round =>
    obtain ⟨k, hk, rfl, t, rfl, HT, hts⟩ := hrel
    by_cases hlt : k < xs.length
    · obtain ⟨b, off, rfl, _, hok, hc, _⟩ := hx.cell1 rfl hlt rfl
      have hnew : t ++ (xs[k] ++ ⟨#[10]⟩) = ⟨(rT (xs.take (k + 1))).toArray⟩ := by
        rw [HT.out, line_append, bytes_append, rT_step hlt]
      have hsz : (t ++ (xs[k] ++ ⟨#[10]⟩)).size ≤ 1048576 := by
        rw [hnew, size_mk_list, rT_len]
        have := tot_take xs (k + 1)
        omega
      rw [ByteArray.size_append, ByteArray.size_append] at hsz
      have hsz' : t.size + (xs[k].size + 1) ≤ 1048576 := hsz
      have HW := Lib.hid hnew
      clear hnew hsz
      go_wp2
      go_round
      case rel => exact ⟨k + 1, by omega, by go_num, _, rfl, HW, by rw [ByteArray.size_append, ByteArray.size_append]; exact hsz'⟩
      case measure => simp [intOf]; omega
    · have HT' : Hid (t = ⟨(rT xs).toArray⟩) := by have := HT.out; rw [List.take_of_length_le (by omega)] at this; exact this
      go_wp2
      go_ret
      exact ⟨ret_str HT'.out, Below.refl _ _⟩

set_option maxHeartbeats 1000000 in
theorem specReportText_any (v : Value) (xs : List ByteArray) (fp : List Nat) (w : World) (hx : Sl fStr.cod w v xs fp) (ht : totStringS xs ≤ 1048576) :
    Calls Try.prog 25 #[v] w fun e w' => e = .returned (.string (reportF xs)) ∧ Below w.heap.size w w' := by
  unfold reportF
  by_cases h : linesB xs = true
  · rw [if_pos h]
    have HH := Lib.hid h
    clear h
    go_enter Try.func25, Try.ntmps25
    go_wp2_with fail
    refine (l30Ok_any _ _ _ _ hx).mono ?_
    rintro e w' ⟨rfl, rfl⟩
    rw [HH.out]
    go_wp2_with fail
    refine (l30Text_any _ _ _ _ hx ht).mono ?_
    rintro e w1 ⟨rfl, hb⟩
    go_wp2
    go_ret
    exact ⟨rfl, hb⟩
  · have h' : linesB xs = false := by simpa using h
    rw [if_neg h]
    have HH := Lib.hid h'
    clear h h'
    go_enter Try.func25, Try.ntmps25
    go_wp2_with fail
    refine (l30Ok_any _ _ _ _ hx).mono ?_
    rintro e w' ⟨rfl, rfl⟩
    rw [HH.out]
    go_wp2
    go_ret
    exact ⟨rfl, Below.refl _ _⟩

set_option maxHeartbeats 2000000 in
theorem implReportText_any (v : Value) (xs : List ByteArray) (fp : List Nat) (w : World) (hx : Sl fStr.cod w v xs fp) (ht : totStringS xs ≤ 1048576) :
    Calls Try.prog 26 #[v] w fun e w' => e = .returned (.string (reportF xs)) ∧ Below w.heap.size w w' := by
  unfold reportF
  obtain ⟨A, cap, rfl, hlen, hcap⟩ := hx.form
  by_cases h : linesB xs = true
  · rw [if_pos h]
    have HH := Lib.hid h
    clear h
    go_enter Try.func26, Try.ntmps26
    go_wp2_with fail
    refine (implValidReport_any _ _ _ _ hx).mono ?_
    rintro e w' ⟨rfl, rfl⟩
    rw [HH.out]
    go_wp2
    go_loopw [11] (fun i wr => ∃ k : Nat, k ≤ xs.length ∧ i = .int .i64 k ∧ Lib.IsBuilder 67 5 w.heap.size w.heap.size (Lib.byteCells (rT (xs.take k))) wr ∧ Below w.heap.size w wr) (fun i _ => xs.length - (intOf i).toNat)
    case atStart => exact ⟨0, Nat.zero_le _, rfl, builder_new w, (by repeat (first | exact Below.refl _ _ | assumption | refine Below.alloc ?_ (by first | omega | (simp <;> omega)) _ | refine Below.setCell ?_ (by first | (show _ ≤ _; omega) | (simp <;> omega)) _ | refine Below.drew ?_ | refine below_drewN ?_ _))⟩
    case round =>
      obtain ⟨k, hk, rfl, hI, hb⟩ := hrel
      have hbs := hb.size
      by_cases hlt : k < xs.length
      · obtain ⟨b, off, rfl, _, hok, hc, _⟩ := (hx.below' hb).cell1 rfl hlt rfl
        have hl1 : (rT (xs.take (k + 1))).length ≤ 1048576 := by
          rw [rT_len]; have := tot_take xs (k + 1); omega
        have hl2 := congrArg List.length (rT_step hlt)
        rw [List.length_append, List.length_append] at hl2
        have e1 : xs[k].data.toList.length = xs[k].size := by rw [Array.length_toList]; rfl
        have e2 : ([10] : List UInt8).length = 1 := rfl
        have hsz' : (rT (xs.take k)).length + (xs[k].size + 1) ≤ 1048576 := by omega
        clear e1 e2
        clear hl1 hl2
        go_wp2_with fail
        refine (writeString_any w.heap.size w.heap.size _ _ _ hI (by rw [Lib.byteCells_length, ByteArray.size_append]; show _ + (xs[k].size + 1) ≤ _; omega) hbs).mono ?_
        rintro e w2 ⟨rfl, hI2, hb2⟩
        rw [line_append, Lib.strCells_eq, ← Lib.byteCells_append, ← rT_step hlt] at hI2
        go_wp2
        go_roundw
        case rel => exact ⟨k + 1, by omega, by go_num, hI2, hb.trans hb2⟩
        case measure => simp [intOf]; omega
      · have hk' : xs.take k = xs := List.take_of_length_le (by omega)
        rw [hk'] at hI
        clear hk'
        go_wp2_with fail
        refine (Try.Builder_String_any w.heap.size w.heap.size _ _ hI hbs).mono ?_
        rintro e w2 ⟨rfl, hb2⟩
        go_wp2
        go_ret
        exact ⟨rfl, hb.trans hb2⟩
  · have h' : linesB xs = false := by simpa using h
    rw [if_neg h]
    have HH := Lib.hid h'
    clear h h'
    go_enter Try.func26, Try.ntmps26
    go_wp2_with fail
    refine (implValidReport_any _ _ _ _ hx).mono ?_
    rintro e w' ⟨rfl, rfl⟩
    rw [HH.out]
    go_wp2
    go_ret
    exact ⟨rfl, Below.refl _ _⟩
end Go.Proofs.Ytmkjgehhkmfoiaa
