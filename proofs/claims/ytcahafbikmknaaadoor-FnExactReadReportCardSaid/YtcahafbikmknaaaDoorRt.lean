/- Contracts of ReportText, the program's and the reference's. -/
import Derived.Test.YtcahafbikmknaaaDoorLn
import Derived.Test.YtcahafbikmknaaaDoorTString
import Derived.Test.YtcahafbikmknaaaDoorBu
import Derived.Test.YtcahafbikmknaaaDoorShelf
namespace Go.Proofs.YtcahafbikmknaaaDoor
open Go.RowKit

def rT (xs : List ByteArray) : List UInt8 := xs.flatMap fun s => s.data.toList ++ [10]
theorem rT_step {xs : List ByteArray} {k : Nat} (h : k < xs.length) : rT (xs.take (k + 1)) = rT (xs.take k) ++ (xs[k].data.toList ++ [10]) := by
  unfold rT; rw [List.take_succ_eq_append_getElem h, List.flatMap_append]; simp
theorem rT_len (xs : List ByteArray) : (rT xs).length = totStringS xs := by
  unfold rT totStringS
  induction xs with
  | nil => rfl
  | cons s xs ih =>
    rw [List.flatMap_cons, List.length_append, ih, List.map_cons, List.sum_cons, List.length_cons, List.length_append]
    show s.data.toList.length + 1 + _ = _ + 1 + (s.data.size + _)
    rw [Array.length_toList]; omega
theorem tot_take (xs : List ByteArray) (k : Nat) : totStringS (xs.take k) ≤ totStringS xs := by
  unfold totStringS
  have h1 : (xs.take k).length ≤ xs.length := by rw [List.length_take]; omega
  have h2 : ((xs.take k).map totString).sum ≤ (xs.map totString).sum := by
    conv => rhs; rw [← List.take_append_drop k xs, List.map_append, List.sum_append]
    omega
  omega
def reportF (xs : List ByteArray) : ByteArray := if linesB xs = true then ⟨(rT xs).toArray⟩ else ⟨#[]⟩
theorem bytes_append (a b : List UInt8) : (ByteArray.mk a.toArray ++ ByteArray.mk b.toArray) = ⟨(a ++ b).toArray⟩ := ByteArray.mk_append_mk a b
theorem bytes_self (s : ByteArray) : s = ⟨s.data.toList.toArray⟩ := by cases s; simp
theorem size_mk_list (l : List UInt8) : (ByteArray.mk l.toArray).size = l.length := by show l.toArray.size = _; simp
theorem line_append (s : ByteArray) : s ++ ⟨#[10]⟩ = ⟨(s.data.toList ++ [10]).toArray⟩ := by
  conv => lhs; rw [bytes_self s]
  exact bytes_append _ [10]

set_option maxRecDepth 100000 in
set_option maxHeartbeats 2000000 in
theorem implReportText_any (v : Value) (xs : List ByteArray) (fp : List Nat) (w : World) (hx : Sl fStr.cod w v xs fp) (ht : totStringS xs ≤ 1048576) :
    Calls Tryd.prog 20 #[v] w fun e w' => e = .returned (.string (reportF xs)) ∧ Below w.heap.size w w' := by
  unfold reportF
  obtain ⟨A, cap, rfl, hlen, hcap⟩ := hx.form
  by_cases h : linesB xs = true
  · rw [if_pos h]
    have HH := Lib.hid h
    clear h
    go_enter Tryd.func20, Tryd.ntmps20
    go_wp2_with fail
    refine (implValidReport_any _ _ _ _ hx).mono ?_
    rintro e w' ⟨rfl, rfl⟩
    rw [HH.out]
    go_wp2
    go_loopw [11] (fun i wr => ∃ k : Nat, k ≤ xs.length ∧ i = .int .i64 k ∧ Lib.IsBuilder 48 5 w.heap.size w.heap.size (Lib.byteCells (rT (xs.take k))) wr ∧ Below w.heap.size w wr) (fun i _ => xs.length - (intOf i).toNat)
    case atStart => exact ⟨0, Nat.zero_le _, rfl, builder_new w, (by repeat (first | exact Below.refl _ _ | assumption | refine Below.alloc ?_ (by first | omega | (simp <;> omega)) _ | refine Below.setCell ?_ (by first | (show _ ≤ _; omega) | (simp <;> omega)) _ | refine Below.drew ?_ | refine below_drewN ?_ _))⟩
    case round =>
      obtain ⟨k, hk, rfl, hI, hb⟩ := hrel
      have hbs := hb.size
      by_cases hlt : k < xs.length
      · obtain ⟨b, off, rfl, _, hok, hc, _⟩ := (hx.below' hb).cell1 rfl hlt rfl
        have hl1 : (rT (xs.take (k + 1))).length ≤ 1048576 := by
          rw [rT_len]; have := tot_take xs (k + 1); omega
        have hl2 := congrArg List.length (rT_step hlt)
        rw [List.length_append, List.length_append] at hl2
        have e1 : xs[k].data.toList.length = xs[k].size := by rw [Array.length_toList]; rfl
        have e2 : ([10] : List UInt8).length = 1 := rfl
        have hsz' : (rT (xs.take k)).length + (xs[k].size + 1) ≤ 1048576 := by omega
        clear e1 e2
        clear hl1 hl2
        go_wp2_with fail
        refine (writeString_any w.heap.size w.heap.size _ _ _ hI (by rw [Lib.byteCells_length, ByteArray.size_append]; show _ + (xs[k].size + 1) ≤ _; omega) hbs).mono ?_
        rintro e w2 ⟨rfl, hI2, hb2⟩
        rw [line_append, Lib.strCells_eq, ← Lib.byteCells_append, ← rT_step hlt] at hI2
        go_wp2
        go_roundw
        case rel => exact ⟨k + 1, by omega, by go_num, hI2, hb.trans hb2⟩
        case measure => simp [intOf]; omega
      · have hk' : xs.take k = xs := List.take_of_length_le (by omega)
        rw [hk'] at hI
        clear hk'
        go_wp2_with fail
        refine (Tryd.Builder_String_any w.heap.size w.heap.size _ _ hI hbs).mono ?_
        rintro e w2 ⟨rfl, hb2⟩
        go_wp2
        go_ret
        exact ⟨rfl, hb.trans hb2⟩
  · have h' : linesB xs = false := by simpa using h
    rw [if_neg h]
    have HH := Lib.hid h'
    clear h h'
    go_enter Tryd.func20, Tryd.ntmps20
    go_wp2_with fail
    refine (implValidReport_any _ _ _ _ hx).mono ?_
    rintro e w' ⟨rfl, rfl⟩
    rw [HH.out]
    go_wp2
    go_ret
    exact ⟨rfl, Below.refl _ _⟩
end Go.Proofs.YtcahafbikmknaaaDoor
