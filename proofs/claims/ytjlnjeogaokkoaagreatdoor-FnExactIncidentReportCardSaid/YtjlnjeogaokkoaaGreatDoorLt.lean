/- Lists of numbers as text, and gates. Written by wip/gen/lt.py. -/
import Derived.Test.YtjlnjeogaokkoaaGreatDoorDe
import Derived.Test.YtjlnjeogaokkoaaGreatDoorGt
import Derived.Test.YtjlnjeogaokkoaaGreatDoorSp
import Derived.Test.YtjlnjeogaokkoaaGreatDoorTInt64
namespace Go.Proofs.YtjlnjeogaokkoaaGreatDoor
open Go.RowKit
set_option linter.unusedVariables false

theorem decS_size (n : Int) : (decS n).size = (Lib.itoa n).length := by unfold decS; show (Lib.itoa n).toArray.size = _; simp
theorem itoa_len20 {n : Int} (h0 : -9223372036854775808 ≤ n) (h1 : n ≤ 9223372036854775807) : (Lib.itoa n).length ≤ 21 := by
  by_cases h : n = 0
  · subst h; rw [← decS_size, decS_zero]; decide
  · rw [itoa_ne h, List.length_append]
    have := dig_len 20 n.natAbs (by omega)
    split <;> simp <;> omega
theorem bytesL_append (a b : List UInt8) : (ByteArray.mk a.toArray ++ ByteArray.mk b.toArray) = ⟨(a ++ b).toArray⟩ := ByteArray.mk_append_mk a b
theorem bytesL_self (s : ByteArray) : s = ⟨s.data.toList.toArray⟩ := by cases s; simp
theorem mkL_size (l : List UInt8) : (ByteArray.mk l.toArray).size = l.length := by show l.toArray.size = _; simp
theorem dataL_len (s : ByteArray) : s.data.toList.length = s.size := by simp
def joinX : List (List UInt8) → List UInt8
  | [] => []
  | x :: r => x ++ r.flatMap (fun y => 44 :: y)
theorem joinX_one (x : List UInt8) : joinX [x] = x := by simp [joinX]
theorem joinX_snoc {xs : List (List UInt8)} (h : xs ≠ []) (y : List UInt8) : joinX (xs ++ [y]) = joinX xs ++ 44 :: y := by
  cases xs with
  | nil => exact absurd rfl h
  | cons x r => simp [joinX]
theorem joinX_len {n : Nat} : ∀ xs : List (List UInt8), (∀ x ∈ xs, x.length ≤ n) → (joinX xs).length ≤ (n + 1) * xs.length
  | [], _ => by simp [joinX]
  | x :: r, h => by
    have hr : ∀ r : List (List UInt8), (∀ y ∈ r, y.length ≤ n) → (r.flatMap (fun y => 44 :: y)).length ≤ (n + 1) * r.length := by
      intro r hr
      induction r with
      | nil => simp
      | cons a r ih =>
        have h1 := hr a (by simp)
        have h2 := ih (fun y hy => hr y (by simp [hy]))
        rw [List.flatMap_cons, List.length_append, List.length_cons, List.length_cons, Nat.mul_succ]
        omega
    have h1 := h x (by simp)
    have h2 := hr r (fun y hy => h y (by simp [hy]))
    show (x ++ _).length ≤ _
    rw [List.length_append, List.length_cons, Nat.mul_succ]
    omega
def listS (xs : List Int) : ByteArray := ⟨(if xs = [] then [45] else joinX (xs.map Lib.itoa)).toArray⟩
theorem itoaL_len {x : Int} (h : fInt.ok x) : (Lib.itoa x).length ≤ 21 := itoa_len20 h.1 h.2
theorem listS_size {xs : List Int} (h : ∀ x ∈ xs, fInt.ok x) : (listS xs).size ≤ 22 * xs.length + 1 := by
  unfold listS; rw [mkL_size]
  split
  · simp
  · have := joinX_len (n := 21) (xs.map Lib.itoa) (fun y hy => by obtain ⟨x, hx, rfl⟩ := List.mem_map.1 hy; exact itoaL_len (h x hx))
    rw [List.length_map] at this
    omega
theorem take_map_step {α β : Type} (f : α → β) {xs : List α} {k : Nat} (hk : k < xs.length) : (xs.take (k + 1)).map f = (xs.take k).map f ++ [f xs[k]] := by
  rw [List.take_succ_eq_append_getElem hk, List.map_append]; rfl
theorem join_first {xs : List Int} (h : 0 < xs.length) {t : ByteArray} (ht : t = ⟨(joinX ((xs.take 0).map Lib.itoa)).toArray⟩) : t ++ decS xs[0] = ⟨(joinX ((xs.take 1).map Lib.itoa)).toArray⟩ := by
  rw [ht, take_map_step Lib.itoa h]
  exact bytesL_append [] _ |>.trans (by simp [joinX])
theorem join_next {xs : List Int} {k : Nat} (h : k < xs.length) (hk : 0 < k) {t : ByteArray} (ht : t = ⟨(joinX ((xs.take k).map Lib.itoa)).toArray⟩) : t ++ ⟨#[44]⟩ ++ decS xs[k] = ⟨(joinX ((xs.take (k + 1)).map Lib.itoa)).toArray⟩ := by
  rw [ht, take_map_step Lib.itoa h, joinX_snoc (by
    intro e
    have := congrArg List.length e
    rw [List.length_map, List.length_take, List.length_nil] at this
    omega)]
  rw [show (ByteArray.mk #[44]) = ⟨([44] : List UInt8).toArray⟩ from rfl, bytesL_append]
  exact (bytesL_append _ _).trans (by simp)
def dataX (Xs : List ByteArray) : List (List UInt8) := Xs.map (fun x : ByteArray => x.data.toList)
def joinS (Xs : List ByteArray) : ByteArray := ⟨(joinX (dataX Xs)).toArray⟩
theorem joinX_dlen {Xs : List ByteArray} (h : ∀ x ∈ Xs, x.size ≤ 1000) (k : Nat) : (joinX (dataX (Xs.take k))).length ≤ 1001 * k := by
  have h1 := joinX_len (n := 1000) (dataX (Xs.take k)) (fun y hy => by
    unfold dataX at hy
    obtain ⟨x, hx, rfl⟩ := List.mem_map.1 hy
    have := h x (List.mem_of_mem_take hx)
    rw [dataL_len]; exact this)
  have h2 : (dataX (Xs.take k)).length ≤ k := by unfold dataX; rw [List.length_map, List.length_take]; omega
  have h3 : (1000 + 1) * (dataX (Xs.take k)).length ≤ (1000 + 1) * k := Nat.mul_le_mul_left _ h2
  omega
theorem joinX_step {Xs : List ByteArray} {k : Nat} (hk : k < Xs.length) (h0 : 0 < k) : joinX (dataX (Xs.take (k + 1))) = (joinX (dataX (Xs.take k)) ++ [44]) ++ Xs[k].data.toList := by
  unfold dataX
  rw [take_map_step _ hk, joinX_snoc (by
    intro e
    have := congrArg List.length e
    rw [List.length_map, List.length_take, List.length_nil] at this
    omega)]
  simp
def fitsL (xs : List Int) : Bool := decide (xs.length ≤ 64) && xs.all (fun x => inB x (-1000000000000) 1000000000000)
def listT (xs : List Int) : ByteArray := if fitsL xs then listS xs else ⟨#[]⟩
def decL (xs : List Int) : List ByteArray := xs.map decS
theorem decL_data (xs : List Int) : dataX (decL xs) = xs.map Lib.itoa := by
  unfold dataX decL; rw [List.map_map]; congr 1
theorem infoStrL : (Tryz.prog.info? 9).map (fun i => (i.zero, i.size, i.bytes)) = some (some (.string ⟨#[]⟩), 1, 16) := by kernel_rfl
theorem own_made {α : Type} {E : Flat α} {w : World} {base : Nat} (hb : base ≤ w.heap.size) {e : TypeId} {z : Array Value} {c : Nat} (hc : c ≤ 9223372036854775807) :
    Own E (w.alloc (.cells (madeCells z (c * E.n)) e)) base e (.slice (some ⟨w.heap.size, 0, none⟩) 0 c) [] := by
  refine ⟨by simp, .inr ⟨w.heap.size, c, madeCells z (c * E.n), rfl, hb, heap_alloc_new w _, Nat.zero_le _, by unfold maxLen; exact hc, size_madeCells _ _, ?_⟩⟩
  simp
theorem listT_size {xs : List Int} (h : ∀ x ∈ xs, fInt.ok x) (hl : xs.length ≤ 1000) : (listT xs).size ≤ 22001 := by
  unfold listT; split
  · have := listS_size h; omega
  · show 0 ≤ _; omega
def gtN (x : DGate) : List Int := [x.shut, x.open_, x.hold]
def gtS (x : DGate) : ByteArray := if x.shuts then x.id ++ ⟨#[32]⟩ ++ listS (gtN x) ++ ⟨#[32, 115, 104, 117, 116, 32]⟩ ++ decS x.calm else x.id ++ ⟨#[32]⟩ ++ listS (gtN x) ++ ⟨#[32, 111, 112, 101, 110]⟩
theorem gateB_parts {x : DGate} (h : gateB x = true) : x.id.size ≤ 10 ∧ (1 ≤ x.shut ∧ x.shut ≤ 1000) ∧ (0 ≤ x.open_ ∧ x.open_ ≤ x.shut) ∧ (1 ≤ x.hold ∧ x.hold ≤ 48) ∧ (0 ≤ x.calm ∧ x.calm ≤ x.hold - 1) := by
  unfold gateB inB nameB at h
  simp only [Bool.and_eq_true, decide_eq_true_eq] at h
  obtain ⟨⟨⟨⟨⟨h1, h2⟩, h3⟩, h4⟩, h5⟩, _⟩ := h
  exact ⟨h1.1.1, h2, h3, h4, h5⟩
theorem gtN_ok {x : DGate} (h : gateB x = true) : ∀ y ∈ gtN x, fInt.ok y := by
  obtain ⟨_, h1, h2, h3, _⟩ := gateB_parts h
  intro y hy
  unfold gtN at hy
  simp at hy
  rcases hy with rfl | rfl | rfl <;> (show _ ∧ _; omega)
theorem gtN_fits {x : DGate} (h : gateB x = true) : listT (gtN x) = listS (gtN x) := by
  obtain ⟨_, h1, h2, h3, _⟩ := gateB_parts h
  unfold listT
  rw [if_pos]
  unfold fitsL gtN inB
  simp
  omega
theorem gtS_size {x : DGate} (h : gateB x = true) : (gtS x).size ≤ 200 := by
  have h0 := (gateB_parts h).1
  have h1 := listS_size (gtN_ok h)
  have h2 : (decS x.calm).size ≤ 21 := by rw [decS_size]; obtain ⟨_, _, _, _, h5⟩ := gateB_parts h; obtain ⟨_, _, _, h4, _⟩ := gateB_parts h; exact itoa_len20 (by omega) (by omega)
  have h3 : (gtN x).length = 3 := rfl
  unfold gtS
  split
  · simp only [ByteArray.size_append]
    show x.id.size + 1 + _ + 6 + _ ≤ _; omega
  · simp only [ByteArray.size_append]
    show x.id.size + 1 + _ + 5 ≤ _; omega

end Go.Proofs.YtjlnjeogaokkoaaGreatDoor
