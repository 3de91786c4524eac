/- Contracts of BarLines. Written by wip/gen/bl.py. -/
import Derived.Test.YtjlnjeogaokkoaaGreatDoorLn
import Derived.Test.YtjlnjeogaokkoaaGreatDoorColl
import Derived.Test.YtjlnjeogaokkoaaGreatDoorGr
import Derived.Test.YtjlnjeogaokkoaaGreatDoorShelf
import Derived.Test.YtjlnjeogaokkoaaGreatDoorAll
namespace Go.Proofs.YtjlnjeogaokkoaaGreatDoor
open Go.RowKit
set_option linter.unusedVariables false

theorem infoStr1 : (Tryz.prog.info? 9).map (fun i => (i.zero, i.size, i.bytes)) = some (some (.string ⟨#[]⟩), 1, 16) := by kernel_rfl

/-! ### lines that are a report, or an error -/
def doneF (xs : List ByteArray) : List ByteArray := if linesB xs then xs else []
def doneC (xs : List ByteArray) : Int := if linesB xs then 0 else 5
def doneV (b : Bool) (v : Value) : Value := match b with | true => v | false => .slice none 0 0
/-- What is handed on: the very slice, or nothing. -/
def DoneR (v : Value) (xs : List ByteArray) (w : World) (e : Ending) (w' : World) : Prop := e = .returned (.tuple #[doneV (linesB xs) v, .int .i64 (doneC xs)]) ∧ w = w'
set_option maxRecDepth 100000 in
set_option maxHeartbeats 1000000 in
theorem l30Done_any (v : Value) (xs : List ByteArray) (fp : List Nat) (w : World) (hx : Sl fStr.cod w v xs fp) :
    Calls Tryz.prog 17 #[v] w fun e w' => DoneR v xs w e w' := by
  cases h0 : linesB xs
  all_goals
    go_enter Tryz.func17, Tryz.ntmps17
    go_wp2_with (go_at_call 30; refine (l30Ok_any _ _ _ _ hx).mono ?_; rintro e w' ⟨rfl, rfl⟩)
    go_ret2
    exact ⟨by rw [doneC, h0]; rfl, rfl⟩
set_option maxRecDepth 100000 in
set_option maxHeartbeats 1000000 in
theorem reportOrFull_any (v : Value) (xs : List ByteArray) (fp : List Nat) (w : World) (hx : Sl fStr.cod w v xs fp) :
    Calls Tryz.prog 41 #[v] w fun e w' => DoneR v xs w e w' := by
  cases h0 : linesB xs
  all_goals
    go_enter Tryz.func41, Tryz.ntmps41
    go_wp2_with (go_at_call 66; refine (implValidReport_any _ _ _ _ hx).mono ?_; rintro e w' ⟨rfl, rfl⟩)
    go_ret2
    exact ⟨by rw [doneC, h0]; rfl, rfl⟩
theorem New.done {w w' : World} {v : Value} {xs : List ByteArray} (h : New fStr.cod w v xs w') : New fStr.cod w (doneV (linesB xs) v) (doneF xs) w' := by
  unfold doneF
  cases linesB xs
  · exact New.nil h.below
  · exact h

/-! ### bars -/
def mostF (xs : List Int) : Int := xs.foldl (fun a b => max a b) 0
theorem mostF_step {xs : List Int} {k : Nat} (h : k < xs.length) : mostF (xs.take (k + 1)) = max (mostF (xs.take k)) xs[k] := by
  unfold mostF; rw [List.take_succ_eq_append_getElem h, List.foldl_append]; rfl
theorem mostF_le {m : Int} (hm : 0 ≤ m) : ∀ (xs : List Int) (a : Int), a ≤ m → (∀ x ∈ xs, x ≤ m) → xs.foldl (fun a b => max a b) a ≤ m
  | [], a, ha, _ => ha
  | x :: xs, a, ha, h => by
    rw [List.foldl_cons]
    exact mostF_le hm xs _ (Int.max_le.2 ⟨ha, h x (by simp)⟩) (fun y hy => h y (by simp [hy]))
theorem mostF_ge : ∀ (xs : List Int) (a : Int), a ≤ xs.foldl (fun a b => max a b) a
  | [], a => Int.le_refl _
  | x :: xs, a => by rw [List.foldl_cons]; exact Int.le_trans (Int.le_max_left a x) (mostF_ge xs _)
theorem mostF_mem : ∀ (xs : List Int) (a : Int), ∀ x ∈ xs, x ≤ xs.foldl (fun a b => max a b) a
  | [], _, _, h => by simp at h
  | y :: xs, a, x, h => by
    rw [List.foldl_cons]
    rcases List.mem_cons.1 h with rfl | h
    · exact Int.le_trans (Int.le_max_right a x) (mostF_ge xs _)
    · exact mostF_mem xs _ x h
def barN (m width x : Int) : Nat := (x * width / max m 1).toNat
def barS (n : Nat) : ByteArray := ⟨(List.replicate n (35 : UInt8)).toArray⟩
theorem barS_size (n : Nat) : (barS n).size = n := by show (List.replicate n (35 : UInt8)).toArray.size = n; simp
theorem barS_succ (n : Nat) : barS n ++ ⟨#[35]⟩ = barS (n + 1) := by
  apply data_inj
  rw [ByteArray.data_append]
  simp only [barS, List.replicate_succ', Array.toList_append]
def barsF (xs : List Int) (width : Int) : List ByteArray := xs.map (fun x => barS (barN (mostF xs) width x))
theorem barN_le {m width x : Int} (h0 : 0 ≤ x) (h1 : x ≤ m) (hw : 1 ≤ width ∧ width ≤ 100) : 0 ≤ x * width ∧ x * width / max m 1 ≤ 100 ∧ 0 ≤ x * width / max m 1 := by
  have hm : 1 ≤ max m 1 := Int.le_max_right _ _
  have hmm : m ≤ max m 1 := Int.le_max_left _ _
  have p0 : 0 ≤ x * width := Int.mul_nonneg h0 (by omega)
  have p1 : x * width ≤ max m 1 * 100 := Int.mul_le_mul (by omega) hw.2 (by omega) (by omega)
  refine ⟨p0, ?_, Int.ediv_nonneg p0 (by omega)⟩
  have := Int.ediv_le_ediv (c := max m 1) (by omega) p1
  rwa [Int.mul_ediv_cancel_left _ (by omega)] at this
theorem repeatL_bar : ∀ n : Nat, Lib.repeatL [35] n = List.replicate n 35
  | 0 => rfl
  | n + 1 => by rw [List.replicate_succ, ← repeatL_bar n]; rfl
theorem repeat_bar (n : Nat) : (⟨(Lib.repeatL (⟨#[35]⟩ : ByteArray).data.toList n).toArray⟩ : ByteArray) = barS n := by
  unfold barS; rw [← repeatL_bar n]
theorem repeatBar_any (n : Nat) (w : World) (hn : n ≤ 100) : Calls Tryz.prog 38 #[.string ⟨#[35]⟩, .int .i64 (n : Int)] w fun e w' => e = .returned (.string (barS n)) ∧ Below w.heap.size w w' := by
  have := Tryz.strings_Repeat ⟨#[35]⟩ n w (by omega) (by show 1 * n ≤ _; omega)
  rw [repeat_bar] at this
  exact this
theorem barN_zero {width x : Int} (h : x = 0) : barN 0 width x = 0 := by subst h; unfold barN; simp
theorem barN_pos {m width x : Int} (h : 0 < m) (p : 0 ≤ x * width / max m 1) : x * width / m = ((barN m width x : Nat) : Int) := by
  have e : max m 1 = m := Int.max_eq_left (by omega)
  unfold barN
  rw [e] at p ⊢
  exact (Int.toNat_of_nonneg p).symm

end Go.Proofs.YtjlnjeogaokkoaaGreatDoor
