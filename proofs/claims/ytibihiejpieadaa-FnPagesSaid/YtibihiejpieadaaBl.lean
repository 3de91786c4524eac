
/- Contracts of BarLines. Written by wip/gen/bl.py. -/
import Derived.Test.YtibihiejpieadaaLn
import Derived.Test.YtibihiejpieadaaColl
import Derived.Test.YtibihiejpieadaaGr
import Derived.Test.YtibihiejpieadaaShelf
import Derived.Test.YtibihiejpieadaaAll
namespace Go.Proofs.Ytibihiejpieadaa
open Go.RowKit
set_option linter.unusedVariables false

theorem infoStr1 : (Try.prog.info? 9).map (fun i => (i.zero, i.size, i.bytes)) = some (some (.string ⟨#[]⟩), 1, 16) := by kernel_rfl

/-! ### lines that are a report, or an error -/
def doneF (xs : List ByteArray) : List ByteArray := if linesB xs then xs else []
def doneC (xs : List ByteArray) : Int := if linesB xs then 0 else 5
def doneV (b : Bool) (v : Value) : Value := match b with | true => v | false => .slice none 0 0
/-- What is handed on: the very slice, or nothing. -/
def DoneR (v : Value) (xs : List ByteArray) (w : World) (e : Ending) (w' : World) : Prop := e = .returned (.tuple #[doneV (linesB xs) v, .int .i64 (doneC xs)]) ∧ w = w'
set_option maxRecDepth 100000 in
set_option maxHeartbeats 1000000 in
theorem reportOrFull_any (v : Value) (xs : List ByteArray) (fp : List Nat) (w : World) (hx : Sl fStr.cod w v xs fp) :
    Calls Try.prog 45 #[v] w fun e w' => DoneR v xs w e w' := by
  cases h0 : linesB xs
  all_goals
    go_enter Try.func45, Try.ntmps45
    go_wp2_with (go_at_call 37; refine (implValidReport_any _ _ _ _ hx).mono ?_; rintro e w' ⟨rfl, rfl⟩)
    go_ret2
    exact ⟨by rw [doneC, h0]; rfl, rfl⟩
theorem New.done {w w' : World} {v : Value} {xs : List ByteArray} (h : New fStr.cod w v xs w') : New fStr.cod w (doneV (linesB xs) v) (doneF xs) w' := by
  unfold doneF
  cases linesB xs
  · exact New.nil h.below
  · exact h

/-! ### bars -/
def mostF (xs : List Int) : Int := xs.foldl (fun a b => max a b) 0
theorem mostF_step {xs : List Int} {k : Nat} (h : k < xs.length) : mostF (xs.take (k + 1)) = max (mostF (xs.take k)) xs[k] := by
  unfold mostF; rw [List.take_succ_eq_append_getElem h, List.foldl_append]; rfl
theorem mostF_le {m : Int} (hm : 0 ≤ m) : ∀ (xs : List Int) (a : Int), a ≤ m → (∀ x ∈ xs, x ≤ m) → xs.foldl (fun a b => max a b) a ≤ m
  | [], a, ha, _ => ha
  | x :: xs, a, ha, h => by
    rw [List.foldl_cons]
    exact mostF_le hm xs _ (Int.max_le.2 ⟨ha, h x (by simp)⟩) (fun y hy => h y (by simp [hy]))
theorem mostF_ge : ∀ (xs : List Int) (a : Int), a ≤ xs.foldl (fun a b => max a b) a
  | [], a => Int.le_refl _
  | x :: xs, a => by rw [List.foldl_cons]; exact Int.le_trans (Int.le_max_left a x) (mostF_ge xs _)
theorem mostF_mem : ∀ (xs : List Int) (a : Int), ∀ x ∈ xs, x ≤ xs.foldl (fun a b => max a b) a
  | [], _, _, h => by simp at h
  | y :: xs, a, x, h => by
    rw [List.foldl_cons]
    rcases List.mem_cons.1 h with rfl | h
    · exact Int.le_trans (Int.le_max_right a x) (mostF_ge xs _)
    · exact mostF_mem xs _ x h
def barN (m width x : Int) : Nat := (x * width / max m 1).toNat
def barS (n : Nat) : ByteArray := ⟨(List.replicate n (35 : UInt8)).toArray⟩
theorem barS_size (n : Nat) : (barS n).size = n := by show (List.replicate n (35 : UInt8)).toArray.size = n; simp
theorem barS_succ (n : Nat) : barS n ++ ⟨#[35]⟩ = barS (n + 1) := by
  apply data_inj
  rw [ByteArray.data_append]
  simp only [barS, List.replicate_succ', Array.toList_append]
def barsF (xs : List Int) (width : Int) : List ByteArray := xs.map (fun x => barS (barN (mostF xs) width x))
theorem barN_le {m width x : Int} (h0 : 0 ≤ x) (h1 : x ≤ m) (hw : 1 ≤ width ∧ width ≤ 100) : 0 ≤ x * width ∧ x * width / max m 1 ≤ 100 ∧ 0 ≤ x * width / max m 1 := by
  have hm : 1 ≤ max m 1 := Int.le_max_right _ _
  have hmm : m ≤ max m 1 := Int.le_max_left _ _
  have p0 : 0 ≤ x * width := Int.mul_nonneg h0 (by omega)
  have p1 : x * width ≤ max m 1 * 100 := Int.mul_le_mul (by omega) hw.2 (by omega) (by omega)
  refine ⟨p0, ?_, Int.ediv_nonneg p0 (by omega)⟩
  have := Int.ediv_le_ediv (c := max m 1) (by omega) p1
  rwa [Int.mul_ediv_cancel_left _ (by omega)] at this
theorem repeatL_bar : ∀ n : Nat, Lib.repeatL [35] n = List.replicate n 35
  | 0 => rfl
  | n + 1 => by rw [List.replicate_succ, ← repeatL_bar n]; rfl
theorem repeat_bar (n : Nat) : (⟨(Lib.repeatL (⟨#[35]⟩ : ByteArray).data.toList n).toArray⟩ : ByteArray) = barS n := by
  unfold barS; rw [← repeatL_bar n]
theorem repeatBar_any (n : Nat) (w : World) (hn : n ≤ 100) : Calls Try.prog 44 #[.string ⟨#[35]⟩, .int .i64 (n : Int)] w fun e w' => e = .returned (.string (barS n)) ∧ Below w.heap.size w w' := by
  have := Try.strings_Repeat ⟨#[35]⟩ n w (by omega) (by show 1 * n ≤ _; omega)
  rw [repeat_bar] at this
  exact this
def barC (xs : List Int) (width : Int) : Int := if allIn xs 0 1000000000000 && inB width 1 100 then doneC (barsF xs width) else 2
def barF (xs : List Int) (width : Int) : List ByteArray := if allIn xs 0 1000000000000 && inB width 1 100 then doneF (barsF xs width) else []
theorem barF_len {xs : List Int} {width : Int} (h : xs.length ≤ 1048576) : (barF xs width).length ≤ 100000000000 := by
  unfold barF doneF barsF
  (repeat' split) <;> simp <;> omega
theorem allIn_one {xs : List Int} {lo hi : Int} (h : allIn xs lo hi = true) {x : Int} (hx : x ∈ xs) : lo ≤ x ∧ x ≤ hi := by
  unfold allIn at h; rw [List.all_eq_true] at h; exact inB_true.1 (h x hx)
set_option maxRecDepth 100000 in
set_option maxHeartbeats 4000000 in
theorem implBarLines_any (v : Value) (xs : List Int) (fp : List Nat) (width : Int) (w : World) (hx : Sl fInt.cod w v xs fp) (hlx : xs.length ≤ 1048576) :
    Calls Try.prog 14 #[v, .int .i64 width] w fun e w' => NewR2 fStr.cod w (barF xs width) (barC xs width) e w' := by
  obtain ⟨A, cap, rfl, hlen, hcap⟩ := hx.form
  obtain ⟨i0, hi, hz0, hz1, hz2⟩ := info_parts infoStr1
  cases h0 : allIn xs 0 1000000000000
  · go_enter Try.func14, Try.ntmps14
    go_wp2_with fail
    refine (allWithin_any _ xs fp _ _ _ hx).mono ?_
    rintro e w1 ⟨rfl, hb1⟩
    go_wp2
    go_ret2
    exact ⟨_, by rw [barC, h0]; rfl, by rw [barF, h0]; exact New.nil hb1⟩
  · cases h1 : inB width 1 100
    · go_enter Try.func14, Try.ntmps14
      go_wp2_with fail
      refine (allWithin_any _ xs fp _ _ _ hx).mono ?_
      rintro e w1 ⟨rfl, hb1⟩
      go_wp2_with (go_at_call 38; refine (withinB_any _ _ _ _).mono ?_; rintro e w' ⟨rfl, rfl⟩)
      go_ret2
      exact ⟨_, by rw [barC, h0, h1]; rfl, by rw [barF, h0, h1]; exact New.nil hb1⟩
    · skip
      have hall : ∀ x ∈ xs, 0 ≤ x ∧ x ≤ 1000000000000 := fun x hx => allIn_one h0 hx
      have hwd : 1 ≤ width ∧ width ≤ 100 := inB_true.1 h1
      have hm0 : 0 ≤ mostF xs := mostF_ge xs 0
      have hm1 : mostF xs ≤ 1000000000000 := mostF_le (by omega) xs 0 (by omega) (fun x hx => (hall x hx).2)
      have HC := Lib.hid (show barC xs width = doneC (barsF xs width) from by rw [barC, h0, h1]; rfl)
      have HF := Lib.hid (show barF xs width = doneF (barsF xs width) from by rw [barF, h0, h1]; rfl)
      have HOK : ∀ x ∈ barsF xs width, fStr.ok x := by
        intro x hxm
        obtain ⟨y, hy, rfl⟩ := List.mem_map.1 hxm
        show (barS _).size ≤ _
        rw [barS_size]
        have := barN_le (hall y hy).1 (mostF_mem xs 0 y hy) hwd
        unfold barN mostF
        omega
      go_enter Try.func14, Try.ntmps14
      go_wp2_with fail
      refine (allWithin_any _ xs fp _ _ _ hx).mono ?_
      rintro e w1 ⟨rfl, hb1⟩
      have hx1 := hx.below' hb1
      go_wp2_with (go_at_call 38; refine (withinB_any _ _ _ _).mono ?_; rintro e w' ⟨rfl, rfl⟩)
      go_loop [6, 22] (fun g i => ∃ k : Nat, k ≤ xs.length ∧ i = .int .i64 k ∧ ∃ q : Int, g = .int .i64 q ∧ Hid (q = mostF (xs.take k))) (fun _ i => xs.length - (intOf i).toNat)
      case atStart => exact ⟨0, Nat.zero_le _, rfl, 0, rfl, rfl⟩
      case round =>
        obtain ⟨k, hk, rfl, q, rfl, HQ⟩ := hrel
        by_cases hlt : k < xs.length
        · obtain ⟨b, off, rfl, _, hok, hc, _⟩ := hx1.cell1 rfl hlt rfl
          have HQ2 : Hid (max q xs[k] = mostF (xs.take (k + 1))) := by show _ = _; rw [mostF_step hlt, HQ.out]
          clear HQ
          go_wp2
          all_goals
            go_round
            case rel => exact ⟨k + 1, by omega, by go_num, _, rfl, HQ2⟩
            case measure => simp [intOf]; omega
        · have HQ2 : Hid (q = mostF xs) := by have := HQ.out; rw [List.take_of_length_le (by omega)] at this; exact this
          clear HQ
          obtain rfl := HQ2.out
          clear HQ2
          go_wp2
          go_loopw [9, 32] (fun v i wr => ∃ k : Nat, k ≤ xs.length ∧ i = .int .i64 k ∧ Own fStr wr w.heap.size 9 v ((xs.take k).map (fun x => barS (barN (mostF xs) width x))) ∧ Below w.heap.size w wr) (fun _ i _ => xs.length - (intOf i).toNat)
          case atStart => exact ⟨0, Nat.zero_le _, rfl, Own.nil fStr _ _ _, hb1⟩
          case round =>
            obtain ⟨k, hk, rfl, ho, hb⟩ := hrel
            by_cases hlt : k < xs.length
            · obtain ⟨b, off, rfl, _, hok, hc, _⟩ := (hx.below' hb).cell1 rfl hlt rfl
              have hxk := hall xs[k] (List.getElem_mem hlt)
              have hxm : xs[k] ≤ mostF xs := mostF_mem xs 0 xs[k] (List.getElem_mem hlt)
              obtain ⟨p0, p1, p2⟩ := barN_le hxk.1 hxm hwd
              have p3 : xs[k] * width ≤ 100000000000000 := by
                have := Int.mul_le_mul (a := xs[k]) (b := width) (c := 1000000000000) (d := 100) hxk.2 hwd.2 (by omega) (by omega)
                omega
              have ew : xs[k] * width / max (mostF xs) 1 = ((barN (mostF xs) width xs[k] : Nat) : Int) := (Int.toNat_of_nonneg p2).symm
              have hbn : barN (mostF xs) width xs[k] ≤ 100 := by have := ew; omega
              go_wp2_with fail
              refine (repeatBar_any _ _ hbn).mono ?_
              rintro e w2 ⟨rfl, hb2⟩
              have hb' := hb.trans (hb2.mono hb.size)
              have hkl : ((xs.take k).map (fun x => barS (barN (mostF xs) width x))).length = k := by simp; omega
              have ho3 : w2.ownsRow w.heap.size 9 1 u9 k (((xs.take k).map (fun x => barS (barN (mostF xs) width x))).flatMap fStr.enc) := by have := ho.below hb2; unfold Own at this; rw [hkl] at this; exact this
              have HKL := Lib.hid hkl
              clear hkl
              have hs2 := hb'.size
              clear ho ew
              go_wp2_with (at_builtin; refine wpList_append_one rfl _ _ 24 rfl w.heap.size 9 i0 (.string ⟨#[]⟩) 1 16 Try.underlying24 hi hz0 hz1 hz2 rfl (by decide) u9 k _ rfl ho3 [.string ((fun x => barS (barN (mostF xs) width x)) xs[k])] rfl (by intro u hu; rw [List.mem_singleton] at hu; subst hu; rfl) rfl (by omega) (by decide) hs2 ?_)
              intro v' u hown hbu _ _
              have hbu' := hb'.trans hbu
              have ho2 : Own fStr u w.heap.size 9 v' ((xs.take (k + 1)).map (fun x => barS (barN (mostF xs) width x))) := by rw [List.take_succ_eq_append_getElem hlt, List.map_append]; exact Own.push _ (by rw [HKL.out]) (by rw [← List.map_take] at hown; exact hown)
              clear hown
              go_wp2
              go_roundw
              case rel => exact ⟨k + 1, by omega, by go_num, ho2, hbu'⟩
              case measure => simp [intOf]; omega
            · skip
              have ho2 : Own fStr wr w.heap.size 9 u9 (barsF xs width) := by
                have e : (xs.take k) = xs := List.take_of_length_le (by omega)
                rw [e] at ho; exact ho
              clear ho
              have hn := ho2.new hb HOK
              obtain ⟨⟨fpn, hsl, hlo, hnd⟩, _⟩ := id hn
              go_wp2_with fail
              refine (reportOrFull_any _ (barsF xs width) fpn _ hsl).mono ?_
              rintro e w' ⟨rfl, rfl⟩
              go_wp2
              go_ret2
              exact ⟨_, by rw [HC.out]; rfl, by rw [HF.out]; exact hn.done⟩
theorem allIn_step {xs : List Int} {k : Nat} {lo hi : Int} (h : k < xs.length) (h0 : allIn (xs.take k) lo hi = true) (h1 : inB xs[k] lo hi = true) : allIn (xs.take (k + 1)) lo hi = true := by
  rw [List.take_succ_eq_append_getElem h]; unfold allIn at *; rw [List.all_append, h0]; simp [h1]
theorem allIn_bad {xs : List Int} {k : Nat} {lo hi : Int} (h : k < xs.length) (h1 : inB xs[k] lo hi = false) : allIn xs lo hi = false := by
  unfold allIn; rw [List.all_eq_false]; exact ⟨xs[k], List.getElem_mem h, by simp [h1]⟩
theorem barN_zero {width x : Int} (h : x = 0) : barN 0 width x = 0 := by subst h; unfold barN; simp
theorem barN_pos {m width x : Int} (h : 0 < m) (p : 0 ≤ x * width / max m 1) : x * width / m = ((barN m width x : Nat) : Int) := by
  have e : max m 1 = m := Int.max_eq_left (by omega)
  unfold barN
  rw [e] at p ⊢
  exact (Int.toNat_of_nonneg p).symm
set_option maxRecDepth 100000 in
set_option maxHeartbeats 400000 in
theorem l00Max_any (a b : Int) (w : World) : Calls Try.prog 113 #[.int .i64 a, .int .i64 b] w fun e w' => e = .returned (.int .i64 (max a b)) ∧ w = w' := by
  by_cases h : b < a
  all_goals
    go_enter Try.func113, Try.ntmps113
    go_wp2
    go_ret
    exact ⟨ret_int (by rw [Int.max_def]; split <;> omega), rfl⟩

end Go.Proofs.Ytibihiejpieadaa
