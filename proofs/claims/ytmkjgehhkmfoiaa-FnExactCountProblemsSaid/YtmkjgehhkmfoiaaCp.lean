/- Contracts of CountProblems, the program's and the reference's. Written by wip/gen/cp.py. -/
import Derived.Test.YtmkjgehhkmfoiaaTProblem
import Derived.Test.YtmkjgehhkmfoiaaTInt64
import Derived.Test.YtmkjgehhkmfoiaaPn
namespace Go.Proofs.Ytmkjgehhkmfoiaa
open Go.RowKit
set_option linter.unusedVariables false

def nk (xs : List DProblem) (j : Int) : Int := ((xs.filter fun x => x.kind == j).length : Int)
def cntF (xs : List DProblem) : List Int := [nk xs 1 + nk xs 2 + nk xs 3 + nk xs 4, nk xs 1, nk xs 2, nk xs 3, nk xs 4]
theorem nk_step {xs : List DProblem} {k : Nat} (h : k < xs.length) (j : Int) : nk (xs.take (k + 1)) j = nk (xs.take k) j + if xs[k].kind = j then 1 else 0 := by
  unfold nk
  rw [List.take_succ_eq_append_getElem h, List.filter_append, List.length_append]
  by_cases e : xs[k].kind = j <;> simp [List.filter_cons, e]
theorem nk_nil (j : Int) : nk [] j = 0 := rfl

def Cnt (w : World) (g : Nat) (c0 c1 c2 c3 c4 : Int) : Prop := w.heap[g]? = some (.cells #[.int .i64 c0, .int .i64 c1, .int .i64 c2, .int .i64 c3, .int .i64 c4] 2 (0, 0))
theorem Cnt.cell {w : World} {g : Nat} {c0 c1 c2 c3 c4 : Int} (h : Cnt w g c0 c1 c2 c3 c4) : w.cell? ⟨g, 0, none⟩ = some (.int .i64 c0) ∧ w.cell? ⟨g, 1, none⟩ = some (.int .i64 c1) ∧ w.cell? ⟨g, 2, none⟩ = some (.int .i64 c2) ∧ w.cell? ⟨g, 3, none⟩ = some (.int .i64 c3) ∧ w.cell? ⟨g, 4, none⟩ = some (.int .i64 c4) := by
  unfold Cnt at h
  refine ⟨?_, ?_, ?_, ?_, ?_⟩ <;> simp [World.cell?, h]
theorem Cnt.frozen {w : World} {g : Nat} {c0 c1 c2 c3 c4 : Int} (h : Cnt w g c0 c1 c2 c3 c4) (j : Nat) : w.frozen? ⟨g, j, none⟩ = false := by
  unfold Cnt at h
  simp [World.frozen?, h]
theorem Cnt.own {w : World} {base g : Nat} {c0 c1 c2 c3 c4 : Int} (h : Cnt w g c0 c1 c2 c3 c4) (hb : base ≤ g) : w.ownsRow base 2 1 (.slice (some ⟨g, 0, none⟩) 5 5) 5 [.int .i64 c0, .int .i64 c1, .int .i64 c2, .int .i64 c3, .int .i64 c4] :=
  ⟨rfl, .inr ⟨g, 5, _, rfl, hb, h, Nat.le_refl _, by unfold maxLen; omega, rfl, rfl⟩⟩
theorem Cnt.alloc {w : World} {g : Nat} {c0 c1 c2 c3 c4 : Int} (h : Cnt w g c0 c1 c2 c3 c4) (o : Obj) : Cnt (w.alloc o) g c0 c1 c2 c3 c4 := by
  unfold Cnt at *
  have hlt : g < w.heap.size := by
    rcases Nat.lt_or_ge g w.heap.size with h1 | h1
    · exact h1
    · rw [Array.getElem?_eq_none h1] at h; cases h
  refine (Below.heap_alloc w o g hlt).trans ?_
  exact h
theorem Cnt.cong {w : World} {g : Nat} {c0 c0' c1 c2 c3 c4 : Int} (h : Cnt w g c0 c1 c2 c3 c4) (e : c0 = c0') : Cnt w g c0' c1 c2 c3 c4 := by subst e; exact h
theorem infoI64 : (Try.prog.info? 2).map (fun i => (i.zero, i.size, i.bytes)) = some (some (.int .i64 0), 1, 8) := by kernel_rfl
theorem Cnt.set0 {w : World} {g : Nat} {c0 c1 c2 c3 c4 : Int} (h : Cnt w g c0 c1 c2 c3 c4) (x : Int) : Cnt (w.setCell ⟨g, 0, none⟩ (.int .i64 x)) g x c1 c2 c3 c4 := heap_setCell_same w g 0 _ _ _ h
theorem Cnt.set1 {w : World} {g : Nat} {c0 c1 c2 c3 c4 : Int} (h : Cnt w g c0 c1 c2 c3 c4) (x : Int) : Cnt (w.setCell ⟨g, 1, none⟩ (.int .i64 x)) g c0 x c2 c3 c4 := heap_setCell_same w g 1 _ _ _ h
theorem Cnt.set2 {w : World} {g : Nat} {c0 c1 c2 c3 c4 : Int} (h : Cnt w g c0 c1 c2 c3 c4) (x : Int) : Cnt (w.setCell ⟨g, 2, none⟩ (.int .i64 x)) g c0 c1 x c3 c4 := heap_setCell_same w g 2 _ _ _ h
theorem Cnt.set3 {w : World} {g : Nat} {c0 c1 c2 c3 c4 : Int} (h : Cnt w g c0 c1 c2 c3 c4) (x : Int) : Cnt (w.setCell ⟨g, 3, none⟩ (.int .i64 x)) g c0 c1 c2 x c4 := heap_setCell_same w g 3 _ _ _ h
theorem Cnt.set4 {w : World} {g : Nat} {c0 c1 c2 c3 c4 : Int} (h : Cnt w g c0 c1 c2 c3 c4) (x : Int) : Cnt (w.setCell ⟨g, 4, none⟩ (.int .i64 x)) g c0 c1 c2 c3 x := heap_setCell_same w g 4 _ _ _ h

set_option maxHeartbeats 4000000 in
theorem specCountProblems_any (v : Value) (xs : List DProblem) (fp : List Nat) (w : World) (hx : Sl fProblem.cod w v xs fp) (h1 : xs.length ≤ 1048576) :
    Calls Try.prog 28 #[v] w fun e w' => NewR fInt.cod w (cntF xs) e w' := by
  obtain ⟨A, cap, rfl, hlen, hcap⟩ := hx.form
  have hmk : ∀ W : World, (Instr.makeSlice 45 (.int .i64 5) (.int .i64 5)).run Try.prog W = .ok (.slice (some ⟨W.heap.size, 0, none⟩) 5 5) (W.alloc (.cells #[.int .i64 0, .int .i64 0, .int .i64 0, .int .i64 0, .int .i64 0] 2)) := fun _ => by kernel_rfl
  go_enter Try.func28, Try.ntmps28
  go_wp2
  go_loopw [4] (fun i wr => ∃ k : Nat, k ≤ xs.length ∧ i = .int .i64 k ∧ ∃ n1 n2 n3 n4 : Int, 0 ≤ n1 ∧ 0 ≤ n2 ∧ 0 ≤ n3 ∧ 0 ≤ n4 ∧ n1 + n2 + n3 + n4 ≤ k ∧ Cnt wr w.heap.size (n1 + n2 + n3 + n4) n1 n2 n3 n4 ∧ Hid (n1 = nk (xs.take k) 1 ∧ n2 = nk (xs.take k) 2 ∧ n3 = nk (xs.take k) 3 ∧ n4 = nk (xs.take k) 4) ∧ Below w.heap.size w wr) (fun i _ => xs.length - (intOf i).toNat)
  case atStart => exact ⟨0, Nat.zero_le _, rfl, 0, 0, 0, 0, by omega, by omega, by omega, by omega, by omega, heap_alloc_new w _, ⟨rfl, rfl, rfl, rfl⟩, (by repeat (first | exact Below.refl _ _ | assumption | refine Below.alloc ?_ (by first | omega | (simp <;> omega)) _ | refine Below.setCell ?_ (by first | (show _ ≤ _; omega) | (simp <;> omega)) _ | refine Below.drew ?_ | refine below_drewN ?_ _))⟩
  case round =>
    obtain ⟨k, hk, rfl, n1, n2, n3, n4, p1, p2, p3, p4, ps, hcn, HN, hb⟩ := hrel
    have hbs := hb.size
    have hgl : w.heap.size < wr.heap.size := by
      rcases Nat.lt_or_ge w.heap.size wr.heap.size with h | h
      · exact h
      · unfold Cnt at hcn; rw [Array.getElem?_eq_none h] at hcn; cases hcn
    by_cases hlt : k < xs.length
    · obtain ⟨b, off, rfl, _, hok, hc, _⟩ := (hx.below' hb).at_ hlt
      have hc0 : wr.cell? ⟨b, off + k * 3, none⟩ = some (.int .i64 xs[k].kind) := hc 0 (by decide)
      have hc1 : wr.cell? ⟨b, off + k * 3 + 1, none⟩ = some (.string xs[k].who) := hc 1 (by decide)
      have hc2 : wr.cell? ⟨b, off + k * 3 + 2, none⟩ = some (.string xs[k].what) := hc 2 (by decide)
      have hbl : b < wr.heap.size := block_lt_of_cell hc0
      clear hc hok
      have hs1 := Lib.hid (nk_step hlt 1)
      have hs2 := Lib.hid (nk_step hlt 2)
      have hs3 := Lib.hid (nk_step hlt 3)
      have hs4 := Lib.hid (nk_step hlt 4)
      obtain ⟨d0, d1, d2, d3, d4⟩ := hcn.cell
      have f0 := hcn.frozen 0
      have f1 := hcn.frozen 1
      have f2 := hcn.frozen 2
      have f3 := hcn.frozen 3
      have f4 := hcn.frozen 4
      have hne : w.heap.size ≠ b := by
        intro he; subst he
        unfold Cnt at hcn
        have := hx.lt
        obtain ⟨b2, o2, hA2, hm2, _⟩ := hx.at_ hlt
        injection hA2 with hA2; injection hA2 with hA2 _ _
        have := hx.lt b2 hm2
        omega
      have HC := Lib.hid hcn
      clear hcn
      generalize xs[k].kind = kd at *
      by_cases hr : 1 ≤ kd ∧ kd ≤ 4
      · have hkk : kd = 1 ∨ kd = 2 ∨ kd = 3 ∨ kd = 4 := by omega
        clear hr
        rcases hkk with rfl | rfl | rfl | rfl
        · go_wp2_with (go_at_call 36; refine (l31Kind_any _ _).mono ?_; rintro e w' ⟨rfl, rfl⟩)
          go_roundw
          case rel => exact ⟨k + 1, by omega, by go_num, n1 + 1, n2, n3, n4, by omega, by omega, by omega, by omega, by omega, ((HC.out.set1 (n1 + 1)).set0 (n1 + n2 + n3 + n4 + 1)).cong (by omega), by have hn := HN.out; have h1 := hs1.out; have h2 := hs2.out; have h3 := hs3.out; have h4 := hs4.out; simp at h1 h2 h3 h4; exact ⟨by omega, by omega, by omega, by omega⟩, (by repeat (first | exact Below.refl _ _ | assumption | refine Below.alloc ?_ (by first | omega | (simp <;> omega)) _ | refine Below.setCell ?_ (by first | (show _ ≤ _; omega) | (simp <;> omega)) _ | refine Below.drew ?_ | refine below_drewN ?_ _))⟩
          case measure => simp [intOf]; omega
        · go_wp2_with (go_at_call 36; refine (l31Kind_any _ _).mono ?_; rintro e w' ⟨rfl, rfl⟩)
          go_roundw
          case rel => exact ⟨k + 1, by omega, by go_num, n1, n2 + 1, n3, n4, by omega, by omega, by omega, by omega, by omega, ((HC.out.set2 (n2 + 1)).set0 (n1 + n2 + n3 + n4 + 1)).cong (by omega), by have hn := HN.out; have h1 := hs1.out; have h2 := hs2.out; have h3 := hs3.out; have h4 := hs4.out; simp at h1 h2 h3 h4; exact ⟨by omega, by omega, by omega, by omega⟩, (by repeat (first | exact Below.refl _ _ | assumption | refine Below.alloc ?_ (by first | omega | (simp <;> omega)) _ | refine Below.setCell ?_ (by first | (show _ ≤ _; omega) | (simp <;> omega)) _ | refine Below.drew ?_ | refine below_drewN ?_ _))⟩
          case measure => simp [intOf]; omega
        · go_wp2_with (go_at_call 36; refine (l31Kind_any _ _).mono ?_; rintro e w' ⟨rfl, rfl⟩)
          go_roundw
          case rel => exact ⟨k + 1, by omega, by go_num, n1, n2, n3 + 1, n4, by omega, by omega, by omega, by omega, by omega, ((HC.out.set3 (n3 + 1)).set0 (n1 + n2 + n3 + n4 + 1)).cong (by omega), by have hn := HN.out; have h1 := hs1.out; have h2 := hs2.out; have h3 := hs3.out; have h4 := hs4.out; simp at h1 h2 h3 h4; exact ⟨by omega, by omega, by omega, by omega⟩, (by repeat (first | exact Below.refl _ _ | assumption | refine Below.alloc ?_ (by first | omega | (simp <;> omega)) _ | refine Below.setCell ?_ (by first | (show _ ≤ _; omega) | (simp <;> omega)) _ | refine Below.drew ?_ | refine below_drewN ?_ _))⟩
          case measure => simp [intOf]; omega
        · go_wp2_with (go_at_call 36; refine (l31Kind_any _ _).mono ?_; rintro e w' ⟨rfl, rfl⟩)
          go_roundw
          case rel => exact ⟨k + 1, by omega, by go_num, n1, n2, n3, n4 + 1, by omega, by omega, by omega, by omega, by omega, ((HC.out.set4 (n4 + 1)).set0 (n1 + n2 + n3 + n4 + 1)).cong (by omega), by have hn := HN.out; have h1 := hs1.out; have h2 := hs2.out; have h3 := hs3.out; have h4 := hs4.out; simp at h1 h2 h3 h4; exact ⟨by omega, by omega, by omega, by omega⟩, (by repeat (first | exact Below.refl _ _ | assumption | refine Below.alloc ?_ (by first | omega | (simp <;> omega)) _ | refine Below.setCell ?_ (by first | (show _ ≤ _; omega) | (simp <;> omega)) _ | refine Below.drew ?_ | refine below_drewN ?_ _))⟩
          case measure => simp [intOf]; omega
      · have hkb : (decide (1 ≤ kd) && decide (kd ≤ 4)) = false := by simp; omega
        have HR := Lib.hid hr
        clear hr
        go_wp2_with (go_at_call 36; refine (l31Kind_any _ _).mono ?_; rintro e w' ⟨rfl, rfl⟩)
        go_roundw
        case rel => exact ⟨k + 1, by omega, by go_num, n1, n2, n3, n4, p1, p2, p3, p4, by omega, HC.out, by have hn := HN.out; have h1 := hs1.out; have h2 := hs2.out; have h3 := hs3.out; have h4 := hs4.out; have hr := HR.out; rw [if_neg (by omega)] at h1 h2 h3 h4; exact ⟨by omega, by omega, by omega, by omega⟩, (by repeat (first | exact Below.refl _ _ | assumption | refine Below.alloc ?_ (by first | omega | (simp <;> omega)) _ | refine Below.setCell ?_ (by first | (show _ ≤ _; omega) | (simp <;> omega)) _ | refine Below.drew ?_ | refine below_drewN ?_ _))⟩
        case measure => simp [intOf]; omega
    · go_wp2
      go_ret
      have hn := HN.out
      rw [List.take_of_length_le (by omega)] at hn
      obtain ⟨e1, e2, e3, e4⟩ := hn
      refine ⟨_, rfl, Sl.of_own (E := fInt) (e := 2) (xs := cntF xs) rfl ?_ ?_, hb⟩
      · have ho := hcn.own (base := w.heap.size) (Nat.le_refl _)
        rw [e1, e2, e3, e4] at ho
        exact ho
      · intro x hx'
        show _ ≤ _ ∧ _ ≤ _
        simp only [cntF, ← e1, ← e2, ← e3, ← e4, List.mem_cons, List.not_mem_nil, or_false] at hx'
        rcases hx' with rfl | rfl | rfl | rfl | rfl <;> omega

set_option maxHeartbeats 4000000 in
theorem implCountProblems_any (v : Value) (xs : List DProblem) (fp : List Nat) (w : World) (hx : Sl fProblem.cod w v xs fp) (h1 : xs.length ≤ 1048576) :
    Calls Try.prog 30 #[v] w fun e w' => NewR fInt.cod w (cntF xs) e w' := by
  obtain ⟨A, cap, rfl, hlen, hcap⟩ := hx.form
  have hmk : ∀ W : World, (Instr.makeSlice 45 (.int .i64 5) (.int .i64 5)).run Try.prog W = .ok (.slice (some ⟨W.heap.size, 0, none⟩) 5 5) (W.alloc (.cells #[.int .i64 0, .int .i64 0, .int .i64 0, .int .i64 0, .int .i64 0] 2)) := fun _ => by kernel_rfl
  go_enter Try.func30, Try.ntmps30
  go_wp2
  go_loopw [9] (fun i wr => ∃ k : Nat, k ≤ xs.length ∧ i = .int .i64 k ∧ ∃ n1 n2 n3 n4 : Int, 0 ≤ n1 ∧ 0 ≤ n2 ∧ 0 ≤ n3 ∧ 0 ≤ n4 ∧ n1 + n2 + n3 + n4 ≤ k ∧ Cnt wr w.heap.size (n1 + n2 + n3 + n4) n1 n2 n3 n4 ∧ Hid (n1 = nk (xs.take k) 1 ∧ n2 = nk (xs.take k) 2 ∧ n3 = nk (xs.take k) 3 ∧ n4 = nk (xs.take k) 4) ∧ Below w.heap.size w wr) (fun i _ => xs.length - (intOf i).toNat)
  case atStart => exact ⟨0, Nat.zero_le _, rfl, 0, 0, 0, 0, by omega, by omega, by omega, by omega, by omega, heap_alloc_new w _, ⟨rfl, rfl, rfl, rfl⟩, (by repeat (first | exact Below.refl _ _ | assumption | refine Below.alloc ?_ (by first | omega | (simp <;> omega)) _ | refine Below.setCell ?_ (by first | (show _ ≤ _; omega) | (simp <;> omega)) _ | refine Below.drew ?_ | refine below_drewN ?_ _))⟩
  case round =>
    obtain ⟨k, hk, rfl, n1, n2, n3, n4, p1, p2, p3, p4, ps, hcn, HN, hb⟩ := hrel
    have hbs := hb.size
    have hgl : w.heap.size < wr.heap.size := by
      rcases Nat.lt_or_ge w.heap.size wr.heap.size with h | h
      · exact h
      · unfold Cnt at hcn; rw [Array.getElem?_eq_none h] at hcn; cases hcn
    by_cases hlt : k < xs.length
    · obtain ⟨b, off, rfl, _, hok, hc, _⟩ := (hx.below' hb).at_ hlt
      have hc0 : wr.cell? ⟨b, off + k * 3, none⟩ = some (.int .i64 xs[k].kind) := hc 0 (by decide)
      have hc1 : wr.cell? ⟨b, off + k * 3 + 1, none⟩ = some (.string xs[k].who) := hc 1 (by decide)
      have hc2 : wr.cell? ⟨b, off + k * 3 + 2, none⟩ = some (.string xs[k].what) := hc 2 (by decide)
      have hbl : b < wr.heap.size := block_lt_of_cell hc0
      clear hc hok
      have hs1 := Lib.hid (nk_step hlt 1)
      have hs2 := Lib.hid (nk_step hlt 2)
      have hs3 := Lib.hid (nk_step hlt 3)
      have hs4 := Lib.hid (nk_step hlt 4)
      obtain ⟨d0, d1, d2, d3, d4⟩ := hcn.cell
      have f0 := hcn.frozen 0
      have f1 := hcn.frozen 1
      have f2 := hcn.frozen 2
      have f3 := hcn.frozen 3
      have f4 := hcn.frozen 4
      have hne : w.heap.size ≠ b := by
        intro he; subst he
        unfold Cnt at hcn
        have := hx.lt
        obtain ⟨b2, o2, hA2, hm2, _⟩ := hx.at_ hlt
        injection hA2 with hA2; injection hA2 with hA2 _ _
        have := hx.lt b2 hm2
        omega
      have HC := Lib.hid hcn
      clear hcn
      generalize xs[k].kind = kd at *
      by_cases hr : 1 ≤ kd ∧ kd ≤ 4
      · have hkk : kd = 1 ∨ kd = 2 ∨ kd = 3 ∨ kd = 4 := by omega
        clear hr
        rcases hkk with rfl | rfl | rfl | rfl
        · go_wp2_with (go_at_call 38; refine (within_any _ _ _ _).mono ?_; rintro e w' ⟨rfl, rfl⟩)
          go_roundw
          case rel => exact ⟨k + 1, by omega, by go_num, n1 + 1, n2, n3, n4, by omega, by omega, by omega, by omega, by omega, (((HC.out.set0 (n1 + n2 + n3 + n4 + 1)).set1 (n1 + 1)).alloc _).cong (by omega), by have hn := HN.out; have h1 := hs1.out; have h2 := hs2.out; have h3 := hs3.out; have h4 := hs4.out; simp at h1 h2 h3 h4; exact ⟨by omega, by omega, by omega, by omega⟩, (by repeat (first | exact Below.refl _ _ | assumption | refine Below.alloc ?_ (by first | omega | (simp <;> omega)) _ | refine Below.setCell ?_ (by first | (show _ ≤ _; omega) | (simp <;> omega)) _ | refine Below.drew ?_ | refine below_drewN ?_ _))⟩
          case measure => simp [intOf]; omega
        · go_wp2_with (go_at_call 38; refine (within_any _ _ _ _).mono ?_; rintro e w' ⟨rfl, rfl⟩)
          go_roundw
          case rel => exact ⟨k + 1, by omega, by go_num, n1, n2 + 1, n3, n4, by omega, by omega, by omega, by omega, by omega, (((HC.out.set0 (n1 + n2 + n3 + n4 + 1)).set2 (n2 + 1)).alloc _).cong (by omega), by have hn := HN.out; have h1 := hs1.out; have h2 := hs2.out; have h3 := hs3.out; have h4 := hs4.out; simp at h1 h2 h3 h4; exact ⟨by omega, by omega, by omega, by omega⟩, (by repeat (first | exact Below.refl _ _ | assumption | refine Below.alloc ?_ (by first | omega | (simp <;> omega)) _ | refine Below.setCell ?_ (by first | (show _ ≤ _; omega) | (simp <;> omega)) _ | refine Below.drew ?_ | refine below_drewN ?_ _))⟩
          case measure => simp [intOf]; omega
        · go_wp2_with (go_at_call 38; refine (within_any _ _ _ _).mono ?_; rintro e w' ⟨rfl, rfl⟩)
          go_roundw
          case rel => exact ⟨k + 1, by omega, by go_num, n1, n2, n3 + 1, n4, by omega, by omega, by omega, by omega, by omega, (((HC.out.set0 (n1 + n2 + n3 + n4 + 1)).set3 (n3 + 1)).alloc _).cong (by omega), by have hn := HN.out; have h1 := hs1.out; have h2 := hs2.out; have h3 := hs3.out; have h4 := hs4.out; simp at h1 h2 h3 h4; exact ⟨by omega, by omega, by omega, by omega⟩, (by repeat (first | exact Below.refl _ _ | assumption | refine Below.alloc ?_ (by first | omega | (simp <;> omega)) _ | refine Below.setCell ?_ (by first | (show _ ≤ _; omega) | (simp <;> omega)) _ | refine Below.drew ?_ | refine below_drewN ?_ _))⟩
          case measure => simp [intOf]; omega
        · go_wp2_with (go_at_call 38; refine (within_any _ _ _ _).mono ?_; rintro e w' ⟨rfl, rfl⟩)
          go_roundw
          case rel => exact ⟨k + 1, by omega, by go_num, n1, n2, n3, n4 + 1, by omega, by omega, by omega, by omega, by omega, (((HC.out.set0 (n1 + n2 + n3 + n4 + 1)).set4 (n4 + 1)).alloc _).cong (by omega), by have hn := HN.out; have h1 := hs1.out; have h2 := hs2.out; have h3 := hs3.out; have h4 := hs4.out; simp at h1 h2 h3 h4; exact ⟨by omega, by omega, by omega, by omega⟩, (by repeat (first | exact Below.refl _ _ | assumption | refine Below.alloc ?_ (by first | omega | (simp <;> omega)) _ | refine Below.setCell ?_ (by first | (show _ ≤ _; omega) | (simp <;> omega)) _ | refine Below.drew ?_ | refine below_drewN ?_ _))⟩
          case measure => simp [intOf]; omega
      · have hkb : (decide (1 ≤ kd) && decide (kd ≤ 4)) = false := by simp; omega
        have HR := Lib.hid hr
        clear hr
        go_wp2_with (go_at_call 38; refine (within_any _ _ _ _).mono ?_; rintro e w' ⟨rfl, rfl⟩)
        go_roundw
        case rel => exact ⟨k + 1, by omega, by go_num, n1, n2, n3, n4, p1, p2, p3, p4, by omega, HC.out.alloc _, by have hn := HN.out; have h1 := hs1.out; have h2 := hs2.out; have h3 := hs3.out; have h4 := hs4.out; have hr := HR.out; rw [if_neg (by omega)] at h1 h2 h3 h4; exact ⟨by omega, by omega, by omega, by omega⟩, (by repeat (first | exact Below.refl _ _ | assumption | refine Below.alloc ?_ (by first | omega | (simp <;> omega)) _ | refine Below.setCell ?_ (by first | (show _ ≤ _; omega) | (simp <;> omega)) _ | refine Below.drew ?_ | refine below_drewN ?_ _))⟩
        case measure => simp [intOf]; omega
    · go_wp2
      go_ret
      have hn := HN.out
      rw [List.take_of_length_le (by omega)] at hn
      obtain ⟨e1, e2, e3, e4⟩ := hn
      refine ⟨_, rfl, Sl.of_own (E := fInt) (e := 2) (xs := cntF xs) rfl ?_ ?_, hb⟩
      · have ho := hcn.own (base := w.heap.size) (Nat.le_refl _)
        rw [e1, e2, e3, e4] at ho
        exact ho
      · intro x hx'
        show _ ≤ _ ∧ _ ≤ _
        simp only [cntF, ← e1, ← e2, ← e3, ← e4, List.mem_cons, List.not_mem_nil, or_false] at hx'
        rcases hx' with rfl | rfl | rfl | rfl | rfl <;> omega

end Go.Proofs.Ytmkjgehhkmfoiaa
