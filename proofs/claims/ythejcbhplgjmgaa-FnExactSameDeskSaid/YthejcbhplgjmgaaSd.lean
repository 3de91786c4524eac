/- Regions and fields compared. Written by wip/gen/sd.py. -/
import Derived.Test.YthejcbhplgjmgaaTRegion
import Derived.Test.YthejcbhplgjmgaaEqInt64
import Derived.Test.YthejcbhplgjmgaaEqString
import Derived.Test.YthejcbhplgjmgaaAll
namespace Go.Proofs.Ythejcbhplgjmgaa
open Go.RowKit
set_option linter.unusedVariables false

def regEq (x y : DRegion) : Bool := decide (x.level = y.level) && (decide (x.id = y.id) && decide (x.near = y.near))
theorem regEq_eq (x y : DRegion) : regEq x y = decide (x = y) := by
  rw [Bool.eq_iff_iff]
  unfold regEq
  simp only [Bool.and_eq_true, decide_eq_true_eq]
  constructor
  · rintro ⟨h1, h2, h3⟩; cases x; cases y; simp_all
  · rintro rfl; exact ⟨rfl, rfl, rfl⟩
set_option maxRecDepth 100000 in
set_option maxHeartbeats 4000000 in
theorem sameMap_any (x y : DRegion) (v v' : Value) (fp fp' : List Nat) (w : World) (hx : Sl fStr.cod w v x.near fp) (hy : Sl fStr.cod w v' y.near fp') :
    Calls Try.prog 154 #[.agg #[.string x.id, .int .i64 x.level, v], .agg #[.string y.id, .int .i64 y.level, v']] w fun e w' => e = .returned (.bool (decide (x.id = y.id) && decide (x.near = y.near))) ∧ Below w.heap.size w w' := by
  obtain ⟨A, cap, rfl, hlen, hcap⟩ := hx.form
  obtain ⟨A', cap', rfl, hlen', hcap'⟩ := hy.form
  have hB : Below w.heap.size w ((w.alloc (.cells #[.string x.id, .int .i64 x.level, .slice A x.near.length cap] 202)).alloc (.cells #[.string y.id, .int .i64 y.level, .slice A' y.near.length cap'] 202)) := ((Below.refl _ _).alloc (Nat.le_refl _) _).alloc (by simp) _
  have hx2 := hx.below' hB
  have hy2 := hy.below' hB
  by_cases h : x.id = y.id
  · have HV := Lib.hid (show (decide (x.id = y.id) && decide (x.near = y.near)) = decide (x.near = y.near) from by rw [decide_eq_true h]; rfl)
    have e1 : (x.id.toList == y.id.toList) = true := eqS_true.2 h
    clear h
    go_enter Try.func154, Try.ntmps154
    go_wp2_with fail
    refine (sEqualString_any _ _ _ _ _ _ _ hx2 hy2).mono ?_
    rintro e w1 ⟨rfl, hb⟩
    go_wp2
    go_ret
    exact ⟨ret_bool HV.out.symm, hB.trans (hb.mono hB.size)⟩
  · have HV := Lib.hid (show (decide (x.id = y.id) && decide (x.near = y.near)) = false from by rw [decide_eq_false h]; rfl)
    have e1 : (x.id.toList == y.id.toList) = false := bytes_beq_false h
    clear h
    go_enter Try.func154, Try.ntmps154
    go_wp2
    go_ret
    exact ⟨ret_bool HV.out.symm, hB⟩
set_option maxRecDepth 100000 in
set_option maxHeartbeats 4000000 in
theorem sameReg1_any (x y : DRegion) (v v' : Value) (fp fp' : List Nat) (w : World) (hx : Sl fStr.cod w v x.near fp) (hy : Sl fStr.cod w v' y.near fp') :
    Calls Try.prog 153 #[.agg #[.string x.id, .int .i64 x.level, v], .agg #[.string y.id, .int .i64 y.level, v']] w fun e w' => e = .returned (.bool (regEq x y)) ∧ Below w.heap.size w w' := by
  obtain ⟨A, cap, rfl, hlen, hcap⟩ := hx.form
  obtain ⟨A', cap', rfl, hlen', hcap'⟩ := hy.form
  have hB : Below w.heap.size w ((w.alloc (.cells #[.string x.id, .int .i64 x.level, .slice A x.near.length cap] 202)).alloc (.cells #[.string y.id, .int .i64 y.level, .slice A' y.near.length cap'] 202)) := ((Below.refl _ _).alloc (Nat.le_refl _) _).alloc (by simp) _
  have hx2 := hx.below' hB
  have hy2 := hy.below' hB
  by_cases h : x.level = y.level
  · have HV := Lib.hid (show regEq x y = (decide (x.id = y.id) && decide (x.near = y.near)) from by unfold regEq; rw [decide_eq_true h]; rfl)
    have e1 : (x.level == y.level) = true := by rw [beq_iff_eq]; exact h
    clear h
    go_enter Try.func153, Try.ntmps153
    go_wp2_with fail
    refine (sameMap_any x y _ _ _ _ _ hx2 hy2).mono ?_
    rintro e w1 ⟨rfl, hb⟩
    go_wp2
    go_ret
    exact ⟨ret_bool HV.out.symm, hB.trans (hb.mono hB.size)⟩
  · have HV := Lib.hid (show regEq x y = false from by unfold regEq; rw [decide_eq_false h]; rfl)
    have e1 : (x.level == y.level) = false := by rw [beq_eq_false_iff_ne]; exact h
    clear h
    go_enter Try.func153, Try.ntmps153
    go_wp2
    go_ret
    exact ⟨ret_bool HV.out.symm, hB⟩
set_option maxRecDepth 100000 in
set_option maxHeartbeats 4000000 in
theorem eqFuncR_any (v v' : Value) (xs ys : List DRegion) (fp fp' : List Nat) (w : World) (hx : Sl cRegion w v xs fp) (hy : Sl cRegion w v' ys fp') :
    Calls Try.prog 152 #[v, v', .func (.func 153) #[] #[]] w fun e w' => e = .returned (.bool (decide (xs = ys))) ∧ Below w.heap.size w w' := by
  obtain ⟨A, cap, rfl, hlen, hcap⟩ := hx.form
  obtain ⟨A', cap', rfl, hlen', hcap'⟩ := hy.form
  by_cases hl : xs.length = ys.length
  · have HL := Lib.hid hl
    generalize hn : ys.length = n at *
    subst hl
    have HN := Lib.hid hn
    clear hn
    go_enter Try.func152, Try.ntmps152
    go_wp2
    go_loopw [17] (fun i wr => ∃ k : Nat, k ≤ xs.length ∧ i = .int .i64 k ∧ Hid (xs.take k = ys.take k) ∧ Below w.heap.size w wr) (fun i _ => xs.length - (intOf i).toNat)
    case atStart => exact ⟨0, Nat.zero_le _, rfl, rfl, Below.refl _ _⟩
    case round =>
      obtain ⟨k, hk, rfl, HE, hb⟩ := hrel
      by_cases hlt : k < xs.length
      · have hky : k < ys.length := by have := HN.out; omega
        obtain ⟨b, off, vk, fk, rfl, c0, c1, c2, hs0, _⟩ := (hx.below' hb).reg hlt
        obtain ⟨b', off', vk', fk', rfl, d0, d1, d2, hs1, _⟩ := (hy.below' hb).reg hky
        obtain ⟨A1, cap1, rfl, _, _⟩ := hs0.form
        obtain ⟨A2, cap2, rfl, _, _⟩ := hs1.form
        have hB2 : Below wr.heap.size wr ((wr.alloc (.cells #[.string xs[k].id, .int .i64 xs[k].level, .slice A1 xs[k].near.length cap1] 202)).alloc (.cells #[.string ys[k].id, .int .i64 ys[k].level, .slice A2 ys[k].near.length cap2] 202)) := ((Below.refl _ _).alloc (Nat.le_refl _) _).alloc (by simp) _
        have hs02 := hs0.below' hB2
        have hs12 := hs1.below' hB2
        have hbb := hb.trans (hB2.mono hb.size)
        have HS := Lib.hid (fun h => listEq_step hlt hky HE.out h)
        have HBD := Lib.hid (fun h => listEq_bad hlt hky h)
        have HRE := Lib.hid (regEq_eq xs[k] ys[k])
        have hk1 := block_lt_of_cell d0
        have dd0 := ((Below.refl wr.heap.size wr).alloc (Nat.le_refl _) (.cells #[.string xs[k].id, .int .i64 xs[k].level, .slice A1 xs[k].near.length cap1] 202)).cell (p := ⟨b', off' + k * 3, none⟩) hk1 |>.trans d0
        have dd1 := ((Below.refl wr.heap.size wr).alloc (Nat.le_refl _) (.cells #[.string xs[k].id, .int .i64 xs[k].level, .slice A1 xs[k].near.length cap1] 202)).cell (p := ⟨b', off' + k * 3 + 1, none⟩) hk1 |>.trans d1
        have dd2 := ((Below.refl wr.heap.size wr).alloc (Nat.le_refl _) (.cells #[.string xs[k].id, .int .i64 xs[k].level, .slice A1 xs[k].near.length cap1] 202)).cell (p := ⟨b', off' + k * 3 + 2, none⟩) hk1 |>.trans d2
        go_wp2_with fail
        refine (sameReg1_any xs[k] ys[k] _ _ _ _ _ hs02 hs12).mono ?_
        rintro e w2 ⟨rfl, hb2⟩
        have hb3 := hbb.trans (hb2.mono hbb.size)
        rw [HRE.out]
        clear d0 d1 d2 dd0 dd1 dd2 c0 c1 c2 hb2
        by_cases he : xs[k] = ys[k]
        · have HS2 := Lib.hid (HS.out he)
          rw [decide_eq_true he]
          clear he
          go_wp2
          go_roundw
          case rel => exact ⟨k + 1, by omega, by go_num, HS2, hb3⟩
          case measure => simp [intOf]; omega
        · have HB := Lib.hid (HBD.out he)
          rw [decide_eq_false he]
          clear he
          go_wp2
          go_ret
          exact ⟨ret_bool (decide_eq_false HB.out).symm, hb3⟩
      · have he : xs = ys := listEq_full (by omega) (by have := HN.out; omega) HE.out
        have HD := Lib.hid he
        clear he
        go_wp2
        go_ret
        exact ⟨ret_bool (decide_eq_true HD.out).symm, hb⟩
  · have HB : Hid (¬ xs = ys) := fun h => hl (by rw [h])
    have h2 : (((xs.length : Nat) : Int) == ((ys.length : Nat) : Int)) = false := by rw [beq_eq_false_iff_ne]; omega
    go_enter Try.func152, Try.ntmps152
    go_wp2
    go_ret
    exact ⟨ret_bool (decide_eq_false HB.out).symm, Below.refl _ _⟩
set_option maxRecDepth 100000 in
set_option maxHeartbeats 2000000 in
theorem implSameRegions_any (v v' : Value) (xs ys : List DRegion) (fp fp' : List Nat) (w : World) (hx : Sl cRegion w v xs fp) (hy : Sl cRegion w v' ys fp') :
    Calls Try.prog 79 #[v, v'] w fun e w' => e = .returned (.bool (decide (xs = ys))) ∧ Below w.heap.size w w' := by
  go_enter Try.func79, Try.ntmps79
  go_wp2_with fail
  refine (eqFuncR_any _ _ _ _ _ _ _ hx hy).mono ?_
  rintro e w1 ⟨rfl, hb⟩
  go_wp2
  go_ret
  exact ⟨rfl, hb⟩
def fieldEq (r c r' c' : Int) (xs ys : List Int) : Bool := decide (r = r') && (decide (c = c') && decide (xs = ys))
set_option maxRecDepth 100000 in
set_option maxHeartbeats 4000000 in
theorem implSameField_any (r c r' c' : Int) (v v' : Value) (xs ys : List Int) (fp fp' : List Nat) (w : World) (hx : Sl fInt.cod w v xs fp) (hy : Sl fInt.cod w v' ys fp') :
    Calls Try.prog 74 #[.agg #[.int .i64 r, .int .i64 c, v], .agg #[.int .i64 r', .int .i64 c', v']] w fun e w' => e = .returned (.bool (fieldEq r c r' c' xs ys)) ∧ Below w.heap.size w w' := by
  obtain ⟨A, cap, rfl, hlen, hcap⟩ := hx.form
  obtain ⟨A', cap', rfl, hlen', hcap'⟩ := hy.form
  have hB : Below w.heap.size w ((w.alloc (.cells #[.int .i64 r, .int .i64 c, .slice A xs.length cap] 40)).alloc (.cells #[.int .i64 r', .int .i64 c', .slice A' ys.length cap'] 40)) := ((Below.refl _ _).alloc (Nat.le_refl _) _).alloc (by simp) _
  have hx2 := hx.below' hB
  have hy2 := hy.below' hB
  by_cases h1 : r = r'
  · have e1 : (r == r') = true := by rw [beq_iff_eq]; exact h1
    by_cases h2 : c = c'
    · have HV := Lib.hid (show fieldEq r c r' c' xs ys = decide (xs = ys) from by unfold fieldEq; rw [decide_eq_true h1, decide_eq_true h2]; rfl)
      have e2 : (c == c') = true := by rw [beq_iff_eq]; exact h2
      clear h1 h2
      go_enter Try.func74, Try.ntmps74
      go_wp2_with fail
      refine (sEqualInt64_any _ _ _ _ _ _ _ hx2 hy2).mono ?_
      rintro e w1 ⟨rfl, hb⟩
      go_wp2
      go_ret
      exact ⟨ret_bool HV.out.symm, hB.trans (hb.mono hB.size)⟩
    · have HV := Lib.hid (show fieldEq r c r' c' xs ys = false from by unfold fieldEq; rw [decide_eq_true h1, decide_eq_false h2]; rfl)
      have e2 : (c == c') = false := by rw [beq_eq_false_iff_ne]; exact h2
      clear h1 h2
      go_enter Try.func74, Try.ntmps74
      go_wp2
      go_ret
      exact ⟨ret_bool HV.out.symm, hB⟩
  · have HV := Lib.hid (show fieldEq r c r' c' xs ys = false from by unfold fieldEq; rw [decide_eq_false h1]; rfl)
    have e1 : (r == r') = false := by rw [beq_eq_false_iff_ne]; exact h1
    clear h1
    go_enter Try.func74, Try.ntmps74
    go_wp2
    go_ret
    exact ⟨ret_bool HV.out.symm, hB⟩
set_option maxRecDepth 100000 in
set_option maxHeartbeats 4000000 in
theorem specSameField_any (r c r' c' : Int) (v v' : Value) (xs ys : List Int) (fp fp' : List Nat) (w : World) (hx : Sl fInt.cod w v xs fp) (hy : Sl fInt.cod w v' ys fp') :
    Calls Try.prog 59 #[.agg #[.int .i64 r, .int .i64 c, v], .agg #[.int .i64 r', .int .i64 c', v']] w fun e w' => e = .returned (.bool (fieldEq r c r' c' xs ys)) ∧ Below w.heap.size w w' := by
  obtain ⟨A, cap, rfl, hlen, hcap⟩ := hx.form
  obtain ⟨A', cap', rfl, hlen', hcap'⟩ := hy.form
  have hB : Below w.heap.size w ((w.alloc (.cells #[.int .i64 r, .int .i64 c, .slice A xs.length cap] 40)).alloc (.cells #[.int .i64 r', .int .i64 c', .slice A' ys.length cap'] 40)) := ((Below.refl _ _).alloc (Nat.le_refl _) _).alloc (by simp) _
  have hx2 := hx.below' hB
  have hy2 := hy.below' hB
  by_cases h1 : r = r'
  · have e1 : (r == r') = true := by rw [beq_iff_eq]; exact h1
    by_cases h2 : c = c'
    · have HV := Lib.hid (show fieldEq r c r' c' xs ys = decide (xs = ys) from by unfold fieldEq; rw [decide_eq_true h1, decide_eq_true h2]; rfl)
      have e2 : (c == c') = true := by rw [beq_iff_eq]; exact h2
      clear h1 h2
      go_enter Try.func59, Try.ntmps59
      go_wp2_with fail
      refine (l00Same_any _ _ _ _ _ _ _ hx2 hy2).mono ?_
      rintro e w1 ⟨rfl, hb⟩
      go_wp2
      go_ret
      exact ⟨ret_bool HV.out.symm, hB.trans (hb.mono hB.size)⟩
    · have HV := Lib.hid (show fieldEq r c r' c' xs ys = false from by unfold fieldEq; rw [decide_eq_true h1, decide_eq_false h2]; rfl)
      have e2 : (c == c') = false := by rw [beq_eq_false_iff_ne]; exact h2
      clear h1 h2
      go_enter Try.func59, Try.ntmps59
      go_wp2
      go_ret
      exact ⟨ret_bool HV.out.symm, hB⟩
  · have HV := Lib.hid (show fieldEq r c r' c' xs ys = false from by unfold fieldEq; rw [decide_eq_false h1]; rfl)
    have e1 : (r == r') = false := by rw [beq_eq_false_iff_ne]; exact h1
    clear h1
    go_enter Try.func59, Try.ntmps59
    go_wp2
    go_ret
    exact ⟨ret_bool HV.out.symm, hB⟩

end Go.Proofs.Ythejcbhplgjmgaa
