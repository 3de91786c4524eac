
/- Grids, masses and layers: contracts. Written by wip/gen/ua.py. -/
import Derived.Test.YtpebibegdeioeaaUv
import Derived.Test.YtpebibegdeioeaaSeg
import Derived.Test.YtpebibegdeioeaaPLayer
import Derived.Test.YtpebibegdeioeaaGr
namespace Go.Proofs.Ytpebibegdeioeaa
open Go.RowKit
set_option linter.unusedVariables false

/-- A grid behind a pointer. -/
structure PGrid (w : World) (pb po : Nat) (v : Value) (g : DGrid) : Prop where
  c0 : w.cell? ⟨pb, po, none⟩ = some (.int .i64 g.rows)
  c1 : w.cell? ⟨pb, po + 1, none⟩ = some (.int .i64 g.columns)
  c2 : w.cell? ⟨pb, po + 2, none⟩ = some (.int .i64 g.size)
  c3 : w.cell? ⟨pb, po + 3, none⟩ = some v
theorem PGrid.lt {w : World} {pb po : Nat} {v : Value} {g : DGrid} (h : PGrid w pb po v g) : pb < w.heap.size := block_lt_of_cell h.c0
theorem PGrid.below' {w w' : World} {pb po : Nat} {v : Value} {g : DGrid} (h : PGrid w pb po v g) (hb : Below w.heap.size w w') : PGrid w' pb po v g :=
  ⟨(hb.cell (p := ⟨pb, _, none⟩) h.lt).trans h.c0, (hb.cell (p := ⟨pb, _, none⟩) h.lt).trans h.c1, (hb.cell (p := ⟨pb, _, none⟩) h.lt).trans h.c2, (hb.cell (p := ⟨pb, _, none⟩) h.lt).trans h.c3⟩
theorem gbox_new (w : World) (g : DGrid) (v : Value) (T : TypeId) : PGrid (w.alloc (.cells #[.int .i64 g.rows, .int .i64 g.columns, .int .i64 g.size, v] T)) w.heap.size 0 v g := by
  constructor <;> simp
theorem mul8 {r c : Int} (h1 : inB r 1 8 = true) (h2 : inB c 1 8 = true) : 1 ≤ r * c ∧ r * c ≤ 64 := by
  have a := inB_true.1 h1
  have b := inB_true.1 h2
  have h3 := mulB (show 0 ≤ r ∧ r ≤ 8 by omega) (show 0 ≤ c ∧ c ≤ 8 by omega)
  have h4 : 1 * 1 ≤ r * c := Int.le_trans (Int.mul_le_mul_of_nonneg_right a.1 (by omega)) (Int.mul_le_mul_of_nonneg_left b.1 (by omega))
  omega
/-- The four first conditions of a grid. -/
def g4B (g : DGrid) : Bool := inB g.rows 1 8 && inB g.columns 1 8 && inB g.size 1 100 && decide ((g.he.length : Int) = g.rows * g.columns)
theorem gridB_g4 (g : DGrid) : gridB g = (g4B g && allG g.he 0 5000) := rfl
def heOk (g : DGrid) (i : Nat) : Bool := inB (g.he.getD i 0) 0 5000
theorem allG_he (g : DGrid) : allG g.he 0 5000 = allIdx (heOk g) g.he.length := allG_idx _ _ _
theorem slNilU {α : Type} (E : Cod α) (w : World) : Sl E w (.slice none 0 0) ([] : List α) [] := ⟨none, 0, rfl, by simp, by simp [maxLen], .inl ⟨rfl, rfl⟩⟩
theorem decB (a b : Int) : decide (a = b) = (a == b) := by by_cases h : a = b <;> simp [h]
theorem getD_int {xs : List Int} {k : Nat} (h : k < xs.length) : xs.getD k 0 = xs[k] := by rw [List.getD_eq_getElem?_getD, List.getElem?_eq_getElem h]; rfl
set_option maxRecDepth 100000 in
set_option maxHeartbeats 4000000 in
theorem l09Ok_any (g : DGrid) (pb po : Nat) (v : Value) (fp : List Nat) (w : World) (hp : PGrid w pb po v g) (hs : Sl fInt.cod w v g.he fp) :
    Calls Try.prog 57 #[.pointer (some ⟨pb, po, none⟩)] w fun e w' => e = .returned (.bool (gridB g)) ∧ Below w.heap.size w w' := by
  obtain ⟨A, cap, rfl, hlen, hcap⟩ := hs.form
  obtain ⟨c0, c1, c2, c3⟩ := id hp
  go_enter Try.func57, Try.ntmps57
  go_wp2
  have gc0 := cell_regrown c0
  have gc1 := cell_regrown c1
  have gc2 := cell_regrown c2
  have gc3 := cell_regrown c3
  refine wp_region_mix (C := fun w' => ∃ p : Regrown, w' = Go.Sort.grow (redrawn w p.d) p.os) [true, true, true, true, false, true, true, true, true, true, true, false, true, true, true, true, true, true, true, false, true, true, true, true, true, true, true, true, true, true, true, true, true, true, true, true, true, true, true] (by kernel_rfl) (by kernel_rfl) (by kernel_rfl) (fun _ _ d _ _ h => by cases d <;> exact h) (regrown_of_below (Below.drew (Below.refl _ _))) ?_
  have hS0 : Below (w.heap.size) w w.drew := Below.drew (Below.refl _ _)
  refine wpMix_pure (by kernel_rfl) (fun K hK => ?_)
  go_big_quiet_op
  refine hK _ ?_; clear hK K
  refine wpMix_pure (by kernel_rfl) (fun K hK => ?_)
  go_big_quiet_op
  refine hK _ ?_; clear hK K
  refine wpMix_pure (by kernel_rfl) (fun K hK => ?_)
  go_big_quiet_op
  refine hK _ ?_; clear hK K
  refine wpMix_pure (by kernel_rfl) (fun K hK => ?_)
  go_big_quiet_op
  refine hK _ ?_; clear hK K
  refine wpMix_act (by kernel_rfl) (fun K hK => ?_)
  go_big_op
  refine (l00InB_any _ _ _ _).mono ?_
  rintro e w' ⟨rfl, rfl⟩
  refine hK _ _ (regrown_of_below hS0) ?_
  clear hK K
  cases hq4 : inB g.rows 1 8
  · skip
    refine wpMix_pure (by kernel_rfl) (fun K hK => ?_)
    go_big_quiet_op
    refine hK _ ?_; clear hK K
    refine wpMix_pure (by kernel_rfl) (fun K hK => ?_)
    go_big_quiet_op
    refine hK _ ?_; clear hK K
    refine wpMix_skip (by kernel_rfl) (fun K hK => ?_)
    simp only [Act.put, List.setIfInBounds_toArray, List.set_cons_zero, List.set_cons_succ]
    refine hK _ ?_; clear hK K
    refine wpMix_skip (by kernel_rfl) (fun K hK => ?_)
    simp only [Act.put, List.setIfInBounds_toArray, List.set_cons_zero, List.set_cons_succ]
    refine hK _ ?_; clear hK K
    refine wpMix_skip (by kernel_rfl) (fun K hK => ?_)
    simp only [Act.put, List.setIfInBounds_toArray, List.set_cons_zero, List.set_cons_succ]
    refine hK _ ?_; clear hK K
    refine wpMix_skip (by kernel_rfl) (fun K hK => ?_)
    simp only [Act.put, List.setIfInBounds_toArray, List.set_cons_zero, List.set_cons_succ]
    refine hK _ ?_; clear hK K
    refine wpMix_skip (by kernel_rfl) (fun K hK => ?_)
    simp only [Act.put, List.setIfInBounds_toArray, List.set_cons_zero, List.set_cons_succ]
    refine hK _ ?_; clear hK K
    refine wpMix_skip (by kernel_rfl) (fun K hK => ?_)
    simp only [Act.put, List.setIfInBounds_toArray, List.set_cons_zero, List.set_cons_succ]
    refine hK _ ?_; clear hK K
    refine wpMix_pure (by kernel_rfl) (fun K hK => ?_)
    go_big_quiet_op
    refine hK _ ?_; clear hK K
    refine wpMix_pure (by kernel_rfl) (fun K hK => ?_)
    go_big_quiet_op
    refine hK _ ?_; clear hK K
    refine wpMix_skip (by kernel_rfl) (fun K hK => ?_)
    simp only [Act.put, List.setIfInBounds_toArray, List.set_cons_zero, List.set_cons_succ]
    refine hK _ ?_; clear hK K
    refine wpMix_skip (by kernel_rfl) (fun K hK => ?_)
    simp only [Act.put, List.setIfInBounds_toArray, List.set_cons_zero, List.set_cons_succ]
    refine hK _ ?_; clear hK K
    refine wpMix_skip (by kernel_rfl) (fun K hK => ?_)
    simp only [Act.put, List.setIfInBounds_toArray, List.set_cons_zero, List.set_cons_succ]
    refine hK _ ?_; clear hK K
    refine wpMix_skip (by kernel_rfl) (fun K hK => ?_)
    simp only [Act.put, List.setIfInBounds_toArray, List.set_cons_zero, List.set_cons_succ]
    refine hK _ ?_; clear hK K
    refine wpMix_skip (by kernel_rfl) (fun K hK => ?_)
    simp only [Act.put, List.setIfInBounds_toArray, List.set_cons_zero, List.set_cons_succ]
    refine hK _ ?_; clear hK K
    refine wpMix_skip (by kernel_rfl) (fun K hK => ?_)
    simp only [Act.put, List.setIfInBounds_toArray, List.set_cons_zero, List.set_cons_succ]
    refine hK _ ?_; clear hK K
    refine wpMix_pure (by kernel_rfl) (fun K hK => ?_)
    go_big_quiet_op
    refine hK _ ?_; clear hK K
    refine wpMix_pure (by kernel_rfl) (fun K hK => ?_)
    go_big_quiet_op
    refine hK _ ?_; clear hK K
    refine wpMix_skip (by kernel_rfl) (fun K hK => ?_)
    simp only [Act.put, List.setIfInBounds_toArray, List.set_cons_zero, List.set_cons_succ]
    refine hK _ ?_; clear hK K
    refine wpMix_skip (by kernel_rfl) (fun K hK => ?_)
    simp only [Act.put, List.setIfInBounds_toArray, List.set_cons_zero, List.set_cons_succ]
    refine hK _ ?_; clear hK K
    refine wpMix_skip (by kernel_rfl) (fun K hK => ?_)
    simp only [Act.put, List.setIfInBounds_toArray, List.set_cons_zero, List.set_cons_succ]
    refine hK _ ?_; clear hK K
    refine wpMix_skip (by kernel_rfl) (fun K hK => ?_)
    simp only [Act.put, List.setIfInBounds_toArray, List.set_cons_zero, List.set_cons_succ]
    refine hK _ ?_; clear hK K
    refine wpMix_skip (by kernel_rfl) (fun K hK => ?_)
    simp only [Act.put, List.setIfInBounds_toArray, List.set_cons_zero, List.set_cons_succ]
    refine hK _ ?_; clear hK K
    refine wpMix_skip (by kernel_rfl) (fun K hK => ?_)
    simp only [Act.put, List.setIfInBounds_toArray, List.set_cons_zero, List.set_cons_succ]
    refine hK _ ?_; clear hK K
    refine wpMix_skip (by kernel_rfl) (fun K hK => ?_)
    simp only [Act.put, List.setIfInBounds_toArray, List.set_cons_zero, List.set_cons_succ]
    refine hK _ ?_; clear hK K
    refine wpMix_skip (by kernel_rfl) (fun K hK => ?_)
    simp only [Act.put, List.setIfInBounds_toArray, List.set_cons_zero, List.set_cons_succ]
    refine hK _ ?_; clear hK K
    refine wpMix_skip (by kernel_rfl) (fun K hK => ?_)
    simp only [Act.put, List.setIfInBounds_toArray, List.set_cons_zero, List.set_cons_succ]
    refine hK _ ?_; clear hK K
    refine wpMix_skip (by kernel_rfl) (fun K hK => ?_)
    simp only [Act.put, List.setIfInBounds_toArray, List.set_cons_zero, List.set_cons_succ]
    refine hK _ ?_; clear hK K
    refine wpMix_skip (by kernel_rfl) (fun K hK => ?_)
    simp only [Act.put, List.setIfInBounds_toArray, List.set_cons_zero, List.set_cons_succ]
    refine hK _ ?_; clear hK K
    refine wpMix_skip (by kernel_rfl) (fun K hK => ?_)
    simp only [Act.put, List.setIfInBounds_toArray, List.set_cons_zero, List.set_cons_succ]
    refine hK _ ?_; clear hK K
    refine wpMix_skip (by kernel_rfl) (fun K hK => ?_)
    simp only [Act.put, List.setIfInBounds_toArray, List.set_cons_zero, List.set_cons_succ]
    refine hK _ ?_; clear hK K
    refine wpMix_skip (by kernel_rfl) (fun K hK => ?_)
    simp only [Act.put, List.setIfInBounds_toArray, List.set_cons_zero, List.set_cons_succ]
    refine hK _ ?_; clear hK K
    refine wpMix_skip (by kernel_rfl) (fun K hK => ?_)
    simp only [Act.put, List.setIfInBounds_toArray, List.set_cons_zero, List.set_cons_succ]
    refine hK _ ?_; clear hK K
    refine wpMix_pure (by kernel_rfl) (fun K hK => ?_)
    go_big_quiet_op
    refine hK _ ?_; clear hK K
    refine wpMix_nil ?_
    go_wp2
    go_ret
    exact ⟨ret_bool (by rw [gridB_g4]; simp [g4B, *]), hS0⟩
  · skip
    refine wpMix_pure (by kernel_rfl) (fun K hK => ?_)
    go_big_quiet_op
    refine hK _ ?_; clear hK K
    refine wpMix_pure (by kernel_rfl) (fun K hK => ?_)
    go_big_quiet_op
    refine hK _ ?_; clear hK K
    refine wpMix_pure (by kernel_rfl) (fun K hK => ?_)
    go_big_quiet_op
    refine hK _ ?_; clear hK K
    refine wpMix_pure (by kernel_rfl) (fun K hK => ?_)
    go_big_quiet_op
    refine hK _ ?_; clear hK K
    refine wpMix_pure (by kernel_rfl) (fun K hK => ?_)
    go_big_quiet_op
    refine hK _ ?_; clear hK K
    refine wpMix_pure (by kernel_rfl) (fun K hK => ?_)
    go_big_quiet_op
    refine hK _ ?_; clear hK K
    refine wpMix_act (by kernel_rfl) (fun K hK => ?_)
    go_big_op
    refine (l00InB_any _ _ _ _).mono ?_
    rintro e w' ⟨rfl, rfl⟩
    refine hK _ _ (regrown_of_below hS0) ?_
    clear hK K
    cases hq11 : inB g.columns 1 8
    · skip
      refine wpMix_pure (by kernel_rfl) (fun K hK => ?_)
      go_big_quiet_op
      refine hK _ ?_; clear hK K
      refine wpMix_pure (by kernel_rfl) (fun K hK => ?_)
      go_big_quiet_op
      refine hK _ ?_; clear hK K
      refine wpMix_pure (by kernel_rfl) (fun K hK => ?_)
      go_big_quiet_op
      refine hK _ ?_; clear hK K
      refine wpMix_skip (by kernel_rfl) (fun K hK => ?_)
      simp only [Act.put, List.setIfInBounds_toArray, List.set_cons_zero, List.set_cons_succ]
      refine hK _ ?_; clear hK K
      refine wpMix_skip (by kernel_rfl) (fun K hK => ?_)
      simp only [Act.put, List.setIfInBounds_toArray, List.set_cons_zero, List.set_cons_succ]
      refine hK _ ?_; clear hK K
      refine wpMix_skip (by kernel_rfl) (fun K hK => ?_)
      simp only [Act.put, List.setIfInBounds_toArray, List.set_cons_zero, List.set_cons_succ]
      refine hK _ ?_; clear hK K
      refine wpMix_skip (by kernel_rfl) (fun K hK => ?_)
      simp only [Act.put, List.setIfInBounds_toArray, List.set_cons_zero, List.set_cons_succ]
      refine hK _ ?_; clear hK K
      refine wpMix_skip (by kernel_rfl) (fun K hK => ?_)
      simp only [Act.put, List.setIfInBounds_toArray, List.set_cons_zero, List.set_cons_succ]
      refine hK _ ?_; clear hK K
      refine wpMix_skip (by kernel_rfl) (fun K hK => ?_)
      simp only [Act.put, List.setIfInBounds_toArray, List.set_cons_zero, List.set_cons_succ]
      refine hK _ ?_; clear hK K
      refine wpMix_pure (by kernel_rfl) (fun K hK => ?_)
      go_big_quiet_op
      refine hK _ ?_; clear hK K
      refine wpMix_pure (by kernel_rfl) (fun K hK => ?_)
      go_big_quiet_op
      refine hK _ ?_; clear hK K
      refine wpMix_skip (by kernel_rfl) (fun K hK => ?_)
      simp only [Act.put, List.setIfInBounds_toArray, List.set_cons_zero, List.set_cons_succ]
      refine hK _ ?_; clear hK K
      refine wpMix_skip (by kernel_rfl) (fun K hK => ?_)
      simp only [Act.put, List.setIfInBounds_toArray, List.set_cons_zero, List.set_cons_succ]
      refine hK _ ?_; clear hK K
      refine wpMix_skip (by kernel_rfl) (fun K hK => ?_)
      simp only [Act.put, List.setIfInBounds_toArray, List.set_cons_zero, List.set_cons_succ]
      refine hK _ ?_; clear hK K
      refine wpMix_skip (by kernel_rfl) (fun K hK => ?_)
      simp only [Act.put, List.setIfInBounds_toArray, List.set_cons_zero, List.set_cons_succ]
      refine hK _ ?_; clear hK K
      refine wpMix_skip (by kernel_rfl) (fun K hK => ?_)
      simp only [Act.put, List.setIfInBounds_toArray, List.set_cons_zero, List.set_cons_succ]
      refine hK _ ?_; clear hK K
      refine wpMix_skip (by kernel_rfl) (fun K hK => ?_)
      simp only [Act.put, List.setIfInBounds_toArray, List.set_cons_zero, List.set_cons_succ]
      refine hK _ ?_; clear hK K
      refine wpMix_skip (by kernel_rfl) (fun K hK => ?_)
      simp only [Act.put, List.setIfInBounds_toArray, List.set_cons_zero, List.set_cons_succ]
      refine hK _ ?_; clear hK K
      refine wpMix_skip (by kernel_rfl) (fun K hK => ?_)
      simp only [Act.put, List.setIfInBounds_toArray, List.set_cons_zero, List.set_cons_succ]
      refine hK _ ?_; clear hK K
      refine wpMix_skip (by kernel_rfl) (fun K hK => ?_)
      simp only [Act.put, List.setIfInBounds_toArray, List.set_cons_zero, List.set_cons_succ]
      refine hK _ ?_; clear hK K
      refine wpMix_skip (by kernel_rfl) (fun K hK => ?_)
      simp only [Act.put, List.setIfInBounds_toArray, List.set_cons_zero, List.set_cons_succ]
      refine hK _ ?_; clear hK K
      refine wpMix_skip (by kernel_rfl) (fun K hK => ?_)
      simp only [Act.put, List.setIfInBounds_toArray, List.set_cons_zero, List.set_cons_succ]
      refine hK _ ?_; clear hK K
      refine wpMix_skip (by kernel_rfl) (fun K hK => ?_)
      simp only [Act.put, List.setIfInBounds_toArray, List.set_cons_zero, List.set_cons_succ]
      refine hK _ ?_; clear hK K
      refine wpMix_skip (by kernel_rfl) (fun K hK => ?_)
      simp only [Act.put, List.setIfInBounds_toArray, List.set_cons_zero, List.set_cons_succ]
      refine hK _ ?_; clear hK K
      refine wpMix_skip (by kernel_rfl) (fun K hK => ?_)
      simp only [Act.put, List.setIfInBounds_toArray, List.set_cons_zero, List.set_cons_succ]
      refine hK _ ?_; clear hK K
      refine wpMix_skip (by kernel_rfl) (fun K hK => ?_)
      simp only [Act.put, List.setIfInBounds_toArray, List.set_cons_zero, List.set_cons_succ]
      refine hK _ ?_; clear hK K
      refine wpMix_pure (by kernel_rfl) (fun K hK => ?_)
      go_big_quiet_op
      refine hK _ ?_; clear hK K
      refine wpMix_nil ?_
      go_wp2
      go_ret
      exact ⟨ret_bool (by rw [gridB_g4]; simp [g4B, *]), hS0⟩
    · skip
      refine wpMix_pure (by kernel_rfl) (fun K hK => ?_)
      go_big_quiet_op
      refine hK _ ?_; clear hK K
      refine wpMix_pure (by kernel_rfl) (fun K hK => ?_)
      go_big_quiet_op
      refine hK _ ?_; clear hK K
      refine wpMix_pure (by kernel_rfl) (fun K hK => ?_)
      go_big_quiet_op
      refine hK _ ?_; clear hK K
      refine wpMix_pure (by kernel_rfl) (fun K hK => ?_)
      go_big_quiet_op
      refine hK _ ?_; clear hK K
      refine wpMix_pure (by kernel_rfl) (fun K hK => ?_)
      go_big_quiet_op
      refine hK _ ?_; clear hK K
      refine wpMix_pure (by kernel_rfl) (fun K hK => ?_)
      go_big_quiet_op
      refine hK _ ?_; clear hK K
      refine wpMix_pure (by kernel_rfl) (fun K hK => ?_)
      go_big_quiet_op
      refine hK _ ?_; clear hK K
      refine wpMix_act (by kernel_rfl) (fun K hK => ?_)
      go_big_op
      refine (l00InB_any _ _ _ _).mono ?_
      rintro e w' ⟨rfl, rfl⟩
      refine hK _ _ (regrown_of_below hS0) ?_
      clear hK K
      cases hq19 : inB g.size 1 100
      · skip
        refine wpMix_pure (by kernel_rfl) (fun K hK => ?_)
        go_big_quiet_op
        refine hK _ ?_; clear hK K
        refine wpMix_pure (by kernel_rfl) (fun K hK => ?_)
        go_big_quiet_op
        refine hK _ ?_; clear hK K
        refine wpMix_pure (by kernel_rfl) (fun K hK => ?_)
        go_big_quiet_op
        refine hK _ ?_; clear hK K
        refine wpMix_skip (by kernel_rfl) (fun K hK => ?_)
        simp only [Act.put, List.setIfInBounds_toArray, List.set_cons_zero, List.set_cons_succ]
        refine hK _ ?_; clear hK K
        refine wpMix_skip (by kernel_rfl) (fun K hK => ?_)
        simp only [Act.put, List.setIfInBounds_toArray, List.set_cons_zero, List.set_cons_succ]
        refine hK _ ?_; clear hK K
        refine wpMix_skip (by kernel_rfl) (fun K hK => ?_)
        simp only [Act.put, List.setIfInBounds_toArray, List.set_cons_zero, List.set_cons_succ]
        refine hK _ ?_; clear hK K
        refine wpMix_skip (by kernel_rfl) (fun K hK => ?_)
        simp only [Act.put, List.setIfInBounds_toArray, List.set_cons_zero, List.set_cons_succ]
        refine hK _ ?_; clear hK K
        refine wpMix_skip (by kernel_rfl) (fun K hK => ?_)
        simp only [Act.put, List.setIfInBounds_toArray, List.set_cons_zero, List.set_cons_succ]
        refine hK _ ?_; clear hK K
        refine wpMix_skip (by kernel_rfl) (fun K hK => ?_)
        simp only [Act.put, List.setIfInBounds_toArray, List.set_cons_zero, List.set_cons_succ]
        refine hK _ ?_; clear hK K
        refine wpMix_skip (by kernel_rfl) (fun K hK => ?_)
        simp only [Act.put, List.setIfInBounds_toArray, List.set_cons_zero, List.set_cons_succ]
        refine hK _ ?_; clear hK K
        refine wpMix_skip (by kernel_rfl) (fun K hK => ?_)
        simp only [Act.put, List.setIfInBounds_toArray, List.set_cons_zero, List.set_cons_succ]
        refine hK _ ?_; clear hK K
        refine wpMix_skip (by kernel_rfl) (fun K hK => ?_)
        simp only [Act.put, List.setIfInBounds_toArray, List.set_cons_zero, List.set_cons_succ]
        refine hK _ ?_; clear hK K
        refine wpMix_skip (by kernel_rfl) (fun K hK => ?_)
        simp only [Act.put, List.setIfInBounds_toArray, List.set_cons_zero, List.set_cons_succ]
        refine hK _ ?_; clear hK K
        refine wpMix_skip (by kernel_rfl) (fun K hK => ?_)
        simp only [Act.put, List.setIfInBounds_toArray, List.set_cons_zero, List.set_cons_succ]
        refine hK _ ?_; clear hK K
        refine wpMix_skip (by kernel_rfl) (fun K hK => ?_)
        simp only [Act.put, List.setIfInBounds_toArray, List.set_cons_zero, List.set_cons_succ]
        refine hK _ ?_; clear hK K
        refine wpMix_skip (by kernel_rfl) (fun K hK => ?_)
        simp only [Act.put, List.setIfInBounds_toArray, List.set_cons_zero, List.set_cons_succ]
        refine hK _ ?_; clear hK K
        refine wpMix_skip (by kernel_rfl) (fun K hK => ?_)
        simp only [Act.put, List.setIfInBounds_toArray, List.set_cons_zero, List.set_cons_succ]
        refine hK _ ?_; clear hK K
        refine wpMix_skip (by kernel_rfl) (fun K hK => ?_)
        simp only [Act.put, List.setIfInBounds_toArray, List.set_cons_zero, List.set_cons_succ]
        refine hK _ ?_; clear hK K
        refine wpMix_pure (by kernel_rfl) (fun K hK => ?_)
        go_big_quiet_op
        refine hK _ ?_; clear hK K
        refine wpMix_nil ?_
        go_wp2
        go_ret
        exact ⟨ret_bool (by rw [gridB_g4]; simp [g4B, *]), hS0⟩
      · skip
        have hmul := mul8 hq4 hq11
        refine wpMix_pure (by kernel_rfl) (fun K hK => ?_)
        go_big_quiet_op
        refine hK _ ?_; clear hK K
        refine wpMix_pure (by kernel_rfl) (fun K hK => ?_)
        go_big_quiet_op
        refine hK _ ?_; clear hK K
        refine wpMix_pure (by kernel_rfl) (fun K hK => ?_)
        go_big_quiet_op
        refine hK _ ?_; clear hK K
        refine wpMix_pure (by kernel_rfl) (fun K hK => ?_)
        go_big_quiet_op
        refine hK _ ?_; clear hK K
        refine wpMix_pure (by kernel_rfl) (fun K hK => ?_)
        go_big_quiet_op
        refine hK _ ?_; clear hK K
        refine wpMix_pure (by kernel_rfl) (fun K hK => ?_)
        go_big_quiet_op
        refine hK _ ?_; clear hK K
        refine wpMix_pure (by kernel_rfl) (fun K hK => ?_)
        go_big_quiet_op
        refine hK _ ?_; clear hK K
        refine wpMix_pure (by kernel_rfl) (fun K hK => ?_)
        go_big_quiet_op
        refine hK _ ?_; clear hK K
        refine wpMix_pure (by kernel_rfl) (fun K hK => ?_)
        go_big_quiet_op
        refine hK _ ?_; clear hK K
        refine wpMix_pure (by kernel_rfl) (fun K hK => ?_)
        go_big_quiet_op
        refine hK _ ?_; clear hK K
        refine wpMix_pure (by kernel_rfl) (fun K hK => ?_)
        go_big_quiet_op
        refine hK _ ?_; clear hK K
        refine wpMix_pure (by kernel_rfl) (fun K hK => ?_)
        go_big_quiet_op
        refine hK _ ?_; clear hK K
        refine wpMix_pure (by kernel_rfl) (fun K hK => ?_)
        go_big_quiet_op
        refine hK _ ?_; clear hK K
        refine wpMix_pure (by kernel_rfl) (fun K hK => ?_)
        go_big_quiet_op
        refine hK _ ?_; clear hK K
        refine wpMix_pure (by kernel_rfl) (fun K hK => ?_)
        go_big_quiet_op
        refine hK _ ?_; clear hK K
        refine wpMix_pure (by kernel_rfl) (fun K hK => ?_)
        go_big_quiet_op
        refine hK _ ?_; clear hK K
        refine wpMix_pure (by kernel_rfl) (fun K hK => ?_)
        go_big_quiet_op
        refine hK _ ?_; clear hK K
        by_cases hq37 : (g.he.length : Int) = g.rows * g.columns
        · skip
          have q0 : ((g.he.length : Int) != g.rows * g.columns) = false := by simp [hq37]
          refine wpMix_pure (by kernel_rfl) (fun K hK => ?_)
          go_big_quiet_op
          refine hK _ ?_; clear hK K
          refine wpMix_pure (by kernel_rfl) (fun K hK => ?_)
          go_big_quiet_op
          refine hK _ ?_; clear hK K
          refine wpMix_nil ?_
          have HG : Hid (g4B g = true) := by show _ = _; simp [g4B, *]
          have hp1 := hp.below' hS0
          have hs1 := hs.below' hS0
          have hB1 := hS0
          generalize w.drew = w1 at *
          clear hq4 hq11 hq19 hq37 q0 c0 c1 c2 c3 gc0 gc1 gc2 gc3
          go_wp2
          go_loopw [3] (fun i wr => ∃ k : Nat, k ≤ g.he.length ∧ i = .int .i64 k ∧ Hid (allIdx (heOk g) k = true) ∧ Below w1.heap.size w1 wr) (fun i _ => g.he.length - (intOf i).toNat)
          case atStart => exact ⟨0, Nat.zero_le _, rfl, rfl, Below.refl _ _⟩
          case round =>
            obtain ⟨k, hk, rfl, H0, hb⟩ := hrel
            have hpk := hp1.below' hb
            have d3 := hpk.c3
            by_cases hlt : k < g.he.length
            · obtain ⟨b, off, rfl, _, _, d0, _⟩ := (hs1.below' hb).cell1 rfl (k := k) hlt rfl
              have hgk : g.he.getD k 0 = g.he[k] := getD_int hlt
              cases hq : inB g.he[k] 0 5000
              · have HX : Hid (gridB g = false) := by show _ = _; rw [gridB_g4, HG.out, allG_he, allIdx_bad hlt (by unfold heOk; rw [hgk]; exact hq)]; rfl
                go_wp2_with (go_at_call 58; refine (l00InB_any _ _ _ _).mono ?_; rintro e w' ⟨rfl, rfl⟩)
                go_ret
                exact ⟨ret_bool HX.out.symm, hB1.trans (hb.mono hB1.size)⟩
              · have HN : Hid (allIdx (heOk g) (k + 1) = true) := allIdx_step H0.out (by unfold heOk; rw [hgk]; exact hq)
                clear hgk
                go_wp2_with (go_at_call 58; refine (l00InB_any _ _ _ _).mono ?_; rintro e w' ⟨rfl, rfl⟩)
                go_roundw
                case rel => exact ⟨k + 1, by omega, by go_num, HN, hb⟩
                case measure => simp [intOf]; omega
            · have HX : Hid (gridB g = true) := by show _ = _; rw [gridB_g4, HG.out, allG_he, show g.he.length = k by omega]; exact H0.out
              go_wp2
              go_ret
              exact ⟨ret_bool HX.out.symm, hB1.trans (hb.mono hB1.size)⟩
        · skip
          have q0 : ((g.he.length : Int) != g.rows * g.columns) = true := by simp [hq37]
          refine wpMix_pure (by kernel_rfl) (fun K hK => ?_)
          go_big_quiet_op
          refine hK _ ?_; clear hK K
          refine wpMix_pure (by kernel_rfl) (fun K hK => ?_)
          go_big_quiet_op
          refine hK _ ?_; clear hK K
          refine wpMix_nil ?_
          go_wp2
          go_ret
          exact ⟨ret_bool (by rw [gridB_g4]; simp [g4B, *]), hS0⟩
def msOk (ms : List Int) (i : Nat) : Bool := inB (ms.getD i 0) 0 1000000
set_option maxRecDepth 100000 in
set_option maxHeartbeats 4000000 in
theorem l13Masses_any (g : DGrid) (pb po : Nat) (v vm : Value) (ms : List Int) (fp : List Nat) (w : World) (hp : PGrid w pb po v g) (hm : Sl fInt.cod w vm ms fp) (hg : gridB g = true) :
    Calls Try.prog 59 #[.pointer (some ⟨pb, po, none⟩), vm] w fun e w' => e = .returned (.bool (massB g ms)) ∧ Below w.heap.size w w' := by
  obtain ⟨A, cap, rfl, hlen, hcap⟩ := hm.form
  have hG := gridP_of hg
  have hmul : 0 ≤ g.rows * g.columns ∧ g.rows * g.columns ≤ 64 := by have := hG.len; have := hG.l; omega
  clear hG hg
  go_enter Try.func59, Try.ntmps59
  go_wp2
  go_loopw [5] (fun i wr => ∃ k : Nat, k ≤ ms.length ∧ i = .int .i64 k ∧ Hid (allIdx (msOk ms) k = true) ∧ Below w.heap.size w wr) (fun i _ => ms.length - (intOf i).toNat)
  case atStart => exact ⟨0, Nat.zero_le _, rfl, rfl, Below.refl _ _⟩
  case round =>
    obtain ⟨k, hk, rfl, H0, hb⟩ := hrel
    by_cases hlt : k < ms.length
    · obtain ⟨b, off, rfl, _, _, d0, _⟩ := (hm.below' hb).cell1 rfl (k := k) hlt rfl
      have hgk : ms.getD k 0 = ms[k] := getD_int hlt
      cases hq : inB ms[k] 0 1000000
      · have HX : Hid (massB g ms = false) := by show _ = _; unfold massB; rw [allG_idx, allIdx_bad hlt (by show inB (ms.getD k 0) 0 1000000 = false; rw [hgk]; exact hq)]; rfl
        go_wp2_with (go_at_call 58; refine (l00InB_any _ _ _ _).mono ?_; rintro e w' ⟨rfl, rfl⟩)
        go_ret
        exact ⟨ret_bool HX.out.symm, hb⟩
      · have HN : Hid (allIdx (msOk ms) (k + 1) = true) := allIdx_step H0.out (by unfold msOk; rw [hgk]; exact hq)
        clear hgk
        go_wp2_with (go_at_call 58; refine (l00InB_any _ _ _ _).mono ?_; rintro e w' ⟨rfl, rfl⟩)
        go_roundw
        case rel => exact ⟨k + 1, by omega, by go_num, HN, hb⟩
        case measure => simp [intOf]; omega
    · have HV : Hid (massB g ms = ((ms.length : Int) == g.rows * g.columns)) := by
        show _ = _
        have h1 : allG ms 0 1000000 = true := by rw [allG_idx, show ms.length = k by omega]; exact H0.out
        unfold massB
        rw [h1, Bool.true_and]
        exact decB _ _
      have hpk := hp.below' hb
      have d0 := hpk.c0
      have d1 := hpk.c1
      go_wp2
      have gd0 := cell_regrown d0
      have gd1 := cell_regrown d1
      refine wp_region_mix (C := fun w' => ∃ p : Regrown, w' = Go.Sort.grow (redrawn wr p.d) p.os) [true, true, true, true, true, true, true, true, true, true, true, true, true] (by kernel_rfl) (by kernel_rfl) (by kernel_rfl) (fun _ _ d _ _ h => by cases d <;> exact h) (regrown_of_below (Below.drew (Below.refl _ _))) ?_
      have hS0 : Below (wr.heap.size) wr wr.drew := Below.drew (Below.refl _ _)
      refine wpMix_pure (by kernel_rfl) (fun K hK => ?_)
      go_big_quiet_op
      refine hK _ ?_; clear hK K
      refine wpMix_pure (by kernel_rfl) (fun K hK => ?_)
      go_big_quiet_op
      refine hK _ ?_; clear hK K
      refine wpMix_pure (by kernel_rfl) (fun K hK => ?_)
      go_big_quiet_op
      refine hK _ ?_; clear hK K
      refine wpMix_pure (by kernel_rfl) (fun K hK => ?_)
      go_big_quiet_op
      refine hK _ ?_; clear hK K
      refine wpMix_pure (by kernel_rfl) (fun K hK => ?_)
      go_big_quiet_op
      refine hK _ ?_; clear hK K
      refine wpMix_pure (by kernel_rfl) (fun K hK => ?_)
      go_big_quiet_op
      refine hK _ ?_; clear hK K
      refine wpMix_pure (by kernel_rfl) (fun K hK => ?_)
      go_big_quiet_op
      refine hK _ ?_; clear hK K
      refine wpMix_pure (by kernel_rfl) (fun K hK => ?_)
      go_big_quiet_op
      refine hK _ ?_; clear hK K
      refine wpMix_pure (by kernel_rfl) (fun K hK => ?_)
      go_big_quiet_op
      refine hK _ ?_; clear hK K
      refine wpMix_pure (by kernel_rfl) (fun K hK => ?_)
      go_big_quiet_op
      refine hK _ ?_; clear hK K
      refine wpMix_pure (by kernel_rfl) (fun K hK => ?_)
      go_big_quiet_op
      refine hK _ ?_; clear hK K
      refine wpMix_pure (by kernel_rfl) (fun K hK => ?_)
      go_big_quiet_op
      refine hK _ ?_; clear hK K
      refine wpMix_pure (by kernel_rfl) (fun K hK => ?_)
      go_big_quiet_op
      refine hK _ ?_; clear hK K
      refine wpMix_nil ?_
      go_wp2
      go_ret
      exact ⟨ret_bool HV.out.symm, hb.trans (hS0.mono hb.size)⟩
set_option maxRecDepth 100000 in
set_option maxHeartbeats 4000000 in
theorem l13Ask_any (g : DGrid) (pb po : Nat) (v vm : Value) (ms : List Int) (fr : Int) (fp fpm : List Nat) (w : World) (hp : PGrid w pb po v g) (hs : Sl fInt.cod w v g.he fp) (hm : Sl fInt.cod w vm ms fpm) :
    Calls Try.prog 36 #[.pointer (some ⟨pb, po, none⟩), vm, .int .i64 fr] w fun e w' => e = .returned (.int .i64 (routeC g ms fr)) ∧ Below w.heap.size w w' := by
  obtain ⟨A, cap, rfl, hlen, hcap⟩ := hm.form
  go_enter Try.func36, Try.ntmps36
  go_wp2_with fail
  refine (l09Ok_any _ _ _ _ _ _ hp hs).mono ?_
  rintro e w1 ⟨rfl, hb1⟩
  cases h1 : gridB g
  · have HV : Hid (routeC g ms fr = 1) := by show _ = _; unfold routeC; rw [if_pos h1]
    go_wp2
    go_ret
    exact ⟨ret_int HV.out.symm, hb1⟩
  go_wp2_with fail
  refine (l00InB_any _ _ _ _).mono ?_
  rintro e w' ⟨rfl, rfl⟩
  cases h2 : inB fr 1 5000
  · have HV : Hid (routeC g ms fr = 2) := by show _ = _; unfold routeC; rw [if_neg (by rw [h1]; simp), if_pos h2]
    go_wp2
    go_ret
    exact ⟨ret_int HV.out.symm, hb1⟩
  go_wp2_with fail
  refine (l13Masses_any _ _ _ _ _ _ _ _ (hp.below' hb1) (hm.below' hb1) h1).mono ?_
  rintro e w2 ⟨rfl, hb2⟩
  have hbb := hb1.trans (hb2.mono hb1.size)
  cases h3 : massB g ms
  · have HV : Hid (routeC g ms fr = 7) := by show _ = _; unfold routeC; rw [if_neg (by rw [h1]; simp), if_neg (by rw [h2]; simp), if_pos h3]
    go_wp2
    go_ret
    exact ⟨ret_int HV.out.symm, hbb⟩
  have HV : Hid (routeC g ms fr = 0) := routeC_zero.2 ⟨h1, h2, h3⟩
  go_wp2
  go_ret
  exact ⟨ret_int HV.out.symm, hbb⟩
def gAg (g : DGrid) (v : Value) : Value := .agg #[.int .i64 g.rows, .int .i64 g.columns, .int .i64 g.size, v]
theorem allIn_allG (xs : List Int) (lo hi : Int) : allIn xs lo hi = allG xs lo hi := rfl
set_option maxRecDepth 100000 in
set_option maxHeartbeats 4000000 in
theorem ValidGrid_any (g : DGrid) (v : Value) (fp : List Nat) (w : World) (hs : Sl fInt.cod w v g.he fp) :
    Calls Try.prog 44 #[gAg g v] w fun e w' => e = .returned (.bool (gridB g)) ∧ Below w.heap.size w w' := by
  obtain ⟨A, cap, rfl, hlen, hcap⟩ := hs.form
  have hB : Below w.heap.size w (w.alloc (.cells #[.int .i64 g.rows, .int .i64 g.columns, .int .i64 g.size, (.slice A g.he.length cap)] 33)) := (Below.refl _ _).alloc (Nat.le_refl _) _
  have hs2 := hs.below' hB
  unfold gAg
  go_enter Try.func44, Try.ntmps44
  go_wp2_with fail
  refine (withinB_any _ _ _ _).mono ?_
  rintro e w' ⟨rfl, rfl⟩
  cases h1 : inB g.rows 1 8
  · have HV : Hid (gridB g = false) := by show _ = _; unfold gridB; rw [h1]; simp
    go_wp2
    go_ret
    exact ⟨ret_bool HV.out.symm, hB⟩
  go_wp2_with fail
  refine (withinB_any _ _ _ _).mono ?_
  rintro e w' ⟨rfl, rfl⟩
  cases h2 : inB g.columns 1 8
  · have HV : Hid (gridB g = false) := by show _ = _; unfold gridB; rw [h2]; simp
    go_wp2
    go_ret
    exact ⟨ret_bool HV.out.symm, hB⟩
  go_wp2_with fail
  refine (withinB_any _ _ _ _).mono ?_
  rintro e w' ⟨rfl, rfl⟩
  cases h3 : inB g.size 1 100
  · have HV : Hid (gridB g = false) := by show _ = _; unfold gridB; rw [h3]; simp
    go_wp2
    go_ret
    exact ⟨ret_bool HV.out.symm, hB⟩
  have hmul := mul8 h1 h2
  by_cases h4 : (g.he.length : Int) = g.rows * g.columns
  rotate_left
  · have HV : Hid (gridB g = false) := by show _ = _; unfold gridB; rw [decide_eq_false h4]; simp
    have q0 : ((g.he.length : Int) == g.rows * g.columns) = false := by rw [beq_eq_false_iff_ne]; exact h4
    clear h4
    go_wp2
    go_ret
    exact ⟨ret_bool HV.out.symm, hB⟩
  have HV : Hid (gridB g = allIn g.he 0 5000) := by show _ = _; unfold gridB; rw [h1, h2, h3, decide_eq_true h4]; rfl
  have q0 : ((g.he.length : Int) == g.rows * g.columns) = true := by rw [beq_iff_eq]; exact h4
  clear h4
  go_wp2_with fail
  refine (allWithin_any _ _ _ _ _ _ hs2).mono ?_
  rintro e w2 ⟨rfl, hb2⟩
  have hbb := hB.trans (hb2.mono hB.size)
  rw [← HV.out]
  go_wp2
  go_ret
  exact ⟨rfl, hbb⟩
/-- The code of a grid and no cells. -/
def gridC (g : DGrid) : Int := if gridB g then 0 else 1
theorem allIn_nil (lo hi : Int) : allIn [] lo hi = true := rfl
set_option maxRecDepth 100000 in
set_option maxHeartbeats 4000000 in

theorem gridCode0_any (g : DGrid) (v : Value) (fp : List Nat) (w : World) (hs : Sl fInt.cod w v g.he fp) :
    Calls Try.prog 46 #[gAg g v, .slice none 0 0] w fun e w' => e = .returned (.int .i64 (gridC g)) ∧ Below w.heap.size w w' := by
  obtain ⟨A, cap, rfl, hlen, hcap⟩ := hs.form
  have hB : Below w.heap.size w (w.alloc (.cells #[.int .i64 g.rows, .int .i64 g.columns, .int .i64 g.size, (.slice A g.he.length cap)] 33)) := (Below.refl _ _).alloc (Nat.le_refl _) _
  have hs2 := hs.below' hB
  have c3 : (w.alloc (.cells #[.int .i64 g.rows, .int .i64 g.columns, .int .i64 g.size, (.slice A g.he.length cap)] 33)).cell? ⟨w.heap.size, 3, none⟩ = some (.slice A g.he.length cap) := by simp
  have hsz : (w.alloc (.cells #[.int .i64 g.rows, .int .i64 g.columns, .int .i64 g.size, (.slice A g.he.length cap)] 33)).heap.size = w.heap.size + 1 := by simp
  unfold gAg
  go_enter Try.func46, Try.ntmps46
  go_wp2_with fail
  refine (ValidGrid_any g _ _ _ hs2).mono ?_
  rintro e w1 ⟨rfl, hb1⟩
  have hbb := hB.trans (hb1.mono hB.size)
  replace c3 := (hb1.cell (p := ⟨w.heap.size, 3, none⟩) (by show w.heap.size < _; omega)).trans c3
  clear hsz
  cases h1 : gridB g
  · have HV : Hid (gridC g = 1) := by show _ = _; unfold gridC; rw [h1]; rfl
    go_wp2
    go_ret
    exact ⟨ret_int HV.out.symm, hbb⟩
  have HV : Hid (gridC g = 0) := by show _ = _; unfold gridC; rw [h1]; rfl
  have hG := gridP_of h1
  have hl := hG.len
  clear hG
  go_wp2_with fail
  refine (allWithin_any _ [] [] _ _ _ (slNilU fInt.cod _)).mono ?_
  rintro e w2 ⟨rfl, hb2⟩
  have hb3 := hbb.trans (hb2.mono hbb.size)
  rw [allIn_nil]
  go_wp2
  go_ret
  exact ⟨ret_int HV.out.symm, hb3⟩
set_option maxRecDepth 100000 in
set_option maxHeartbeats 400000 in
theorem frictionOk_any (n : Int) (w : World) : Calls Try.prog 45 #[.int .i64 n] w fun e w' => e = .returned (.bool (inB n 1 5000)) ∧ w = w' := by
  go_enter Try.func45, Try.ntmps45
  go_wp2_with (go_at_call 27; refine (withinB_any _ _ _ _).mono ?_; rintro e w' ⟨rfl, rfl⟩)
  go_ret
  exact ⟨rfl, rfl⟩
set_option maxRecDepth 100000 in
set_option maxHeartbeats 4000000 in
theorem hasMasses_any (g : DGrid) (v vm : Value) (ms : List Int) (fp fpm : List Nat) (w : World) (hs : Sl fInt.cod w v g.he fp) (hm : Sl fInt.cod w vm ms fpm) (hg : gridB g = true) :
    Calls Try.prog 47 #[gAg g v, vm] w fun e w' => e = .returned (.bool (massB g ms)) ∧ Below w.heap.size w w' := by
  obtain ⟨A, cap, rfl, hlen, hcap⟩ := hs.form
  obtain ⟨A', cap', rfl, hlen', hcap'⟩ := hm.form
  have hB : Below w.heap.size w (w.alloc (.cells #[.int .i64 g.rows, .int .i64 g.columns, .int .i64 g.size, (.slice A g.he.length cap)] 33)) := (Below.refl _ _).alloc (Nat.le_refl _) _
  have hm2 := hm.below' hB
  have hl := (gridP_of hg).l
  unfold gAg
  go_enter Try.func47, Try.ntmps47
  by_cases h4 : ms.length = g.he.length
  · have HV : Hid (massB g ms = allIn ms 0 1000000) := by show _ = _; unfold massB; rw [decide_eq_true (by omega), Bool.and_true]; rfl
    have q0 : ((ms.length : Int) == (g.he.length : Int)) = true := by rw [beq_iff_eq]; omega
    clear hl h4
    go_wp2_with fail
    refine (allWithin_any _ _ _ _ _ _ hm2).mono ?_
    rintro e w2 ⟨rfl, hb2⟩
    have hbb := hB.trans (hb2.mono hB.size)
    rw [← HV.out]
    go_wp2
    go_ret
    exact ⟨rfl, hbb⟩
  · have HV : Hid (massB g ms = false) := by show _ = _; unfold massB; rw [decide_eq_false (by omega), Bool.and_false]
    have q0 : ((ms.length : Int) == (g.he.length : Int)) = false := by rw [beq_eq_false_iff_ne]; omega
    clear hl h4
    go_wp2
    go_ret
    exact ⟨ret_bool HV.out.symm, hB⟩
set_option maxRecDepth 100000 in
set_option maxHeartbeats 4000000 in
theorem routeCode0_any (g : DGrid) (v vm : Value) (ms : List Int) (fr : Int) (fp fpm : List Nat) (w : World) (hs : Sl fInt.cod w v g.he fp) (hm : Sl fInt.cod w vm ms fpm) :
    Calls Try.prog 22 #[gAg g v, vm, .int .i64 fr, .slice none 0 0] w fun e w' => e = .returned (.int .i64 (routeC g ms fr)) ∧ Below w.heap.size w w' := by
  obtain ⟨A, cap, rfl, hlen, hcap⟩ := hs.form
  obtain ⟨A', cap', rfl, hlen', hcap'⟩ := hm.form
  have hB : Below w.heap.size w (w.alloc (.cells #[.int .i64 g.rows, .int .i64 g.columns, .int .i64 g.size, (.slice A g.he.length cap)] 33)) := (Below.refl _ _).alloc (Nat.le_refl _) _
  have pg := gbox_new w g (.slice A g.he.length cap) 33
  replace hs := hs.below' hB
  replace hm := hm.below' hB
  unfold gAg
  go_enter Try.func22, Try.ntmps22
  go_wp2_with fail
  generalize (w.alloc (.cells #[.int .i64 g.rows, .int .i64 g.columns, .int .i64 g.size, (.slice A g.he.length cap)] 33)) = w0 at *
  refine (ValidGrid_any g _ _ _ hs).mono ?_
  rintro e w1 ⟨rfl, hb1⟩
  have hB1 := hB.trans (hb1.mono hB.size)
  have pg1 := pg.below' hb1
  have k0 := pg1.c0
  have k1 := pg1.c1
  have k2 := pg1.c2
  have k3 := pg1.c3
  cases h1 : gridB g
  · have HV : Hid (routeC g ms fr = 1) := by show _ = _; unfold routeC; rw [if_pos h1]
    go_wp2
    go_ret
    exact ⟨ret_int HV.out.symm, hB1⟩
  go_wp2_with fail
  refine (frictionOk_any _ _).mono ?_
  rintro e w' ⟨rfl, rfl⟩
  cases h2 : inB fr 1 5000
  · have HV : Hid (routeC g ms fr = 2) := by show _ = _; unfold routeC; rw [if_neg (by rw [h1]; simp), if_pos h2]
    go_wp2
    go_ret
    exact ⟨ret_int HV.out.symm, hB1⟩
  go_wp2_with fail
  refine (gridCode0_any g _ _ _ (hs.below' hb1)).mono ?_
  rintro e w2 ⟨rfl, hb2⟩
  have hbb := hb1.trans (hb2.mono hb1.size)
  have hB2 := hB.trans (hbb.mono hB.size)
  have pg2 := pg.below' hbb
  clear k0 k1 k2 k3
  have k0 := pg2.c0
  have k1 := pg2.c1
  have k2 := pg2.c2
  have k3 := pg2.c3
  rw [show gridC g = 0 by unfold gridC; rw [h1]; rfl]
  go_wp2_with fail
  refine (hasMasses_any g _ _ _ _ _ _ (hs.below' hbb) (hm.below' hbb) h1).mono ?_
  rintro e w3 ⟨rfl, hb3⟩
  have hbc := hB2.trans (hb3.mono hB2.size)
  cases h3 : massB g ms
  · have HV : Hid (routeC g ms fr = 7) := by show _ = _; unfold routeC; rw [if_neg (by rw [h1]; simp), if_neg (by rw [h2]; simp), if_pos h3]
    go_wp2
    go_ret
    exact ⟨ret_int HV.out.symm, hbc⟩
  have HV : Hid (routeC g ms fr = 0) := routeC_zero.2 ⟨h1, h2, h3⟩
  go_wp2
  go_ret
  exact ⟨ret_int HV.out.symm, hbc⟩
end Go.Proofs.Ytpebibegdeioeaa
