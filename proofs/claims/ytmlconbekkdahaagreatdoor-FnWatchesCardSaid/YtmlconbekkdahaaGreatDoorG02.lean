/- Parts of the proof: Vw, Ap, Cr, Ig, BsWatch, Pz, Kw. -/
import Derived.Test.YtmlconbekkdahaaGreatDoorG01
import Derived.Laws.OwnMore
import Derived.Maps.AppendAt
import Derived.Laws.CopyOwn
import Derived.Lib.AppendZerosOnto
import Derived.Lib.Overlaps
import Derived.Laws.Externs
import Derived.Deep.RegionHeld
namespace Go.Proofs.YtmlconbekkdahaaGreatDoor
open Go.RowKit
set_option linter.unusedVariables false

def watch0 : DWatch := ⟨⟨#[]⟩, 0, 0, false⟩
def watchBef (a b : DWatch) : Bool := if a.person = b.person then decide (a.start + a.hours ≤ b.start) else ltS a.person b.person
def cmpW (a b : DWatch) : Int := orI [cmT a.person b.person, cmI a.start b.start]
theorem watchBef_gt {a b : DWatch} (h : ltS b.person a.person = true) : watchBef a b = false := by
  unfold watchBef
  have h2 : a.person ≠ b.person := by
    intro e
    rw [e, ltS_irrefl] at h
    cases h
  rw [if_neg h2]
  exact ltS_asymm h
theorem watchBef_eq {a b : DWatch} (h : a.person = b.person) : watchBef a b = decide (a.start + a.hours ≤ b.start) := by
  unfold watchBef; rw [if_pos h]
theorem watchBef_lt {a b : DWatch} (h : ltS b.person a.person = false) (h2 : a.person ≠ b.person) : watchBef a b = true := by
  unfold watchBef
  rw [if_neg h2]
  cases h3 : ltS a.person b.person
  · exact absurd (ltS_tri h3 h) h2
  · rfl
theorem cmpW_ne {a b : DWatch} (h : a.person ≠ b.person) : decide (cmpW a b < 0) = watchBef a b := by
  unfold cmpW watchBef
  rw [orI_two, if_neg (fun e => h (cmT_zero.1 e)), if_neg h]
  rw [Bool.eq_iff_iff]; simp [cmT_lt]
theorem cmpW_eq {a b : DWatch} (h : a.person = b.person) : decide (cmpW a b < 0) = decide (a.start < b.start) := by
  unfold cmpW
  rw [orI_two, if_pos (cmT_zero.2 h)]
  rw [Bool.eq_iff_iff]; simp [cmI_lt]

def watchOk (xs : List DWatch) (i : Nat) : Bool := watchB (xs.getD i watch0) && (decide (i = 0) || watchBef (xs.getD (i - 1) watch0) (xs.getD i watch0))
def watchsB (xs : List DWatch) : Bool := allIdx (watchOk xs) xs.length && decide (xs.length ≤ 32)
theorem watchOk_zero {xs : List DWatch} (h : 0 < xs.length) : watchOk xs 0 = watchB xs[0] := by simp [watchOk, h]
theorem watchOk_succ {xs : List DWatch} {m : Nat} (h : m + 1 < xs.length) : watchOk xs (m + 1) = (watchB xs[m + 1] && watchBef xs[m] xs[m + 1]) := by
  have h1 : m < xs.length := by omega
  simp [watchOk, h, h1]
theorem watchsB_bad {xs : List DWatch} {k : Nat} (h : k < xs.length) (h1 : watchOk xs k = false) : watchsB xs = false := by
  unfold watchsB; rw [allIdx_bad h h1]; rfl
theorem watchsB_len {xs : List DWatch} (h : watchsB xs = true) : xs.length ≤ 32 := by
  unfold watchsB at h; simp at h; exact h.2
theorem watchsB_one {xs : List DWatch} (h : watchsB xs = true) {k : Nat} (hk : k < xs.length) : watchB xs[k] = true := by
  unfold watchsB at h
  rw [Bool.and_eq_true] at h
  have := allIdx_true.1 h.1 k hk
  unfold watchOk at this
  rw [Bool.and_eq_true] at this
  simpa [hk] using this.1
theorem watchsB_two {xs : List DWatch} (h : watchsB xs = true) {m : Nat} (hm : m + 1 < xs.length) : watchBef xs[m] xs[m + 1] = true := by
  unfold watchsB at h
  rw [Bool.and_eq_true] at h
  have := allIdx_true.1 h.1 (m + 1) hm
  rw [watchOk_succ hm, Bool.and_eq_true] at this
  exact this.2
theorem watchB_b {x : DWatch} (h : watchB x = true) : 0 ≤ x.start ∧ x.start ≤ 10000 ∧ 1 ≤ x.hours ∧ x.hours ≤ 48 := by
  unfold watchB at h
  simp only [Bool.and_eq_true, inB_true] at h
  omega
theorem watchOk_before {xs : List DWatch} {m k : Nat} (h : allIdx (watchOk xs) k = true) (hm : m < k) (hk : k ≤ xs.length) : watchB (xs[m]'(by omega)) = true := by
  have h1 := allIdx_true.1 h m hm
  have h2 : m < xs.length := by omega
  unfold watchOk at h1
  rw [Bool.and_eq_true] at h1
  have h3 := h1.1
  rw [List.getD_eq_getElem?_getD, List.getElem?_eq_getElem h2] at h3
  exact h3
set_option maxRecDepth 100000 in
set_option maxHeartbeats 4000000 in
theorem compareWatches_any (a b : DWatch) (w : World) :
    Calls Tryz.prog 24 #[.agg #[.string a.person, .int .i64 a.start, .int .i64 a.hours, .bool a.onCall], .agg #[.string b.person, .int .i64 b.start, .int .i64 b.hours, .bool b.onCall]] w fun e w' => e = .returned (.int .i64 (cmpW a b)) ∧ Below w.heap.size w w' := by
  have hpa := PWatch.box w a 26
  have hpb := PWatch.box (w.alloc (.cells #[.string a.person, .int .i64 a.start, .int .i64 a.hours, .bool a.onCall] 26)) b 26
  rw [World.size_alloc] at hpb
  have hpa2 := hpa.below' ((Below.refl _ _).alloc (Nat.le_refl _) (.cells #[.string b.person, .int .i64 b.start, .int .i64 b.hours, .bool b.onCall] 26))
  go_enter Tryz.func24, Tryz.ntmps24
  go_wp2
  refine at_world (fun W => Below w.heap.size w W ∧ PWatch W w.heap.size 0 a ∧ PWatch W (w.heap.size + 1) 0 b) ⟨(by repeat (first | exact Below.refl _ _ | assumption | refine Below.alloc ?_ (by first | omega | (simp <;> omega)) _ | refine Below.setCell ?_ (by first | (show _ ≤ _; omega) | (simp <;> omega)) _ | refine Below.drew ?_ | refine below_drewN ?_ _)), hpa2, hpb⟩ ?_
  clear hpa hpb hpa2
  rintro W ⟨hW, ⟨c0, c1, c2, c3⟩, ⟨d0, d1, d2, d3⟩⟩
  have gc0 := cell_regrown c0
  have gc1 := cell_regrown c1
  have gd0 := cell_regrown d0
  have gd1 := cell_regrown d1
  refine wp_region_mixed [0, 1, 2, 3, 5, 6, 7, 8, 4, 9, 10, 11, 12] (C := fun w' => ∃ p : Regrown, w' = Go.Sort.grow (redrawn W p.d) p.os) [true, true, true, true, true, true, true, true, false, false, false, false, true] (by kernel_rfl) (by kernel_rfl) (by kernel_rfl) (fun _ _ d _ _ h => by cases d <;> exact h) (regrown_of_below (Below.drew (Below.refl _ _))) ?_
  simp only [List.map_cons, List.map_nil, List.getD_cons_zero, List.getD_cons_succ]
  have hS0 : Below (W.heap.size) W W.drew := Below.drew (Below.refl _ _)
  refine wpMix_pure (by kernel_rfl) (fun K hK => ?_); go_big_quiet_op; refine hK _ ?_; clear hK K
  refine wpMix_pure (by kernel_rfl) (fun K hK => ?_); go_big_quiet_op; refine hK _ ?_; clear hK K
  refine wpMix_pure (by kernel_rfl) (fun K hK => ?_); go_big_quiet_op; refine hK _ ?_; clear hK K
  refine wpMix_pure (by kernel_rfl) (fun K hK => ?_); go_big_quiet_op; refine hK _ ?_; clear hK K
  refine wpMix_pure (by kernel_rfl) (fun K hK => ?_); go_big_quiet_op; refine hK _ ?_; clear hK K
  refine wpMix_pure (by kernel_rfl) (fun K hK => ?_); go_big_quiet_op; refine hK _ ?_; clear hK K
  refine wpMix_pure (by kernel_rfl) (fun K hK => ?_); go_big_quiet_op; refine hK _ ?_; clear hK K
  refine wpMix_pure (by kernel_rfl) (fun K hK => ?_); go_big_quiet_op; refine hK _ ?_; clear hK K
  refine wpMix_act (by kernel_rfl) (fun K hK => ?_)
  go_big_op
  refine (compareT_any _ _ _).mono ?_
  rintro e w' ⟨rfl, rfl⟩
  refine hK _ _ (regrown_of_below hS0) ?_
  clear hK K
  refine wpMix_act (by kernel_rfl) (fun K hK => ?_)
  go_big_op
  refine (compareI_any _ _ _).mono ?_
  rintro e w' ⟨rfl, rfl⟩
  refine hK _ _ (regrown_of_below hS0) ?_
  clear hK K
  refine wpMix_act (by kernel_rfl) (fun K hK => ?_)
  go_big_op
  refine hK _ _ (regrown_of_below (hS0.alloc hS0.size _)) ?_
  clear hK K
  refine mix_world (fun N => Below (W.heap.size) W N ∧ Sl fInt.cod N (.slice (some ⟨W.drew.heap.size, 0, none⟩) 2 2) [cmT a.person b.person, cmI a.start b.start] [W.drew.heap.size]) ⟨hS0.alloc hS0.size _, Sl.lit2 (E := fInt) W.drew [cmT a.person b.person, cmI a.start b.start] _ _ rfl (by intro x hx; simp at hx; rcases hx with rfl | rfl; exact cmT_ok _ _; exact cmI_ok _ _) (by simp) (by simp)⟩ ?_
  rintro wr3 ⟨hbr3S, hbr3F⟩
  refine wpMix_act (by kernel_rfl) (fun K hK => ?_)
  go_big_op
  refine (orJ_any _ _ _ _ hbr3F).mono ?_
  rintro e w' ⟨rfl, rfl⟩
  refine hK _ _ (regrown_of_below hbr3S) ?_
  clear hK K
  refine wpMix_pure (by kernel_rfl) (fun K hK => ?_); go_big_quiet_op; refine hK _ ?_; clear hK K
  refine wpMix_nil ?_
  go_wp2
  go_ret
  exact ⟨rfl, hW.trans (hbr3S.mono hW.size)⟩
set_option maxRecDepth 100000 in
set_option maxHeartbeats 2000000 in
theorem endW_any (a : DWatch) (w : World) (h : 0 ≤ a.start ∧ a.start ≤ 10000 ∧ 1 ≤ a.hours ∧ a.hours ≤ 48) :
    Calls Tryz.prog 35 #[.agg #[.string a.person, .int .i64 a.start, .int .i64 a.hours, .bool a.onCall]] w fun e w' => e = .returned (.int .i64 (a.start + a.hours)) ∧ Below w.heap.size w w' := by
  go_enter Tryz.func35, Tryz.ntmps35
  go_wp2
  go_ret
  exact ⟨rfl, (Below.refl _ _).alloc (Nat.le_refl _) _⟩
set_option maxRecDepth 100000 in
set_option maxHeartbeats 4000000 in
theorem l26Ok_any (v : Value) (xs : List DWatch) (fp : List Nat) (w : World) (hx : Sl fWatch.cod w v xs fp) :
    Calls Tryz.prog 32 #[v] w fun e w' => e = .returned (.bool (watchsB xs)) ∧ Below w.heap.size w w' := by
  obtain ⟨A, cap, rfl, hlen, hcap⟩ := hx.form
  go_enter Tryz.func32, Tryz.ntmps32
  go_wp2
  go_loopw [3] (fun i wr => ∃ k : Nat, k ≤ xs.length ∧ i = .int .i64 k ∧ Hid (allIdx (watchOk xs) k = true) ∧ Below w.heap.size w wr) (fun i _ => xs.length - (intOf i).toNat)
  case atStart => exact ⟨0, Nat.zero_le _, rfl, rfl, Below.refl _ _⟩
  case round =>
    obtain ⟨k, hk, rfl, H0, hb⟩ := hrel
    by_cases hlt : k < xs.length
    · rcases Nat.eq_zero_or_pos k with rfl | hpos
      · skip
        obtain ⟨b, off, rfl, _, hok, hp⟩ := PWatch.elem (hx.below' hb) hlt
        rw [Nat.zero_mul, Nat.add_zero] at hp
        go_wp2_with fail
        refine (l26One_any _ _ xs[0] _ hp hok).mono ?_
        rintro e w1 ⟨rfl, hb1⟩
        cases hone : watchB xs[0]
        · have HZ : Hid (watchOk xs (0) = false) := by show _ = _; rw [watchOk_zero hlt, hone]
          go_wp2
          go_ret
          exact ⟨ret_bool (by rw [watchsB_bad hlt HZ.out]), hb.trans (hb1.mono hb.size)⟩
        · clear hp
          go_wp2
          refine at_world (fun W => Below wr.heap.size wr W) hb1 ?_
          rintro W hW
          refine wp_region_mix (C := fun w' => ∃ p : Regrown, w' = Go.Sort.grow (redrawn W p.d) p.os) [true, true, true, true, true, true, true, true, true, true, true, true, true, true, true, true, true, true, true, true, true, true, true, true, true, true, true, true, true, true, true, true, true, true, true, true, true, true, true, true, true, true, true, true, true, true, true, true, true, true, true] (by kernel_rfl) (by kernel_rfl) (by kernel_rfl) (fun _ _ d _ _ h => by cases d <;> exact h) (regrown_of_below (Below.drew (Below.refl _ _))) ?_
          have hS0 : Below (W.heap.size) W W.drew := Below.drew (Below.refl _ _)
          refine wpMix_pure (by kernel_rfl) (fun K hK => ?_); go_big_quiet_op; refine hK _ ?_; clear hK K
          refine wpMix_pure (by kernel_rfl) (fun K hK => ?_); go_big_quiet_op; refine hK _ ?_; clear hK K
          refine wpMix_pure (by kernel_rfl) (fun K hK => ?_); go_big_quiet_op; refine hK _ ?_; clear hK K
          refine wpMix_skip (by kernel_rfl) (fun K hK => ?_)
          simp only [Act.put, List.setIfInBounds_toArray, List.set_cons_zero, List.set_cons_succ]
          refine hK _ ?_; clear hK K
          refine wpMix_skip (by kernel_rfl) (fun K hK => ?_)
          simp only [Act.put, List.setIfInBounds_toArray, List.set_cons_zero, List.set_cons_succ]
          refine hK _ ?_; clear hK K
          refine wpMix_skip (by kernel_rfl) (fun K hK => ?_)
          simp only [Act.put, List.setIfInBounds_toArray, List.set_cons_zero, List.set_cons_succ]
          refine hK _ ?_; clear hK K
          refine wpMix_skip (by kernel_rfl) (fun K hK => ?_)
          simp only [Act.put, List.setIfInBounds_toArray, List.set_cons_zero, List.set_cons_succ]
          refine hK _ ?_; clear hK K
          refine wpMix_skip (by kernel_rfl) (fun K hK => ?_)
          simp only [Act.put, List.setIfInBounds_toArray, List.set_cons_zero, List.set_cons_succ]
          refine hK _ ?_; clear hK K
          refine wpMix_skip (by kernel_rfl) (fun K hK => ?_)
          simp only [Act.put, List.setIfInBounds_toArray, List.set_cons_zero, List.set_cons_succ]
          refine hK _ ?_; clear hK K
          refine wpMix_skip (by kernel_rfl) (fun K hK => ?_)
          simp only [Act.put, List.setIfInBounds_toArray, List.set_cons_zero, List.set_cons_succ]
          refine hK _ ?_; clear hK K
          refine wpMix_skip (by kernel_rfl) (fun K hK => ?_)
          simp only [Act.put, List.setIfInBounds_toArray, List.set_cons_zero, List.set_cons_succ]
          refine hK _ ?_; clear hK K
          refine wpMix_skip (by kernel_rfl) (fun K hK => ?_)
          simp only [Act.put, List.setIfInBounds_toArray, List.set_cons_zero, List.set_cons_succ]
          refine hK _ ?_; clear hK K
          refine wpMix_skip (by kernel_rfl) (fun K hK => ?_)
          simp only [Act.put, List.setIfInBounds_toArray, List.set_cons_zero, List.set_cons_succ]
          refine hK _ ?_; clear hK K
          refine wpMix_skip (by kernel_rfl) (fun K hK => ?_)
          simp only [Act.put, List.setIfInBounds_toArray, List.set_cons_zero, List.set_cons_succ]
          refine hK _ ?_; clear hK K
          refine wpMix_skip (by kernel_rfl) (fun K hK => ?_)
          simp only [Act.put, List.setIfInBounds_toArray, List.set_cons_zero, List.set_cons_succ]
          refine hK _ ?_; clear hK K
          refine wpMix_skip (by kernel_rfl) (fun K hK => ?_)
          simp only [Act.put, List.setIfInBounds_toArray, List.set_cons_zero, List.set_cons_succ]
          refine hK _ ?_; clear hK K
          refine wpMix_skip (by kernel_rfl) (fun K hK => ?_)
          simp only [Act.put, List.setIfInBounds_toArray, List.set_cons_zero, List.set_cons_succ]
          refine hK _ ?_; clear hK K
          refine wpMix_skip (by kernel_rfl) (fun K hK => ?_)
          simp only [Act.put, List.setIfInBounds_toArray, List.set_cons_zero, List.set_cons_succ]
          refine hK _ ?_; clear hK K
          refine wpMix_skip (by kernel_rfl) (fun K hK => ?_)
          simp only [Act.put, List.setIfInBounds_toArray, List.set_cons_zero, List.set_cons_succ]
          refine hK _ ?_; clear hK K
          refine wpMix_skip (by kernel_rfl) (fun K hK => ?_)
          simp only [Act.put, List.setIfInBounds_toArray, List.set_cons_zero, List.set_cons_succ]
          refine hK _ ?_; clear hK K
          refine wpMix_skip (by kernel_rfl) (fun K hK => ?_)
          simp only [Act.put, List.setIfInBounds_toArray, List.set_cons_zero, List.set_cons_succ]
          refine hK _ ?_; clear hK K
          refine wpMix_skip (by kernel_rfl) (fun K hK => ?_)
          simp only [Act.put, List.setIfInBounds_toArray, List.set_cons_zero, List.set_cons_succ]
          refine hK _ ?_; clear hK K
          refine wpMix_skip (by kernel_rfl) (fun K hK => ?_)
          simp only [Act.put, List.setIfInBounds_toArray, List.set_cons_zero, List.set_cons_succ]
          refine hK _ ?_; clear hK K
          refine wpMix_skip (by kernel_rfl) (fun K hK => ?_)
          simp only [Act.put, List.setIfInBounds_toArray, List.set_cons_zero, List.set_cons_succ]
          refine hK _ ?_; clear hK K
          refine wpMix_skip (by kernel_rfl) (fun K hK => ?_)
          simp only [Act.put, List.setIfInBounds_toArray, List.set_cons_zero, List.set_cons_succ]
          refine hK _ ?_; clear hK K
          refine wpMix_skip (by kernel_rfl) (fun K hK => ?_)
          simp only [Act.put, List.setIfInBounds_toArray, List.set_cons_zero, List.set_cons_succ]
          refine hK _ ?_; clear hK K
          refine wpMix_skip (by kernel_rfl) (fun K hK => ?_)
          simp only [Act.put, List.setIfInBounds_toArray, List.set_cons_zero, List.set_cons_succ]
          refine hK _ ?_; clear hK K
          refine wpMix_skip (by kernel_rfl) (fun K hK => ?_)
          simp only [Act.put, List.setIfInBounds_toArray, List.set_cons_zero, List.set_cons_succ]
          refine hK _ ?_; clear hK K
          refine wpMix_skip (by kernel_rfl) (fun K hK => ?_)
          simp only [Act.put, List.setIfInBounds_toArray, List.set_cons_zero, List.set_cons_succ]
          refine hK _ ?_; clear hK K
          refine wpMix_skip (by kernel_rfl) (fun K hK => ?_)
          simp only [Act.put, List.setIfInBounds_toArray, List.set_cons_zero, List.set_cons_succ]
          refine hK _ ?_; clear hK K
          refine wpMix_skip (by kernel_rfl) (fun K hK => ?_)
          simp only [Act.put, List.setIfInBounds_toArray, List.set_cons_zero, List.set_cons_succ]
          refine hK _ ?_; clear hK K
          refine wpMix_skip (by kernel_rfl) (fun K hK => ?_)
          simp only [Act.put, List.setIfInBounds_toArray, List.set_cons_zero, List.set_cons_succ]
          refine hK _ ?_; clear hK K
          refine wpMix_skip (by kernel_rfl) (fun K hK => ?_)
          simp only [Act.put, List.setIfInBounds_toArray, List.set_cons_zero, List.set_cons_succ]
          refine hK _ ?_; clear hK K
          refine wpMix_skip (by kernel_rfl) (fun K hK => ?_)
          simp only [Act.put, List.setIfInBounds_toArray, List.set_cons_zero, List.set_cons_succ]
          refine hK _ ?_; clear hK K
          refine wpMix_skip (by kernel_rfl) (fun K hK => ?_)
          simp only [Act.put, List.setIfInBounds_toArray, List.set_cons_zero, List.set_cons_succ]
          refine hK _ ?_; clear hK K
          refine wpMix_skip (by kernel_rfl) (fun K hK => ?_)
          simp only [Act.put, List.setIfInBounds_toArray, List.set_cons_zero, List.set_cons_succ]
          refine hK _ ?_; clear hK K
          refine wpMix_skip (by kernel_rfl) (fun K hK => ?_)
          simp only [Act.put, List.setIfInBounds_toArray, List.set_cons_zero, List.set_cons_succ]
          refine hK _ ?_; clear hK K
          refine wpMix_skip (by kernel_rfl) (fun K hK => ?_)
          simp only [Act.put, List.setIfInBounds_toArray, List.set_cons_zero, List.set_cons_succ]
          refine hK _ ?_; clear hK K
          refine wpMix_skip (by kernel_rfl) (fun K hK => ?_)
          simp only [Act.put, List.setIfInBounds_toArray, List.set_cons_zero, List.set_cons_succ]
          refine hK _ ?_; clear hK K
          refine wpMix_skip (by kernel_rfl) (fun K hK => ?_)
          simp only [Act.put, List.setIfInBounds_toArray, List.set_cons_zero, List.set_cons_succ]
          refine hK _ ?_; clear hK K
          refine wpMix_skip (by kernel_rfl) (fun K hK => ?_)
          simp only [Act.put, List.setIfInBounds_toArray, List.set_cons_zero, List.set_cons_succ]
          refine hK _ ?_; clear hK K
          refine wpMix_skip (by kernel_rfl) (fun K hK => ?_)
          simp only [Act.put, List.setIfInBounds_toArray, List.set_cons_zero, List.set_cons_succ]
          refine hK _ ?_; clear hK K
          refine wpMix_skip (by kernel_rfl) (fun K hK => ?_)
          simp only [Act.put, List.setIfInBounds_toArray, List.set_cons_zero, List.set_cons_succ]
          refine hK _ ?_; clear hK K
          refine wpMix_skip (by kernel_rfl) (fun K hK => ?_)
          simp only [Act.put, List.setIfInBounds_toArray, List.set_cons_zero, List.set_cons_succ]
          refine hK _ ?_; clear hK K
          refine wpMix_skip (by kernel_rfl) (fun K hK => ?_)
          simp only [Act.put, List.setIfInBounds_toArray, List.set_cons_zero, List.set_cons_succ]
          refine hK _ ?_; clear hK K
          refine wpMix_skip (by kernel_rfl) (fun K hK => ?_)
          simp only [Act.put, List.setIfInBounds_toArray, List.set_cons_zero, List.set_cons_succ]
          refine hK _ ?_; clear hK K
          refine wpMix_skip (by kernel_rfl) (fun K hK => ?_)
          simp only [Act.put, List.setIfInBounds_toArray, List.set_cons_zero, List.set_cons_succ]
          refine hK _ ?_; clear hK K
          refine wpMix_skip (by kernel_rfl) (fun K hK => ?_)
          simp only [Act.put, List.setIfInBounds_toArray, List.set_cons_zero, List.set_cons_succ]
          refine hK _ ?_; clear hK K
          refine wpMix_skip (by kernel_rfl) (fun K hK => ?_)
          simp only [Act.put, List.setIfInBounds_toArray, List.set_cons_zero, List.set_cons_succ]
          refine hK _ ?_; clear hK K
          refine wpMix_skip (by kernel_rfl) (fun K hK => ?_)
          simp only [Act.put, List.setIfInBounds_toArray, List.set_cons_zero, List.set_cons_succ]
          refine hK _ ?_; clear hK K
          refine wpMix_pure (by kernel_rfl) (fun K hK => ?_); go_big_quiet_op; refine hK _ ?_; clear hK K
          refine wpMix_nil ?_
          go_wp2
          have HZ : Hid (watchOk xs 0 = true) := by show _ = _; rw [watchOk_zero hlt]; exact hone
          go_roundw
          case rel => exact ⟨0 + 1, by omega, by go_num, allIdx_step H0.out HZ.out, hb.trans ((hW.mono hb.size).trans (hS0.mono (Nat.le_trans hb.size hW.size)))⟩
          case measure => simp [intOf]; omega
      · obtain ⟨m, rfl⟩ : ∃ m, k = m + 1 := ⟨k - 1, by omega⟩
        have hm : m < xs.length := by omega
        obtain ⟨b, off, rfl, _, hok, hp⟩ := PWatch.elem (hx.below' hb) hlt
        go_wp2_with fail
        refine (l26One_any _ _ xs[m + 1] _ hp hok).mono ?_
        rintro e w1 ⟨rfl, hb1⟩
        cases hone : watchB xs[m + 1]
        · have HZ : Hid (watchOk xs (m + 1) = false) := by show _ = _; rw [watchOk_succ hlt, hone]; rfl
          go_wp2
          go_ret
          exact ⟨ret_bool (by rw [watchsB_bad hlt HZ.out]), hb.trans (hb1.mono hb.size)⟩
        · have hbm := watchB_b (watchOk_before H0.out (Nat.lt_succ_self m) hk)
          obtain ⟨b1, off1, hA1, _, hokm, hpm⟩ := PWatch.elem (hx.below' hb) hm
          injection hA1 with hA1
          injection hA1 with hA1 hA2 _
          subst hA1 hA2
          go_wp2
          refine at_world (fun W => Below wr.heap.size wr W ∧ PWatch W b (off + (m + 1) * 4) xs[m + 1] ∧ PWatch W b (off + m * 4) xs[m]) ⟨hb1, hp.below' hb1, hpm.below' hb1⟩ ?_
          clear hp hpm
          rintro W ⟨hW, ⟨c0, c1, c2, c3⟩, ⟨d0, d1, d2, d3⟩⟩
          have gc0 := cell_regrown c0
          have gc1 := cell_regrown c1
          have gd0 := cell_regrown d0
          have gd1 := cell_regrown d1
          have gd2 := cell_regrown d2
          refine wp_region_mix (C := fun w' => ∃ p : Regrown, w' = Go.Sort.grow (redrawn W p.d) p.os) [true, true, true, true, true, true, true, true, true, true, true, true, true, true, true, true, true, true, true, true, true, true, true, true, true, true, true, true, true, true, true, true, true, true, true, true, true, true, true, true, true, true, true, true, true, true, true, true, true, true, true] (by kernel_rfl) (by kernel_rfl) (by kernel_rfl) (fun _ _ d _ _ h => by cases d <;> exact h) (regrown_of_below (Below.drew (Below.refl _ _))) ?_
          have hS0 : Below (W.heap.size) W W.drew := Below.drew (Below.refl _ _)
          refine wpMix_pure (by kernel_rfl) (fun K hK => ?_); go_big_quiet_op; refine hK _ ?_; clear hK K
          refine wpMix_pure (by kernel_rfl) (fun K hK => ?_); go_big_quiet_op; refine hK _ ?_; clear hK K
          refine wpMix_pure (by kernel_rfl) (fun K hK => ?_); go_big_quiet_op; refine hK _ ?_; clear hK K
          refine wpMix_pure (by kernel_rfl) (fun K hK => ?_); go_big_quiet_op; refine hK _ ?_; clear hK K
          refine wpMix_pure (by kernel_rfl) (fun K hK => ?_); go_big_quiet_op; refine hK _ ?_; clear hK K
          refine wpMix_pure (by kernel_rfl) (fun K hK => ?_); go_big_quiet_op; refine hK _ ?_; clear hK K
          refine wpMix_pure (by kernel_rfl) (fun K hK => ?_); go_big_quiet_op; refine hK _ ?_; clear hK K
          refine wpMix_pure (by kernel_rfl) (fun K hK => ?_); go_big_quiet_op; refine hK _ ?_; clear hK K
          refine wpMix_pure (by kernel_rfl) (fun K hK => ?_); go_big_quiet_op; refine hK _ ?_; clear hK K
          refine wpMix_pure (by kernel_rfl) (fun K hK => ?_); go_big_quiet_op; refine hK _ ?_; clear hK K
          refine wpMix_pure (by kernel_rfl) (fun K hK => ?_); go_big_quiet_op; refine hK _ ?_; clear hK K
          refine wpMix_pure (by kernel_rfl) (fun K hK => ?_); go_big_quiet_op; refine hK _ ?_; clear hK K
          refine wpMix_pure (by kernel_rfl) (fun K hK => ?_); go_big_quiet_op; refine hK _ ?_; clear hK K
          refine wpMix_pure (by kernel_rfl) (fun K hK => ?_); go_big_quiet_op; refine hK _ ?_; clear hK K
          by_cases hq14 : ltS xs[m + 1].person xs[m].person = true
          · skip
            have e14 : (!Op.bytesLess xs[m].person.toList xs[m + 1].person.toList && !(xs[m].person.toList == xs[m + 1].person.toList)) = true := by rw [← Bool.not_or, leS_eq, hq14]; rfl
            refine wpMix_pure (by kernel_rfl) (fun K hK => ?_); go_big_quiet_op; refine hK _ ?_; clear hK K
            refine wpMix_pure (by kernel_rfl) (fun K hK => ?_); go_big_quiet_op; refine hK _ ?_; clear hK K
            refine wpMix_skip (by kernel_rfl) (fun K hK => ?_)
            simp only [Act.put, List.setIfInBounds_toArray, List.set_cons_zero, List.set_cons_succ]
            refine hK _ ?_; clear hK K
            refine wpMix_skip (by kernel_rfl) (fun K hK => ?_)
            simp only [Act.put, List.setIfInBounds_toArray, List.set_cons_zero, List.set_cons_succ]
            refine hK _ ?_; clear hK K
            refine wpMix_skip (by kernel_rfl) (fun K hK => ?_)
            simp only [Act.put, List.setIfInBounds_toArray, List.set_cons_zero, List.set_cons_succ]
            refine hK _ ?_; clear hK K
            refine wpMix_skip (by kernel_rfl) (fun K hK => ?_)
            simp only [Act.put, List.setIfInBounds_toArray, List.set_cons_zero, List.set_cons_succ]
            refine hK _ ?_; clear hK K
            refine wpMix_skip (by kernel_rfl) (fun K hK => ?_)
            simp only [Act.put, List.setIfInBounds_toArray, List.set_cons_zero, List.set_cons_succ]
            refine hK _ ?_; clear hK K
            refine wpMix_skip (by kernel_rfl) (fun K hK => ?_)
            simp only [Act.put, List.setIfInBounds_toArray, List.set_cons_zero, List.set_cons_succ]
            refine hK _ ?_; clear hK K
            refine wpMix_skip (by kernel_rfl) (fun K hK => ?_)
            simp only [Act.put, List.setIfInBounds_toArray, List.set_cons_zero, List.set_cons_succ]
            refine hK _ ?_; clear hK K
            refine wpMix_skip (by kernel_rfl) (fun K hK => ?_)
            simp only [Act.put, List.setIfInBounds_toArray, List.set_cons_zero, List.set_cons_succ]
            refine hK _ ?_; clear hK K
            refine wpMix_skip (by kernel_rfl) (fun K hK => ?_)
            simp only [Act.put, List.setIfInBounds_toArray, List.set_cons_zero, List.set_cons_succ]
            refine hK _ ?_; clear hK K
            refine wpMix_skip (by kernel_rfl) (fun K hK => ?_)
            simp only [Act.put, List.setIfInBounds_toArray, List.set_cons_zero, List.set_cons_succ]
            refine hK _ ?_; clear hK K
            refine wpMix_skip (by kernel_rfl) (fun K hK => ?_)
            simp only [Act.put, List.setIfInBounds_toArray, List.set_cons_zero, List.set_cons_succ]
            refine hK _ ?_; clear hK K
            refine wpMix_skip (by kernel_rfl) (fun K hK => ?_)
            simp only [Act.put, List.setIfInBounds_toArray, List.set_cons_zero, List.set_cons_succ]
            refine hK _ ?_; clear hK K
            refine wpMix_skip (by kernel_rfl) (fun K hK => ?_)
            simp only [Act.put, List.setIfInBounds_toArray, List.set_cons_zero, List.set_cons_succ]
            refine hK _ ?_; clear hK K
            refine wpMix_skip (by kernel_rfl) (fun K hK => ?_)
            simp only [Act.put, List.setIfInBounds_toArray, List.set_cons_zero, List.set_cons_succ]
            refine hK _ ?_; clear hK K
            refine wpMix_skip (by kernel_rfl) (fun K hK => ?_)
            simp only [Act.put, List.setIfInBounds_toArray, List.set_cons_zero, List.set_cons_succ]
            refine hK _ ?_; clear hK K
            refine wpMix_skip (by kernel_rfl) (fun K hK => ?_)
            simp only [Act.put, List.setIfInBounds_toArray, List.set_cons_zero, List.set_cons_succ]
            refine hK _ ?_; clear hK K
            refine wpMix_skip (by kernel_rfl) (fun K hK => ?_)
            simp only [Act.put, List.setIfInBounds_toArray, List.set_cons_zero, List.set_cons_succ]
            refine hK _ ?_; clear hK K
            refine wpMix_skip (by kernel_rfl) (fun K hK => ?_)
            simp only [Act.put, List.setIfInBounds_toArray, List.set_cons_zero, List.set_cons_succ]
            refine hK _ ?_; clear hK K
            refine wpMix_skip (by kernel_rfl) (fun K hK => ?_)
            simp only [Act.put, List.setIfInBounds_toArray, List.set_cons_zero, List.set_cons_succ]
            refine hK _ ?_; clear hK K
            refine wpMix_skip (by kernel_rfl) (fun K hK => ?_)
            simp only [Act.put, List.setIfInBounds_toArray, List.set_cons_zero, List.set_cons_succ]
            refine hK _ ?_; clear hK K
            refine wpMix_skip (by kernel_rfl) (fun K hK => ?_)
            simp only [Act.put, List.setIfInBounds_toArray, List.set_cons_zero, List.set_cons_succ]
            refine hK _ ?_; clear hK K
            refine wpMix_skip (by kernel_rfl) (fun K hK => ?_)
            simp only [Act.put, List.setIfInBounds_toArray, List.set_cons_zero, List.set_cons_succ]
            refine hK _ ?_; clear hK K
            refine wpMix_skip (by kernel_rfl) (fun K hK => ?_)
            simp only [Act.put, List.setIfInBounds_toArray, List.set_cons_zero, List.set_cons_succ]
            refine hK _ ?_; clear hK K
            refine wpMix_skip (by kernel_rfl) (fun K hK => ?_)
            simp only [Act.put, List.setIfInBounds_toArray, List.set_cons_zero, List.set_cons_succ]
            refine hK _ ?_; clear hK K
            refine wpMix_skip (by kernel_rfl) (fun K hK => ?_)
            simp only [Act.put, List.setIfInBounds_toArray, List.set_cons_zero, List.set_cons_succ]
            refine hK _ ?_; clear hK K
            refine wpMix_skip (by kernel_rfl) (fun K hK => ?_)
            simp only [Act.put, List.setIfInBounds_toArray, List.set_cons_zero, List.set_cons_succ]
            refine hK _ ?_; clear hK K
            refine wpMix_skip (by kernel_rfl) (fun K hK => ?_)
            simp only [Act.put, List.setIfInBounds_toArray, List.set_cons_zero, List.set_cons_succ]
            refine hK _ ?_; clear hK K
            refine wpMix_skip (by kernel_rfl) (fun K hK => ?_)
            simp only [Act.put, List.setIfInBounds_toArray, List.set_cons_zero, List.set_cons_succ]
            refine hK _ ?_; clear hK K
            refine wpMix_skip (by kernel_rfl) (fun K hK => ?_)
            simp only [Act.put, List.setIfInBounds_toArray, List.set_cons_zero, List.set_cons_succ]
            refine hK _ ?_; clear hK K
            refine wpMix_skip (by kernel_rfl) (fun K hK => ?_)
            simp only [Act.put, List.setIfInBounds_toArray, List.set_cons_zero, List.set_cons_succ]
            refine hK _ ?_; clear hK K
            refine wpMix_skip (by kernel_rfl) (fun K hK => ?_)
            simp only [Act.put, List.setIfInBounds_toArray, List.set_cons_zero, List.set_cons_succ]
            refine hK _ ?_; clear hK K
            refine wpMix_skip (by kernel_rfl) (fun K hK => ?_)
            simp only [Act.put, List.setIfInBounds_toArray, List.set_cons_zero, List.set_cons_succ]
            refine hK _ ?_; clear hK K
            refine wpMix_skip (by kernel_rfl) (fun K hK => ?_)
            simp only [Act.put, List.setIfInBounds_toArray, List.set_cons_zero, List.set_cons_succ]
            refine hK _ ?_; clear hK K
            refine wpMix_pure (by kernel_rfl) (fun K hK => ?_); go_big_quiet_op; refine hK _ ?_; clear hK K
            refine wpMix_pure (by kernel_rfl) (fun K hK => ?_); go_big_quiet_op; refine hK _ ?_; clear hK K
            refine wpMix_nil ?_
            have HZ : Hid (watchOk xs (m + 1) = false) := by show _ = _; rw [watchOk_succ hlt, hone, (watchBef_gt hq14 : watchBef xs[m] xs[m + 1] = false)]; rfl
            go_wp2
            go_ret
            exact ⟨ret_bool (by rw [watchsB_bad hlt HZ.out]), hb.trans ((hW.mono hb.size).trans (hS0.mono (Nat.le_trans hb.size hW.size)))⟩
          · skip
            have e14 : (!Op.bytesLess xs[m].person.toList xs[m + 1].person.toList && !(xs[m].person.toList == xs[m + 1].person.toList)) = false := by rw [← Bool.not_or, leS_eq]; simpa using hq14
            refine wpMix_pure (by kernel_rfl) (fun K hK => ?_); go_big_quiet_op; refine hK _ ?_; clear hK K
            refine wpMix_pure (by kernel_rfl) (fun K hK => ?_); go_big_quiet_op; refine hK _ ?_; clear hK K
            refine wpMix_pure (by kernel_rfl) (fun K hK => ?_); go_big_quiet_op; refine hK _ ?_; clear hK K
            refine wpMix_pure (by kernel_rfl) (fun K hK => ?_); go_big_quiet_op; refine hK _ ?_; clear hK K
            refine wpMix_pure (by kernel_rfl) (fun K hK => ?_); go_big_quiet_op; refine hK _ ?_; clear hK K
            refine wpMix_pure (by kernel_rfl) (fun K hK => ?_); go_big_quiet_op; refine hK _ ?_; clear hK K
            refine wpMix_pure (by kernel_rfl) (fun K hK => ?_); go_big_quiet_op; refine hK _ ?_; clear hK K
            refine wpMix_pure (by kernel_rfl) (fun K hK => ?_); go_big_quiet_op; refine hK _ ?_; clear hK K
            refine wpMix_pure (by kernel_rfl) (fun K hK => ?_); go_big_quiet_op; refine hK _ ?_; clear hK K
            refine wpMix_pure (by kernel_rfl) (fun K hK => ?_); go_big_quiet_op; refine hK _ ?_; clear hK K
            refine wpMix_pure (by kernel_rfl) (fun K hK => ?_); go_big_quiet_op; refine hK _ ?_; clear hK K
            refine wpMix_pure (by kernel_rfl) (fun K hK => ?_); go_big_quiet_op; refine hK _ ?_; clear hK K
            refine wpMix_pure (by kernel_rfl) (fun K hK => ?_); go_big_quiet_op; refine hK _ ?_; clear hK K
            by_cases hq27 : xs[m].person = xs[m + 1].person
            · skip
              have e27 : (xs[m].person.toList == xs[m + 1].person.toList) = true := eqS_true.2 hq27
              refine wpMix_pure (by kernel_rfl) (fun K hK => ?_); go_big_quiet_op; refine hK _ ?_; clear hK K
              refine wpMix_pure (by kernel_rfl) (fun K hK => ?_); go_big_quiet_op; refine hK _ ?_; clear hK K
              refine wpMix_pure (by kernel_rfl) (fun K hK => ?_); go_big_quiet_op; refine hK _ ?_; clear hK K
              refine wpMix_pure (by kernel_rfl) (fun K hK => ?_); go_big_quiet_op; refine hK _ ?_; clear hK K
              refine wpMix_pure (by kernel_rfl) (fun K hK => ?_); go_big_quiet_op; refine hK _ ?_; clear hK K
              refine wpMix_pure (by kernel_rfl) (fun K hK => ?_); go_big_quiet_op; refine hK _ ?_; clear hK K
              refine wpMix_pure (by kernel_rfl) (fun K hK => ?_); go_big_quiet_op; refine hK _ ?_; clear hK K
              refine wpMix_pure (by kernel_rfl) (fun K hK => ?_); go_big_quiet_op; refine hK _ ?_; clear hK K
              refine wpMix_pure (by kernel_rfl) (fun K hK => ?_); go_big_quiet_op; refine hK _ ?_; clear hK K
              refine wpMix_pure (by kernel_rfl) (fun K hK => ?_); go_big_quiet_op; refine hK _ ?_; clear hK K
              refine wpMix_pure (by kernel_rfl) (fun K hK => ?_); go_big_quiet_op; refine hK _ ?_; clear hK K
              refine wpMix_pure (by kernel_rfl) (fun K hK => ?_); go_big_quiet_op; refine hK _ ?_; clear hK K
              refine wpMix_pure (by kernel_rfl) (fun K hK => ?_); go_big_quiet_op; refine hK _ ?_; clear hK K
              refine wpMix_pure (by kernel_rfl) (fun K hK => ?_); go_big_quiet_op; refine hK _ ?_; clear hK K
              refine wpMix_pure (by kernel_rfl) (fun K hK => ?_); go_big_quiet_op; refine hK _ ?_; clear hK K
              refine wpMix_pure (by kernel_rfl) (fun K hK => ?_); go_big_quiet_op; refine hK _ ?_; clear hK K
              refine wpMix_pure (by kernel_rfl) (fun K hK => ?_); go_big_quiet_op; refine hK _ ?_; clear hK K
              refine wpMix_pure (by kernel_rfl) (fun K hK => ?_); go_big_quiet_op; refine hK _ ?_; clear hK K
              refine wpMix_pure (by kernel_rfl) (fun K hK => ?_); go_big_quiet_op; refine hK _ ?_; clear hK K
              refine wpMix_pure (by kernel_rfl) (fun K hK => ?_); go_big_quiet_op; refine hK _ ?_; clear hK K
              by_cases hq47 : xs[m + 1].start < xs[m].start + xs[m].hours
              · skip
                have e47 : decide (xs[m + 1].start < xs[m].start + xs[m].hours) = true := by simpa using hq47
                refine wpMix_pure (by kernel_rfl) (fun K hK => ?_); go_big_quiet_op; refine hK _ ?_; clear hK K
                refine wpMix_pure (by kernel_rfl) (fun K hK => ?_); go_big_quiet_op; refine hK _ ?_; clear hK K
                refine wpMix_pure (by kernel_rfl) (fun K hK => ?_); go_big_quiet_op; refine hK _ ?_; clear hK K
                refine wpMix_pure (by kernel_rfl) (fun K hK => ?_); go_big_quiet_op; refine hK _ ?_; clear hK K
                refine wpMix_nil ?_
                have HZ : Hid (watchOk xs (m + 1) = false) := by show _ = _; rw [watchOk_succ hlt, hone, ((watchBef_eq hq27).trans (decide_eq_false (by omega)) : watchBef xs[m] xs[m + 1] = false)]; rfl
                go_wp2
                go_ret
                exact ⟨ret_bool (by rw [watchsB_bad hlt HZ.out]), hb.trans ((hW.mono hb.size).trans (hS0.mono (Nat.le_trans hb.size hW.size)))⟩
              · skip
                have e47 : decide (xs[m + 1].start < xs[m].start + xs[m].hours) = false := by simpa using hq47
                refine wpMix_pure (by kernel_rfl) (fun K hK => ?_); go_big_quiet_op; refine hK _ ?_; clear hK K
                refine wpMix_pure (by kernel_rfl) (fun K hK => ?_); go_big_quiet_op; refine hK _ ?_; clear hK K
                refine wpMix_pure (by kernel_rfl) (fun K hK => ?_); go_big_quiet_op; refine hK _ ?_; clear hK K
                refine wpMix_pure (by kernel_rfl) (fun K hK => ?_); go_big_quiet_op; refine hK _ ?_; clear hK K
                refine wpMix_nil ?_
                have HZ : Hid (watchOk xs (m + 1) = true) := by show _ = _; rw [watchOk_succ hlt, hone, ((watchBef_eq hq27).trans (decide_eq_true (by omega)) : watchBef xs[m] xs[m + 1] = true)]; rfl
                go_wp2
                go_roundw
                case rel => exact ⟨m + 1 + 1, by omega, by go_num, allIdx_step H0.out HZ.out, hb.trans ((hW.mono hb.size).trans (hS0.mono (Nat.le_trans hb.size hW.size)))⟩
                case measure => simp [intOf]; omega
            · skip
              have e27 : (xs[m].person.toList == xs[m + 1].person.toList) = false := bytes_beq_false hq27
              refine wpMix_pure (by kernel_rfl) (fun K hK => ?_); go_big_quiet_op; refine hK _ ?_; clear hK K
              refine wpMix_pure (by kernel_rfl) (fun K hK => ?_); go_big_quiet_op; refine hK _ ?_; clear hK K
              refine wpMix_skip (by kernel_rfl) (fun K hK => ?_)
              simp only [Act.put, List.setIfInBounds_toArray, List.set_cons_zero, List.set_cons_succ]
              refine hK _ ?_; clear hK K
              refine wpMix_skip (by kernel_rfl) (fun K hK => ?_)
              simp only [Act.put, List.setIfInBounds_toArray, List.set_cons_zero, List.set_cons_succ]
              refine hK _ ?_; clear hK K
              refine wpMix_skip (by kernel_rfl) (fun K hK => ?_)
              simp only [Act.put, List.setIfInBounds_toArray, List.set_cons_zero, List.set_cons_succ]
              refine hK _ ?_; clear hK K
              refine wpMix_skip (by kernel_rfl) (fun K hK => ?_)
              simp only [Act.put, List.setIfInBounds_toArray, List.set_cons_zero, List.set_cons_succ]
              refine hK _ ?_; clear hK K
              refine wpMix_skip (by kernel_rfl) (fun K hK => ?_)
              simp only [Act.put, List.setIfInBounds_toArray, List.set_cons_zero, List.set_cons_succ]
              refine hK _ ?_; clear hK K
              refine wpMix_skip (by kernel_rfl) (fun K hK => ?_)
              simp only [Act.put, List.setIfInBounds_toArray, List.set_cons_zero, List.set_cons_succ]
              refine hK _ ?_; clear hK K
              refine wpMix_skip (by kernel_rfl) (fun K hK => ?_)
              simp only [Act.put, List.setIfInBounds_toArray, List.set_cons_zero, List.set_cons_succ]
              refine hK _ ?_; clear hK K
              refine wpMix_skip (by kernel_rfl) (fun K hK => ?_)
              simp only [Act.put, List.setIfInBounds_toArray, List.set_cons_zero, List.set_cons_succ]
              refine hK _ ?_; clear hK K
              refine wpMix_skip (by kernel_rfl) (fun K hK => ?_)
              simp only [Act.put, List.setIfInBounds_toArray, List.set_cons_zero, List.set_cons_succ]
              refine hK _ ?_; clear hK K
              refine wpMix_skip (by kernel_rfl) (fun K hK => ?_)
              simp only [Act.put, List.setIfInBounds_toArray, List.set_cons_zero, List.set_cons_succ]
              refine hK _ ?_; clear hK K
              refine wpMix_skip (by kernel_rfl) (fun K hK => ?_)
              simp only [Act.put, List.setIfInBounds_toArray, List.set_cons_zero, List.set_cons_succ]
              refine hK _ ?_; clear hK K
              refine wpMix_skip (by kernel_rfl) (fun K hK => ?_)
              simp only [Act.put, List.setIfInBounds_toArray, List.set_cons_zero, List.set_cons_succ]
              refine hK _ ?_; clear hK K
              refine wpMix_skip (by kernel_rfl) (fun K hK => ?_)
              simp only [Act.put, List.setIfInBounds_toArray, List.set_cons_zero, List.set_cons_succ]
              refine hK _ ?_; clear hK K
              refine wpMix_skip (by kernel_rfl) (fun K hK => ?_)
              simp only [Act.put, List.setIfInBounds_toArray, List.set_cons_zero, List.set_cons_succ]
              refine hK _ ?_; clear hK K
              refine wpMix_skip (by kernel_rfl) (fun K hK => ?_)
              simp only [Act.put, List.setIfInBounds_toArray, List.set_cons_zero, List.set_cons_succ]
              refine hK _ ?_; clear hK K
              refine wpMix_skip (by kernel_rfl) (fun K hK => ?_)
              simp only [Act.put, List.setIfInBounds_toArray, List.set_cons_zero, List.set_cons_succ]
              refine hK _ ?_; clear hK K
              refine wpMix_skip (by kernel_rfl) (fun K hK => ?_)
              simp only [Act.put, List.setIfInBounds_toArray, List.set_cons_zero, List.set_cons_succ]
              refine hK _ ?_; clear hK K
              refine wpMix_skip (by kernel_rfl) (fun K hK => ?_)
              simp only [Act.put, List.setIfInBounds_toArray, List.set_cons_zero, List.set_cons_succ]
              refine hK _ ?_; clear hK K
              refine wpMix_skip (by kernel_rfl) (fun K hK => ?_)
              simp only [Act.put, List.setIfInBounds_toArray, List.set_cons_zero, List.set_cons_succ]
              refine hK _ ?_; clear hK K
              refine wpMix_pure (by kernel_rfl) (fun K hK => ?_); go_big_quiet_op; refine hK _ ?_; clear hK K
              refine wpMix_pure (by kernel_rfl) (fun K hK => ?_); go_big_quiet_op; refine hK _ ?_; clear hK K
              refine wpMix_pure (by kernel_rfl) (fun K hK => ?_); go_big_quiet_op; refine hK _ ?_; clear hK K
              refine wpMix_nil ?_
              have HZ : Hid (watchOk xs (m + 1) = true) := by show _ = _; rw [watchOk_succ hlt, hone, (watchBef_lt (by simpa using hq14) hq27 : watchBef xs[m] xs[m + 1] = true)]; rfl
              go_wp2
              go_roundw
              case rel => exact ⟨m + 1 + 1, by omega, by go_num, allIdx_step H0.out HZ.out, hb.trans ((hW.mono hb.size).trans (hS0.mono (Nat.le_trans hb.size hW.size)))⟩
              case measure => simp [intOf]; omega
    · have HF := Lib.hid (allIdx_full (by omega) hk H0.out)
      by_cases hle : xs.length ≤ 32
      all_goals
        go_wp2
        go_ret
        exact ⟨ret_bool (by unfold watchsB; rw [HF.out]; simp [hle] <;> omega), hb⟩
theorem cmpW_bad {a b : DWatch} (h : decide (cmpW a b < 0) = false) (hb : 0 ≤ a.start ∧ a.start ≤ 10000 ∧ 1 ≤ a.hours ∧ a.hours ≤ 48) : watchBef a b = false := by
  by_cases h1 : a.person = b.person
  · rw [cmpW_eq h1] at h
    rw [watchBef_eq h1]
    simp at h ⊢
    omega
  · rw [← cmpW_ne h1]; exact h
set_option maxRecDepth 100000 in
set_option maxHeartbeats 40000000 in
theorem ValidWatches_any (v : Value) (xs : List DWatch) (fp : List Nat) (w : World) (hx : Sl fWatch.cod w v xs fp) :
    Calls Tryz.prog 21 #[v] w fun e w' => e = .returned (.bool (watchsB xs)) ∧ Below w.heap.size w w' := by
  obtain ⟨A, cap, rfl, hlen, hcap⟩ := hx.form
  by_cases hle : xs.length ≤ 32
  · go_enter Tryz.func21, Tryz.ntmps21
    go_wp2
    go_loopw [10] (fun i wr => ∃ k : Nat, k ≤ xs.length ∧ i = .int .i64 k ∧ Hid (allIdx (watchOk xs) k = true) ∧ Below w.heap.size w wr) (fun i _ => xs.length - (intOf i).toNat)
    case atStart => exact ⟨0, Nat.zero_le _, rfl, rfl, Below.refl _ _⟩
    case round =>
      obtain ⟨k, hk, rfl, H0, hb⟩ := hrel
      by_cases hlt : k < xs.length
      · rcases Nat.eq_zero_or_pos k with rfl | hpos
        · skip
          obtain ⟨b, off, rfl, _, hok, hp⟩ := PWatch.elem (hx.below' hb) hlt
          rw [Nat.zero_mul, Nat.add_zero] at hp
          obtain ⟨c0, c1, c2, c3⟩ := id hp
          go_wp2
          refine at_world (fun W => Below wr.heap.size wr W ∧ PWatch W wr.heap.size 0 xs[0]) ⟨(Below.refl _ _).alloc (Nat.le_refl _) _, PWatch.box wr xs[0] _⟩ ?_
          clear c0 c1 c2 c3 hp
          rintro W ⟨hW, hpW⟩
          obtain ⟨c0, c1, c2, c3⟩ := id hpW
          have gc0 := cell_regrown c0
          have gc1 := cell_regrown c1
          have gc2 := cell_regrown c2
          have gc3 := cell_regrown c3
          refine wp_region_mix (C := fun w' => ∃ p : Regrown, w' = Go.Sort.grow (redrawn W p.d) p.os) [true, false, true, true, true, true, true, true, true, true, true, true, true, false, true, true, true] (by kernel_rfl) (by kernel_rfl) (by kernel_rfl) (fun _ _ d _ _ h => by cases d <;> exact h) (regrown_of_below (Below.drew (Below.refl _ _))) ?_
          have hS0 : Below (W.heap.size) W W.drew := Below.drew (Below.refl _ _)
          refine wpMix_pure (by kernel_rfl) (fun K hK => ?_); go_big_quiet_op; refine hK _ ?_; clear hK K
          refine wpMix_act (by kernel_rfl) (fun K hK => ?_)
          go_big_op
          refine (validWatch_any xs[0] _ hok).mono ?_
          rintro e wr1 ⟨rfl, hbr1⟩
          have hbr1S : Below (W.heap.size) W wr1 := hS0.trans (hbr1.mono hS0.size)
          refine hK _ _ (regrown_of_below hbr1S) ?_
          clear hK K
          cases hq1 : watchB xs[0]
          · skip
            refine wpMix_pure (by kernel_rfl) (fun K hK => ?_); go_big_quiet_op; refine hK _ ?_; clear hK K
            refine wpMix_pure (by kernel_rfl) (fun K hK => ?_); go_big_quiet_op; refine hK _ ?_; clear hK K
            refine wpMix_skip (by kernel_rfl) (fun K hK => ?_)
            simp only [Act.put, List.setIfInBounds_toArray, List.set_cons_zero, List.set_cons_succ]
            refine hK _ ?_; clear hK K
            refine wpMix_skip (by kernel_rfl) (fun K hK => ?_)
            simp only [Act.put, List.setIfInBounds_toArray, List.set_cons_zero, List.set_cons_succ]
            refine hK _ ?_; clear hK K
            refine wpMix_skip (by kernel_rfl) (fun K hK => ?_)
            simp only [Act.put, List.setIfInBounds_toArray, List.set_cons_zero, List.set_cons_succ]
            refine hK _ ?_; clear hK K
            refine wpMix_skip (by kernel_rfl) (fun K hK => ?_)
            simp only [Act.put, List.setIfInBounds_toArray, List.set_cons_zero, List.set_cons_succ]
            refine hK _ ?_; clear hK K
            refine wpMix_skip (by kernel_rfl) (fun K hK => ?_)
            simp only [Act.put, List.setIfInBounds_toArray, List.set_cons_zero, List.set_cons_succ]
            refine hK _ ?_; clear hK K
            refine wpMix_skip (by kernel_rfl) (fun K hK => ?_)
            simp only [Act.put, List.setIfInBounds_toArray, List.set_cons_zero, List.set_cons_succ]
            refine hK _ ?_; clear hK K
            refine wpMix_skip (by kernel_rfl) (fun K hK => ?_)
            simp only [Act.put, List.setIfInBounds_toArray, List.set_cons_zero, List.set_cons_succ]
            refine hK _ ?_; clear hK K
            refine wpMix_skip (by kernel_rfl) (fun K hK => ?_)
            simp only [Act.put, List.setIfInBounds_toArray, List.set_cons_zero, List.set_cons_succ]
            refine hK _ ?_; clear hK K
            refine wpMix_skip (by kernel_rfl) (fun K hK => ?_)
            simp only [Act.put, List.setIfInBounds_toArray, List.set_cons_zero, List.set_cons_succ]
            refine hK _ ?_; clear hK K
            refine wpMix_skip (by kernel_rfl) (fun K hK => ?_)
            simp only [Act.put, List.setIfInBounds_toArray, List.set_cons_zero, List.set_cons_succ]
            refine hK _ ?_; clear hK K
            refine wpMix_skip (by kernel_rfl) (fun K hK => ?_)
            simp only [Act.put, List.setIfInBounds_toArray, List.set_cons_zero, List.set_cons_succ]
            refine hK _ ?_; clear hK K
            refine wpMix_skip (by kernel_rfl) (fun K hK => ?_)
            simp only [Act.put, List.setIfInBounds_toArray, List.set_cons_zero, List.set_cons_succ]
            refine hK _ ?_; clear hK K
            refine wpMix_pure (by kernel_rfl) (fun K hK => ?_); go_big_quiet_op; refine hK _ ?_; clear hK K
            refine wpMix_nil ?_
            have HZ : Hid (watchOk xs (0) = false) := by show _ = _; rw [watchOk_zero hlt]; simp [*]
            go_wp2
            go_ret
            exact ⟨ret_bool (by rw [watchsB_bad hlt HZ.out]), hb.trans (hW.trans (hbr1S.mono hW.size) |>.mono hb.size)⟩
          · skip
            refine wpMix_pure (by kernel_rfl) (fun K hK => ?_); go_big_quiet_op; refine hK _ ?_; clear hK K
            refine wpMix_pure (by kernel_rfl) (fun K hK => ?_); go_big_quiet_op; refine hK _ ?_; clear hK K
            refine wpMix_pure (by kernel_rfl) (fun K hK => ?_); go_big_quiet_op; refine hK _ ?_; clear hK K
            refine wpMix_pure (by kernel_rfl) (fun K hK => ?_); go_big_quiet_op; refine hK _ ?_; clear hK K
            refine wpMix_pure (by kernel_rfl) (fun K hK => ?_); go_big_quiet_op; refine hK _ ?_; clear hK K
            refine wpMix_skip (by kernel_rfl) (fun K hK => ?_)
            simp only [Act.put, List.setIfInBounds_toArray, List.set_cons_zero, List.set_cons_succ]
            refine hK _ ?_; clear hK K
            refine wpMix_skip (by kernel_rfl) (fun K hK => ?_)
            simp only [Act.put, List.setIfInBounds_toArray, List.set_cons_zero, List.set_cons_succ]
            refine hK _ ?_; clear hK K
            refine wpMix_skip (by kernel_rfl) (fun K hK => ?_)
            simp only [Act.put, List.setIfInBounds_toArray, List.set_cons_zero, List.set_cons_succ]
            refine hK _ ?_; clear hK K
            refine wpMix_skip (by kernel_rfl) (fun K hK => ?_)
            simp only [Act.put, List.setIfInBounds_toArray, List.set_cons_zero, List.set_cons_succ]
            refine hK _ ?_; clear hK K
            refine wpMix_skip (by kernel_rfl) (fun K hK => ?_)
            simp only [Act.put, List.setIfInBounds_toArray, List.set_cons_zero, List.set_cons_succ]
            refine hK _ ?_; clear hK K
            refine wpMix_skip (by kernel_rfl) (fun K hK => ?_)
            simp only [Act.put, List.setIfInBounds_toArray, List.set_cons_zero, List.set_cons_succ]
            refine hK _ ?_; clear hK K
            refine wpMix_skip (by kernel_rfl) (fun K hK => ?_)
            simp only [Act.put, List.setIfInBounds_toArray, List.set_cons_zero, List.set_cons_succ]
            refine hK _ ?_; clear hK K
            refine wpMix_skip (by kernel_rfl) (fun K hK => ?_)
            simp only [Act.put, List.setIfInBounds_toArray, List.set_cons_zero, List.set_cons_succ]
            refine hK _ ?_; clear hK K
            refine wpMix_pure (by kernel_rfl) (fun K hK => ?_); go_big_quiet_op; refine hK _ ?_; clear hK K
            refine wpMix_pure (by kernel_rfl) (fun K hK => ?_); go_big_quiet_op; refine hK _ ?_; clear hK K
            refine wpMix_nil ?_
            have hone : watchB xs[0] = true := by assumption
            go_wp2
            refine at_world (fun V => Below wr.heap.size wr V ∧ PWatch V wr.heap.size 0 xs[0]) ⟨(hW.trans (hbr1S.mono hW.size)), hpW.below hbr1S hpW.lt⟩ ?_
            clear c0 c1 c2 c3 hpW
            (try clear gc0 gc1 gc2 gc3)
            rintro V ⟨hV, ⟨c0, c1, c2, c3⟩⟩
            have gc0 := cell_regrown c0
            refine wp_region_mixed [0, 1, 2, 3, 4, 5, 6, 7, 8, 9, 10, 11, 12, 13, 14, 15, 16, 17, 18, 20, 21, 19, 22, 23] (C := fun w' => ∃ p : Regrown, w' = Go.Sort.grow (redrawn V p.d) p.os) [true, true, true, true, true, true, true, true, true, true, true, true, true, true, true, true, true, true, true, true, true, false, true, true] (by kernel_rfl) (by kernel_rfl) (by kernel_rfl) (fun _ _ d _ _ h => by cases d <;> exact h) (regrown_of_below (Below.drew (Below.refl _ _))) ?_
            simp only [List.map_cons, List.map_nil, List.getD_cons_zero, List.getD_cons_succ]
            have hS0 : Below (V.heap.size) V V.drew := Below.drew (Below.refl _ _)
            refine wpMix_pure (by kernel_rfl) (fun K hK => ?_); go_big_quiet_op; refine hK _ ?_; clear hK K
            refine wpMix_pure (by kernel_rfl) (fun K hK => ?_); go_big_quiet_op; refine hK _ ?_; clear hK K
            refine wpMix_pure (by kernel_rfl) (fun K hK => ?_); go_big_quiet_op; refine hK _ ?_; clear hK K
            refine wpMix_skip (by kernel_rfl) (fun K hK => ?_)
            simp only [Act.put, List.setIfInBounds_toArray, List.set_cons_zero, List.set_cons_succ]
            refine hK _ ?_; clear hK K
            refine wpMix_skip (by kernel_rfl) (fun K hK => ?_)
            simp only [Act.put, List.setIfInBounds_toArray, List.set_cons_zero, List.set_cons_succ]
            refine hK _ ?_; clear hK K
            refine wpMix_skip (by kernel_rfl) (fun K hK => ?_)
            simp only [Act.put, List.setIfInBounds_toArray, List.set_cons_zero, List.set_cons_succ]
            refine hK _ ?_; clear hK K
            refine wpMix_skip (by kernel_rfl) (fun K hK => ?_)
            simp only [Act.put, List.setIfInBounds_toArray, List.set_cons_zero, List.set_cons_succ]
            refine hK _ ?_; clear hK K
            refine wpMix_skip (by kernel_rfl) (fun K hK => ?_)
            simp only [Act.put, List.setIfInBounds_toArray, List.set_cons_zero, List.set_cons_succ]
            refine hK _ ?_; clear hK K
            refine wpMix_skip (by kernel_rfl) (fun K hK => ?_)
            simp only [Act.put, List.setIfInBounds_toArray, List.set_cons_zero, List.set_cons_succ]
            refine hK _ ?_; clear hK K
            refine wpMix_skip (by kernel_rfl) (fun K hK => ?_)
            simp only [Act.put, List.setIfInBounds_toArray, List.set_cons_zero, List.set_cons_succ]
            refine hK _ ?_; clear hK K
            refine wpMix_skip (by kernel_rfl) (fun K hK => ?_)
            simp only [Act.put, List.setIfInBounds_toArray, List.set_cons_zero, List.set_cons_succ]
            refine hK _ ?_; clear hK K
            refine wpMix_skip (by kernel_rfl) (fun K hK => ?_)
            simp only [Act.put, List.setIfInBounds_toArray, List.set_cons_zero, List.set_cons_succ]
            refine hK _ ?_; clear hK K
            refine wpMix_pure (by kernel_rfl) (fun K hK => ?_); go_big_quiet_op; refine hK _ ?_; clear hK K
            refine wpMix_pure (by kernel_rfl) (fun K hK => ?_); go_big_quiet_op; refine hK _ ?_; clear hK K
            refine wpMix_skip (by kernel_rfl) (fun K hK => ?_)
            simp only [Act.put, List.setIfInBounds_toArray, List.set_cons_zero, List.set_cons_succ]
            refine hK _ ?_; clear hK K
            refine wpMix_skip (by kernel_rfl) (fun K hK => ?_)
            simp only [Act.put, List.setIfInBounds_toArray, List.set_cons_zero, List.set_cons_succ]
            refine hK _ ?_; clear hK K
            refine wpMix_skip (by kernel_rfl) (fun K hK => ?_)
            simp only [Act.put, List.setIfInBounds_toArray, List.set_cons_zero, List.set_cons_succ]
            refine hK _ ?_; clear hK K
            refine wpMix_skip (by kernel_rfl) (fun K hK => ?_)
            simp only [Act.put, List.setIfInBounds_toArray, List.set_cons_zero, List.set_cons_succ]
            refine hK _ ?_; clear hK K
            refine wpMix_skip (by kernel_rfl) (fun K hK => ?_)
            simp only [Act.put, List.setIfInBounds_toArray, List.set_cons_zero, List.set_cons_succ]
            refine hK _ ?_; clear hK K
            refine wpMix_skip (by kernel_rfl) (fun K hK => ?_)
            simp only [Act.put, List.setIfInBounds_toArray, List.set_cons_zero, List.set_cons_succ]
            refine hK _ ?_; clear hK K
            refine wpMix_skip (by kernel_rfl) (fun K hK => ?_)
            simp only [Act.put, List.setIfInBounds_toArray, List.set_cons_zero, List.set_cons_succ]
            refine hK _ ?_; clear hK K
            refine wpMix_skip (by kernel_rfl) (fun K hK => ?_)
            simp only [Act.put, List.setIfInBounds_toArray, List.set_cons_zero, List.set_cons_succ]
            refine hK _ ?_; clear hK K
            refine wpMix_skip (by kernel_rfl) (fun K hK => ?_)
            simp only [Act.put, List.setIfInBounds_toArray, List.set_cons_zero, List.set_cons_succ]
            refine hK _ ?_; clear hK K
            refine wpMix_pure (by kernel_rfl) (fun K hK => ?_); go_big_quiet_op; refine hK _ ?_; clear hK K
            refine wpMix_nil ?_
            go_wp2
            have HZ : Hid (watchOk xs 0 = true) := by show _ = _; rw [watchOk_zero hlt]; exact hone
            go_roundw
            case rel => exact ⟨0 + 1, by omega, by go_num, allIdx_step H0.out HZ.out, hb.trans (hV.trans (hS0.mono hV.size) |>.mono hb.size)⟩
            case measure => simp [intOf]; omega
        · obtain ⟨m, rfl⟩ : ∃ m, k = m + 1 := ⟨k - 1, by omega⟩
          have hm : m < xs.length := by omega
          obtain ⟨b, off, rfl, _, hok, hp⟩ := PWatch.elem (hx.below' hb) hlt
          skip
          obtain ⟨c0, c1, c2, c3⟩ := id hp
          have hbm := watchB_b (watchOk_before H0.out (Nat.lt_succ_self m) hk)
          obtain ⟨b1, off1, hA1, _, hokm, hpm⟩ := PWatch.elem (hx.below' hb) hm
          injection hA1 with hA1
          injection hA1 with hA1 hA2 _
          subst hA1 hA2
          go_wp2
          refine at_world (fun W => Below wr.heap.size wr W ∧ PWatch W wr.heap.size 0 xs[m + 1] ∧ PWatch W b (off + m * 4) xs[m]) ⟨(Below.refl _ _).alloc (Nat.le_refl _) _, PWatch.box wr xs[m + 1] _, hpm.below' ((Below.refl _ _).alloc (Nat.le_refl _) _)⟩ ?_
          clear c0 c1 c2 c3 hpm hp
          rintro W ⟨hW, hpW, hpm⟩
          obtain ⟨c0, c1, c2, c3⟩ := id hpW
          obtain ⟨d0, d1, d2, d3⟩ := id hpm
          have gc0 := cell_regrown c0
          have gc1 := cell_regrown c1
          have gc2 := cell_regrown c2
          have gc3 := cell_regrown c3
          have gd0 := cell_regrown d0
          have gd1 := cell_regrown d1
          have gd2 := cell_regrown d2
          have gd3 := cell_regrown d3
          refine wp_region_mix (C := fun w' => ∃ p : Regrown, w' = Go.Sort.grow (redrawn W p.d) p.os) [true, false, true, true, true, true, true, true, true, true, true, true, true, false, true, true, true] (by kernel_rfl) (by kernel_rfl) (by kernel_rfl) (fun _ _ d _ _ h => by cases d <;> exact h) (regrown_of_below (Below.drew (Below.refl _ _))) ?_
          have hS0 : Below (W.heap.size) W W.drew := Below.drew (Below.refl _ _)
          refine wpMix_pure (by kernel_rfl) (fun K hK => ?_); go_big_quiet_op; refine hK _ ?_; clear hK K
          refine wpMix_act (by kernel_rfl) (fun K hK => ?_)
          go_big_op
          refine (validWatch_any xs[m + 1] _ hok).mono ?_
          rintro e wr1 ⟨rfl, hbr1⟩
          have hbr1S : Below (W.heap.size) W wr1 := hS0.trans (hbr1.mono hS0.size)
          refine hK _ _ (regrown_of_below hbr1S) ?_
          clear hK K
          cases hq1 : watchB xs[m + 1]
          · skip
            refine wpMix_pure (by kernel_rfl) (fun K hK => ?_); go_big_quiet_op; refine hK _ ?_; clear hK K
            refine wpMix_pure (by kernel_rfl) (fun K hK => ?_); go_big_quiet_op; refine hK _ ?_; clear hK K
            refine wpMix_skip (by kernel_rfl) (fun K hK => ?_)
            simp only [Act.put, List.setIfInBounds_toArray, List.set_cons_zero, List.set_cons_succ]
            refine hK _ ?_; clear hK K
            refine wpMix_skip (by kernel_rfl) (fun K hK => ?_)
            simp only [Act.put, List.setIfInBounds_toArray, List.set_cons_zero, List.set_cons_succ]
            refine hK _ ?_; clear hK K
            refine wpMix_skip (by kernel_rfl) (fun K hK => ?_)
            simp only [Act.put, List.setIfInBounds_toArray, List.set_cons_zero, List.set_cons_succ]
            refine hK _ ?_; clear hK K
            refine wpMix_skip (by kernel_rfl) (fun K hK => ?_)
            simp only [Act.put, List.setIfInBounds_toArray, List.set_cons_zero, List.set_cons_succ]
            refine hK _ ?_; clear hK K
            refine wpMix_skip (by kernel_rfl) (fun K hK => ?_)
            simp only [Act.put, List.setIfInBounds_toArray, List.set_cons_zero, List.set_cons_succ]
            refine hK _ ?_; clear hK K
            refine wpMix_skip (by kernel_rfl) (fun K hK => ?_)
            simp only [Act.put, List.setIfInBounds_toArray, List.set_cons_zero, List.set_cons_succ]
            refine hK _ ?_; clear hK K
            refine wpMix_skip (by kernel_rfl) (fun K hK => ?_)
            simp only [Act.put, List.setIfInBounds_toArray, List.set_cons_zero, List.set_cons_succ]
            refine hK _ ?_; clear hK K
            refine wpMix_skip (by kernel_rfl) (fun K hK => ?_)
            simp only [Act.put, List.setIfInBounds_toArray, List.set_cons_zero, List.set_cons_succ]
            refine hK _ ?_; clear hK K
            refine wpMix_skip (by kernel_rfl) (fun K hK => ?_)
            simp only [Act.put, List.setIfInBounds_toArray, List.set_cons_zero, List.set_cons_succ]
            refine hK _ ?_; clear hK K
            refine wpMix_skip (by kernel_rfl) (fun K hK => ?_)
            simp only [Act.put, List.setIfInBounds_toArray, List.set_cons_zero, List.set_cons_succ]
            refine hK _ ?_; clear hK K
            refine wpMix_skip (by kernel_rfl) (fun K hK => ?_)
            simp only [Act.put, List.setIfInBounds_toArray, List.set_cons_zero, List.set_cons_succ]
            refine hK _ ?_; clear hK K
            refine wpMix_skip (by kernel_rfl) (fun K hK => ?_)
            simp only [Act.put, List.setIfInBounds_toArray, List.set_cons_zero, List.set_cons_succ]
            refine hK _ ?_; clear hK K
            refine wpMix_pure (by kernel_rfl) (fun K hK => ?_); go_big_quiet_op; refine hK _ ?_; clear hK K
            refine wpMix_nil ?_
            have HZ : Hid (watchOk xs (m + 1) = false) := by show _ = _; rw [watchOk_succ hlt]; simp [*]
            go_wp2
            go_ret
            exact ⟨ret_bool (by rw [watchsB_bad hlt HZ.out]), hb.trans (hW.trans (hbr1S.mono hW.size) |>.mono hb.size)⟩
          · skip
            refine wpMix_pure (by kernel_rfl) (fun K hK => ?_); go_big_quiet_op; refine hK _ ?_; clear hK K
            refine wpMix_pure (by kernel_rfl) (fun K hK => ?_); go_big_quiet_op; refine hK _ ?_; clear hK K
            refine wpMix_pure (by kernel_rfl) (fun K hK => ?_); go_big_quiet_op; refine hK _ ?_; clear hK K
            refine wpMix_pure (by kernel_rfl) (fun K hK => ?_); go_big_quiet_op; refine hK _ ?_; clear hK K
            refine wpMix_pure (by kernel_rfl) (fun K hK => ?_); go_big_quiet_op; refine hK _ ?_; clear hK K
            refine wpMix_pure (by kernel_rfl) (fun K hK => ?_); go_big_quiet_op; refine hK _ ?_; clear hK K
            refine wpMix_pure (by kernel_rfl) (fun K hK => ?_); go_big_quiet_op; refine hK _ ?_; clear hK K
            refine wpMix_pure (by kernel_rfl) (fun K hK => ?_); go_big_quiet_op; refine hK _ ?_; clear hK K
            refine wpMix_pure (by kernel_rfl) (fun K hK => ?_); go_big_quiet_op; refine hK _ ?_; clear hK K
            refine wpMix_pure (by kernel_rfl) (fun K hK => ?_); go_big_quiet_op; refine hK _ ?_; clear hK K
            refine wpMix_pure (by kernel_rfl) (fun K hK => ?_); go_big_quiet_op; refine hK _ ?_; clear hK K
            refine wpMix_act (by kernel_rfl) (fun K hK => ?_)
            go_big_op
            refine (compareWatches_any _ _ _).mono ?_
            rintro e wr2 ⟨rfl, hbr2⟩
            have hbr2S : Below (W.heap.size) W wr2 := hbr1S.trans (hbr2.mono hbr1S.size)
            refine hK _ _ (regrown_of_below hbr2S) ?_
            clear hK K
            by_cases hq14 : 0 ≤ cmpW xs[m] xs[m + 1]
            · skip
              have HC : Hid (decide (cmpW xs[m] xs[m + 1] < 0) = false) := by show _ = _; simpa using hq14
              have e14 : decide (0 ≤ cmpW xs[m] xs[m + 1]) = true := by simpa using hq14
              refine wpMix_pure (by kernel_rfl) (fun K hK => ?_); go_big_quiet_op; refine hK _ ?_; clear hK K
              refine wpMix_pure (by kernel_rfl) (fun K hK => ?_); go_big_quiet_op; refine hK _ ?_; clear hK K
              refine wpMix_pure (by kernel_rfl) (fun K hK => ?_); go_big_quiet_op; refine hK _ ?_; clear hK K
              refine wpMix_nil ?_
              have hbx := watchB_b (watchOk_before H0.out (Nat.lt_succ_self m) hk)
              have HZ : Hid (watchOk xs (m + 1) = false) := by show _ = _; rw [watchOk_succ hlt, cmpW_bad HC.out hbx, Bool.and_false]
              go_wp2
              go_ret
              exact ⟨ret_bool (by rw [watchsB_bad hlt HZ.out]), hb.trans (hW.trans (hbr2S.mono hW.size) |>.mono hb.size)⟩
            · skip
              have HC : Hid (decide (cmpW xs[m] xs[m + 1] < 0) = true) := by show _ = _; simp; omega
              have e14 : decide (0 ≤ cmpW xs[m] xs[m + 1]) = false := by simpa using hq14
              refine wpMix_pure (by kernel_rfl) (fun K hK => ?_); go_big_quiet_op; refine hK _ ?_; clear hK K
              refine wpMix_pure (by kernel_rfl) (fun K hK => ?_); go_big_quiet_op; refine hK _ ?_; clear hK K
              refine wpMix_pure (by kernel_rfl) (fun K hK => ?_); go_big_quiet_op; refine hK _ ?_; clear hK K
              refine wpMix_nil ?_
              have hone : watchB xs[m + 1] = true := by assumption
              go_wp2
              refine at_world (fun V => Below wr.heap.size wr V ∧ PWatch V wr.heap.size 0 xs[m + 1] ∧ PWatch V b (off + m * 4) xs[m]) ⟨(hW.trans (hbr2S.mono hW.size)), hpW.below hbr2S hpW.lt, hpm.below hbr2S hpm.lt⟩ ?_
              clear c0 c1 c2 c3 d0 d1 d2 d3 hpW hpm
              (try clear gc0 gc1 gc2 gc3 gd0 gd1 gd2 gd3)
              (try clear e14)
              (try clear hq14)
              rintro V ⟨hV, ⟨c0, c1, c2, c3⟩, ⟨d0, d1, d2, d3⟩⟩
              have gc0 := cell_regrown c0
              have gc1 := cell_regrown c1
              have gd0 := cell_regrown d0
              have gd1 := cell_regrown d1
              have gd2 := cell_regrown d2
              have gd3 := cell_regrown d3
              refine wp_region_mixed [0, 1, 2, 3, 4, 5, 6, 7, 8, 9, 10, 11, 12, 13, 14, 15, 16, 17, 18, 20, 21, 19, 22, 23] (C := fun w' => ∃ p : Regrown, w' = Go.Sort.grow (redrawn V p.d) p.os) [true, true, true, true, true, true, true, true, true, true, true, true, true, true, true, true, true, true, true, true, true, false, true, true] (by kernel_rfl) (by kernel_rfl) (by kernel_rfl) (fun _ _ d _ _ h => by cases d <;> exact h) (regrown_of_below (Below.drew (Below.refl _ _))) ?_
              simp only [List.map_cons, List.map_nil, List.getD_cons_zero, List.getD_cons_succ]
              have hS0 : Below (V.heap.size) V V.drew := Below.drew (Below.refl _ _)
              refine wpMix_pure (by kernel_rfl) (fun K hK => ?_); go_big_quiet_op; refine hK _ ?_; clear hK K
              refine wpMix_pure (by kernel_rfl) (fun K hK => ?_); go_big_quiet_op; refine hK _ ?_; clear hK K
              refine wpMix_pure (by kernel_rfl) (fun K hK => ?_); go_big_quiet_op; refine hK _ ?_; clear hK K
              refine wpMix_pure (by kernel_rfl) (fun K hK => ?_); go_big_quiet_op; refine hK _ ?_; clear hK K
              refine wpMix_pure (by kernel_rfl) (fun K hK => ?_); go_big_quiet_op; refine hK _ ?_; clear hK K
              refine wpMix_pure (by kernel_rfl) (fun K hK => ?_); go_big_quiet_op; refine hK _ ?_; clear hK K
              refine wpMix_pure (by kernel_rfl) (fun K hK => ?_); go_big_quiet_op; refine hK _ ?_; clear hK K
              refine wpMix_pure (by kernel_rfl) (fun K hK => ?_); go_big_quiet_op; refine hK _ ?_; clear hK K
              refine wpMix_pure (by kernel_rfl) (fun K hK => ?_); go_big_quiet_op; refine hK _ ?_; clear hK K
              refine wpMix_pure (by kernel_rfl) (fun K hK => ?_); go_big_quiet_op; refine hK _ ?_; clear hK K
              refine wpMix_pure (by kernel_rfl) (fun K hK => ?_); go_big_quiet_op; refine hK _ ?_; clear hK K
              by_cases hq11 : xs[m].person = xs[m + 1].person
              · skip
                have e11 : (xs[m].person.toList == xs[m + 1].person.toList) = true := eqS_true.2 hq11
                have HQ : Hid (xs[m].person = xs[m + 1].person) := hq11
                clear hq11
                refine wpMix_pure (by kernel_rfl) (fun K hK => ?_); go_big_quiet_op; refine hK _ ?_; clear hK K
                refine wpMix_pure (by kernel_rfl) (fun K hK => ?_); go_big_quiet_op; refine hK _ ?_; clear hK K
                refine wpMix_pure (by kernel_rfl) (fun K hK => ?_); go_big_quiet_op; refine hK _ ?_; clear hK K
                refine wpMix_pure (by kernel_rfl) (fun K hK => ?_); go_big_quiet_op; refine hK _ ?_; clear hK K
                refine wpMix_pure (by kernel_rfl) (fun K hK => ?_); go_big_quiet_op; refine hK _ ?_; clear hK K
                refine wpMix_pure (by kernel_rfl) (fun K hK => ?_); go_big_quiet_op; refine hK _ ?_; clear hK K
                refine wpMix_pure (by kernel_rfl) (fun K hK => ?_); go_big_quiet_op; refine hK _ ?_; clear hK K
                refine wpMix_pure (by kernel_rfl) (fun K hK => ?_); go_big_quiet_op; refine hK _ ?_; clear hK K
                refine wpMix_pure (by kernel_rfl) (fun K hK => ?_); go_big_quiet_op; refine hK _ ?_; clear hK K
                refine wpMix_pure (by kernel_rfl) (fun K hK => ?_); go_big_quiet_op; refine hK _ ?_; clear hK K
                refine wpMix_act (by kernel_rfl) (fun K hK => ?_)
                go_big_op
                refine (endW_any xs[m] _ hbm).mono ?_
                rintro e wr1 ⟨rfl, hbr1⟩
                have hbr1S : Below (V.heap.size) V wr1 := hS0.trans (hbr1.mono hS0.size)
                refine hK _ _ (regrown_of_below hbr1S) ?_
                clear hK K
                by_cases hq22 : xs[m + 1].start < xs[m].start + xs[m].hours
                · skip
                  have e22 : decide (xs[m + 1].start < xs[m].start + xs[m].hours) = true := by simpa using hq22
                  refine wpMix_pure (by kernel_rfl) (fun K hK => ?_); go_big_quiet_op; refine hK _ ?_; clear hK K
                  refine wpMix_pure (by kernel_rfl) (fun K hK => ?_); go_big_quiet_op; refine hK _ ?_; clear hK K
                  refine wpMix_nil ?_
                  have HZ : Hid (watchOk xs (m + 1) = false) := by show _ = _; rw [watchOk_succ hlt, hone, ((watchBef_eq HQ.out).trans (decide_eq_false (by omega)) : watchBef xs[m] xs[m + 1] = false)]; rfl
                  go_wp2
                  go_ret
                  exact ⟨ret_bool (by rw [watchsB_bad hlt HZ.out]), hb.trans (hV.trans (hbr1S.mono hV.size) |>.mono hb.size)⟩
                · skip
                  have e22 : decide (xs[m + 1].start < xs[m].start + xs[m].hours) = false := by simpa using hq22
                  refine wpMix_pure (by kernel_rfl) (fun K hK => ?_); go_big_quiet_op; refine hK _ ?_; clear hK K
                  refine wpMix_pure (by kernel_rfl) (fun K hK => ?_); go_big_quiet_op; refine hK _ ?_; clear hK K
                  refine wpMix_nil ?_
                  have HZ : Hid (watchOk xs (m + 1) = true) := by show _ = _; rw [watchOk_succ hlt, hone, ((watchBef_eq HQ.out).trans (decide_eq_true (by omega)) : watchBef xs[m] xs[m + 1] = true)]; rfl
                  go_wp2
                  go_roundw
                  case rel => exact ⟨m + 1 + 1, by omega, by go_num, allIdx_step H0.out HZ.out, hb.trans (hV.trans (hbr1S.mono hV.size) |>.mono hb.size)⟩
                  case measure => simp [intOf]; omega
              · skip
                have e11 : (xs[m].person.toList == xs[m + 1].person.toList) = false := bytes_beq_false hq11
                refine wpMix_pure (by kernel_rfl) (fun K hK => ?_); go_big_quiet_op; refine hK _ ?_; clear hK K
                refine wpMix_pure (by kernel_rfl) (fun K hK => ?_); go_big_quiet_op; refine hK _ ?_; clear hK K
                refine wpMix_pure (by kernel_rfl) (fun K hK => ?_); go_big_quiet_op; refine hK _ ?_; clear hK K
                refine wpMix_skip (by kernel_rfl) (fun K hK => ?_)
                simp only [Act.put, List.setIfInBounds_toArray, List.set_cons_zero, List.set_cons_succ]
                refine hK _ ?_; clear hK K
                refine wpMix_skip (by kernel_rfl) (fun K hK => ?_)
                simp only [Act.put, List.setIfInBounds_toArray, List.set_cons_zero, List.set_cons_succ]
                refine hK _ ?_; clear hK K
                refine wpMix_skip (by kernel_rfl) (fun K hK => ?_)
                simp only [Act.put, List.setIfInBounds_toArray, List.set_cons_zero, List.set_cons_succ]
                refine hK _ ?_; clear hK K
                refine wpMix_skip (by kernel_rfl) (fun K hK => ?_)
                simp only [Act.put, List.setIfInBounds_toArray, List.set_cons_zero, List.set_cons_succ]
                refine hK _ ?_; clear hK K
                refine wpMix_skip (by kernel_rfl) (fun K hK => ?_)
                simp only [Act.put, List.setIfInBounds_toArray, List.set_cons_zero, List.set_cons_succ]
                refine hK _ ?_; clear hK K
                refine wpMix_skip (by kernel_rfl) (fun K hK => ?_)
                simp only [Act.put, List.setIfInBounds_toArray, List.set_cons_zero, List.set_cons_succ]
                refine hK _ ?_; clear hK K
                refine wpMix_skip (by kernel_rfl) (fun K hK => ?_)
                simp only [Act.put, List.setIfInBounds_toArray, List.set_cons_zero, List.set_cons_succ]
                refine hK _ ?_; clear hK K
                refine wpMix_skip (by kernel_rfl) (fun K hK => ?_)
                simp only [Act.put, List.setIfInBounds_toArray, List.set_cons_zero, List.set_cons_succ]
                refine hK _ ?_; clear hK K
                refine wpMix_skip (by kernel_rfl) (fun K hK => ?_)
                simp only [Act.put, List.setIfInBounds_toArray, List.set_cons_zero, List.set_cons_succ]
                refine hK _ ?_; clear hK K
                refine wpMix_pure (by kernel_rfl) (fun K hK => ?_); go_big_quiet_op; refine hK _ ?_; clear hK K
                refine wpMix_nil ?_
                have HZ : Hid (watchOk xs (m + 1) = true) := by show _ = _; rw [watchOk_succ hlt, hone, ((cmpW_ne hq11).symm.trans HC.out : watchBef xs[m] xs[m + 1] = true)]; rfl
                go_wp2
                go_roundw
                case rel => exact ⟨m + 1 + 1, by omega, by go_num, allIdx_step H0.out HZ.out, hb.trans (hV.trans (hS0.mono hV.size) |>.mono hb.size)⟩
                case measure => simp [intOf]; omega
      · have HF := Lib.hid (allIdx_full (by omega) hk H0.out)
        go_wp2
        go_ret
        exact ⟨ret_bool (by unfold watchsB; rw [HF.out]; simp [hle]), hb⟩
  · go_enter Tryz.func21, Tryz.ntmps21
    go_wp2
    go_ret
    exact ⟨ret_bool (by unfold watchsB; simp <;> omega), Below.refl _ _⟩
end Go.Proofs.YtmlconbekkdahaaGreatDoor

namespace Go.Proofs.YtmlconbekkdahaaGreatDoor
open Go.RowKit
set_option linter.unusedVariables false

/-- What a region may leave behind that only adds above base, X kept. -/
structure KeptW (base : Nat) (w : World) (X : World → Prop) where
  v : World
  below : Below base w v
  x : X v
/-- append of one element, as an operation alone. -/
theorem wp_append_at1 {P : Program} (w : World) {o : Oper} {a : Act} {K : Act → World → Prop} {Q : Exit → Act → World → Prop}
    (s x : Operand) (t : TypeId) (ho : o.op = .call { callee := .builtin .append, args := #[s, x], argTypes := #[t, t] })
    (base : Nat) (e : TypeId) (i : TypeInfo) (z : Value) (size bytes : Nat) (ht : P.underlying t = some (.slice e)) (hi : P.info? e = some i) (hz : i.zero = some z)
    (hsize : i.size = size) (hby : i.bytes = bytes) (hzs : z.cells.size = size) (hsz : 0 < size)
    (v : Value) (n : Nat) (xs : List Value) (hs : a.eval s = v) (hown : w.ownsRow base e size v n xs) (us : List Value) (hul : us.length = size) (h1 : ∀ u ∈ us, u.oneCell' = true)
    (ad : Nat) (hx : a.eval x = .slice (some ⟨ad, 0, none⟩) 1 1) (hc : ∀ j u, us[j]? = some u → w.cell? ⟨ad, j, none⟩ = some u) (hn : n ≤ 1000000000) (hb : bytes ≤ 1000) (hbase : base ≤ w.heap.size)
    (h : ∀ v' w', w'.ownsRow base e size v' (n + 1) (xs ++ us) → Below base w w' → w.grownBy w' v.ownBlock → K (a.put o.dst v') w') : o.wp P a w K Q := by
  have hbytes : (n + 1) * bytes ≤ 140737488355328 := by
    have : (n + 1) * bytes ≤ 1000000001 * 1000 := Nat.mul_le_mul (by omega) hb
    omega
  obtain ⟨v', w', hr, h2, h3, h4, h5⟩ := run_append_own_at (P := P) w base t o.type e i z size bytes ht hi hz hsize hby hzs hsz v n xs hown ⟨ad, 0, none⟩ 1 1 us (by omega) (fun j u hj => by
    have e0 : (⟨ad, 0, none⟩ : Addr).add j = ⟨ad, j, none⟩ := by unfold Addr.add; by_cases h0 : j = 0 <;> simp [h0]
    rw [e0]; exact hc j u hj) h1 (by unfold maxLen; omega) hbytes hbase
  have hbw : Below base w w' := (Below.refl base w).grown h3 hbase (fun k hk => (hown.lt k hk).1)
  unfold Oper.wp execOp
  simp only [ho, resolve, invoke, builtin, Sem.run_bind, Sem.run_pure, Result.andThen_ok, List.map_toArray, List.map_cons, List.map_nil, hs, hx, hr]
  exact h v' w' h2 hbw h3
/-- append of one element, as an operation alone, with the block that it went to. -/
theorem wp_append_at2 {P : Program} (w : World) {o : Oper} {a : Act} {K : Act → World → Prop} {Q : Exit → Act → World → Prop}
    (s x : Operand) (t : TypeId) (ho : o.op = .call { callee := .builtin .append, args := #[s, x], argTypes := #[t, t] })
    (base : Nat) (e : TypeId) (i : TypeInfo) (z : Value) (size bytes : Nat) (ht : P.underlying t = some (.slice e)) (hi : P.info? e = some i) (hz : i.zero = some z)
    (hsize : i.size = size) (hby : i.bytes = bytes) (hzs : z.cells.size = size) (hsz : 0 < size)
    (v : Value) (n : Nat) (xs : List Value) (hs : a.eval s = v) (hown : w.ownsRow base e size v n xs) (us : List Value) (hul : us.length = size) (h1 : ∀ u ∈ us, u.oneCell' = true)
    (ad : Nat) (hx : a.eval x = .slice (some ⟨ad, 0, none⟩) 1 1) (hc : ∀ j u, us[j]? = some u → w.cell? ⟨ad, j, none⟩ = some u) (hn : n ≤ 1000000000) (hb : bytes ≤ 1000) (hbase : base ≤ w.heap.size)
    (h : ∀ v' w', w'.ownsRow base e size v' (n + 1) (xs ++ us) → Below base w w' → w.grownBy w' v.ownBlock → (v'.ownBlock = v.ownBlock ∨ v'.ownBlock = some w.heap.size) → K (a.put o.dst v') w') : o.wp P a w K Q := by
  have hbytes : (n + 1) * bytes ≤ 140737488355328 := by
    have : (n + 1) * bytes ≤ 1000000001 * 1000 := Nat.mul_le_mul (by omega) hb
    omega
  obtain ⟨v', w', hr, h2, h3, h4, h5⟩ := run_append_own_at (P := P) w base t o.type e i z size bytes ht hi hz hsize hby hzs hsz v n xs hown ⟨ad, 0, none⟩ 1 1 us (by omega) (fun j u hj => by
    have e0 : (⟨ad, 0, none⟩ : Addr).add j = ⟨ad, j, none⟩ := by unfold Addr.add; by_cases h0 : j = 0 <;> simp [h0]
    rw [e0]; exact hc j u hj) h1 (by unfold maxLen; omega) hbytes hbase
  have hbw : Below base w w' := (Below.refl base w).grown h3 hbase (fun k hk => (hown.lt k hk).1)
  unfold Oper.wp execOp
  simp only [ho, resolve, invoke, builtin, Sem.run_bind, Sem.run_pure, Result.andThen_ok, List.map_toArray, List.map_cons, List.map_nil, hs, hx, hr]
  exact h v' w' h2 hbw h3 h5

theorem run_append_none {P : Program} {w : World} (base : Nat) (t ty e : TypeId) (i : TypeInfo) (size c : Nat) (ht : P.underlying t = some (.slice e)) (hi : P.info? e = some i)
    (v : Value) (n : Nat) (xs : List Value) (hown : w.ownsRow base e size v n xs) :
    (Builtin.append_ #[t, t] ty #[v, .slice none 0 c]).run P w = .ok v w := by
  rcases hown.2 with ⟨rfl, rfl⟩ | ⟨g, cap, cur, rfl, _, _, hnc, _⟩
  · simp [Builtin.append_, run_underlying ht, sizeOf, typeInfo, hi, Builtin.lenOf, Builtin.firstCells]
  · simp [Builtin.append_, run_underlying ht, sizeOf, typeInfo, hi, Builtin.lenOf, Builtin.firstCells, hnc, storeCells]

/-- What may be copied out of a slice value: the list M. -/
def Src {α : Type} (E : Flat α) (w : World) (v : Value) (M : List α) : Prop :=
  ∃ A c, v = .slice A M.length c ∧ (A = none → M = []) ∧ ∀ ad, A = some ad → ∀ (j : Nat) u, (M.flatMap E.enc)[j]? = some u → w.cell? (ad.add j) = some u

theorem addr_add (b off j : Nat) : (⟨b, off, none⟩ : Addr).add j = ⟨b, off + j, none⟩ := by
  unfold Addr.add; by_cases h0 : j = 0 <;> simp [h0]
section
variable {α : Type} {E : Flat α} {w w' : World} {A : Option Addr} {len cap : Nat} {xs : List α} {fp : List Nat}
theorem Sl.src (h : Sl E.cod w (.slice A len cap) xs fp) : Src E w (.slice A len cap) xs := by
  obtain ⟨A', cap', hv, _, _, _⟩ := id h
  injection hv with hA hl hc
  subst hl
  refine ⟨A, cap, rfl, fun hn => ?_, fun ad had j u hu => ?_⟩
  · rcases Nat.eq_zero_or_pos xs.length with h0 | h0
    · exact List.eq_nil_of_length_eq_zero h0
    · obtain ⟨b, off, hA', _⟩ := h.cells h0
      rw [hn] at hA'; cases hA'
  · rcases Nat.eq_zero_or_pos xs.length with h0 | h0
    · rw [List.eq_nil_of_length_eq_zero h0] at hu; simp at hu
    · obtain ⟨b, off, hA', _, _, hc⟩ := h.cells h0
      rw [had] at hA'
      injection hA' with e
      subst e
      have hj : j < (xs.flatMap E.enc).length := by
        rcases Nat.lt_or_ge j (xs.flatMap E.enc).length with h1 | h1
        · exact h1
        · rw [List.getElem?_eq_none h1] at hu; cases hu
      rw [addr_add, (hc j hj).1, hu]
theorem Sl.src_take (h : Sl E.cod w (.slice A len cap) xs fp) {k : Nat} (hk : k ≤ xs.length) {c : Nat} : Src E w (.slice A k c) (xs.take k) := by
  obtain ⟨A', c', hv, h1, h2⟩ := h.src
  injection hv with hA hl hc
  subst hA
  have hlk : (xs.take k).length = k := by simp; omega
  refine ⟨A, c, by rw [hlk], fun hn => by rw [h1 hn]; simp, fun ad had j u hu => h2 ad had j u ?_⟩
  have e : xs.flatMap E.enc = (xs.take k).flatMap E.enc ++ (xs.drop k).flatMap E.enc := by rw [← List.flatMap_append, List.take_append_drop]
  rw [e, List.getElem?_append_left]
  · exact hu
  · rcases Nat.lt_or_ge j ((xs.take k).flatMap E.enc).length with h3 | h3
    · exact h3
    · rw [List.getElem?_eq_none h3] at hu; cases hu
theorem Sl.src_drop {b off : Nat} (h : Sl E.cod w (.slice (some ⟨b, off, none⟩) len cap) xs fp) {k : Nat} (hk : k ≤ xs.length) {c : Nat} : Src E w (.slice (some ⟨b, off + k * E.n, none⟩) (xs.length - k) c) (xs.drop k) := by
  obtain ⟨A', c', hv, h1, h2⟩ := h.src
  injection hv with hA hl hc
  subst hA
  refine ⟨some ⟨b, off + k * E.n, none⟩, c, by simp, fun hn => (by cases hn), fun ad had j u hu => ?_⟩
  obtain rfl : (⟨b, off + k * E.n, none⟩ : Addr) = ad := Option.some.inj had
  have hlt : ((xs.take k).flatMap E.enc).length = k * E.n := by
    rw [flat_len E.enc E.n _ (fun x _ => E.len x)]; simp; rw [Nat.min_eq_left hk]
  have e : xs.flatMap E.enc = (xs.take k).flatMap E.enc ++ (xs.drop k).flatMap E.enc := by rw [← List.flatMap_append, List.take_append_drop]
  have := h2 _ rfl (k * E.n + j) u (by rw [e, List.getElem?_append_right (by omega), hlt]; simpa using hu)
  rw [addr_add] at this ⊢
  rw [← this]; congr 2; omega
theorem Src.empty {A : Option Addr} {c : Nat} : Src E w (.slice A 0 c) ([] : List α) := ⟨A, c, rfl, fun _ => rfl, fun _ _ j u hu => by simp at hu⟩
theorem Src.below {v : Value} (h : Src E w v xs) (hb : ∀ a, (∃ u, w.cell? a = some u) → w'.cell? a = w.cell? a) : Src E w' v xs := by
  obtain ⟨A, c, h1, h2, h3⟩ := h
  exact ⟨A, c, h1, h2, fun ad had j u hu => (hb _ ⟨u, h3 ad had j u hu⟩).trans (h3 ad had j u hu)⟩
theorem Src.belowB {v : Value} (h : Src E w v xs) (hb : Below w.heap.size w w') : Src E w' v xs :=
  h.below fun a ⟨u, hu⟩ => hb.cell (block_lt_of_cell hu)
end

theorem grown_below {base : Nat} {w w' : World} {v : Value} {e : TypeId} {size n : Nat} {xs : List Value} (hown : w.ownsRow base e size v n xs) (hg : w.grownBy w' v.ownBlock) (hb : base ≤ w.heap.size) : Below base w w' :=
  (Below.refl base w).grown hg hb (fun k hk => (hown.lt k hk).1)

/-- append(own, other...) -/
theorem wpList_append_src {α : Type} {E : Flat α} {P : Program} {w : World} {ops : Array Oper} {rest : List Oper} {o : Oper} {a : Act} {Q : Exit → Act → World → Prop} (hgd : o.guard = none) (s x : Operand) (t : TypeId)
    (ho : o.op = .call { callee := .builtin .append, args := #[s, x], argTypes := #[t, t] })
    (base : Nat) (e : TypeId) (i : TypeInfo) (z : Value) (bytes : Nat) (ht : P.underlying t = some (.slice e)) (hi : P.info? e = some i) (hz : i.zero = some z)
    (hsize : i.size = E.n) (hby : i.bytes = bytes) (hzs : z.cells.size = E.n)
    (v : Value) (L : List α) (hs : a.eval s = v) (hown : Own E w base e v L) (v2 : Value) (M : List α) (hx : a.eval x = v2) (hM : Src E w v2 M)
    (hn : L.length + M.length ≤ 1000000000) (hb : bytes ≤ 1000) (hbase : base ≤ w.heap.size)
    (h : ∀ v' w', Own E w' base e v' (L ++ M) → Below base w w' → wpList P ops Q rest (a.put o.dst v') w') : wpList P ops Q (o :: rest) a w := by
  obtain ⟨A, c, rfl, hnone, hnews⟩ := hM
  have hone : ∀ u ∈ M.flatMap E.enc, u.oneCell' = true := fun u hu => by
    obtain ⟨y, _, hy⟩ := List.mem_flatMap.1 hu
    exact E.one y u hy
  cases A with
  | none =>
    have hm := hnone rfl
    subst hm
    refine wpList_plain hgd fun K hK => ?_
    have hrun := run_append_none (P := P) (w := w) base t o.type e i E.n c ht hi v L.length _ hown
    unfold Oper.wp
    simp [execOp, ho, resolve, invoke, builtin, hs, hx, hrun, Result.andThen]
    refine hK _ _ (h v w ?_ (Below.refl _ _))
    rw [List.append_nil]; exact hown
  | some ad =>
    refine wpList_append_own w hgd s x t ho base e i z E.n bytes ht hi hz hsize hby hzs E.pos v L.length _ hs hown ad M.length c (M.flatMap E.enc) hx (flat_len E.enc E.n M (fun x _ => E.len x)) (hnews ad rfl) hone (by unfold maxLen; omega) ?_ hbase ?_
    · have : (L.length + M.length) * bytes ≤ 1000000000 * 1000 := Nat.mul_le_mul hn hb
      omega
    · intro v' w' h2 h3 _
      refine h v' w' ?_ (grown_below hown h3 hbase)
      show w'.ownsRow base e E.n v' (L ++ M).length ((L ++ M).flatMap E.enc)
      rw [List.flatMap_append, List.length_append]
      exact h2

/-- append within the room of an own row, at a single operation. -/
theorem wp_append_fits_ {P : Program} (w : World) {o : Oper} {a : Act} {K : Act → World → Prop} {Q : Exit → Act → World → Prop}
    (s x : Operand) (t : TypeId) (hop : o.op = Op.call { callee := Callee.builtin Builtin.append, args := #[s, x], argTypes := #[t, t] })
    (base : Nat) (e : TypeId) (i : TypeInfo) (size : Nat) (h1 : P.underlying t = some (.slice e)) (h2 : P.info? e = some i) (h4 : i.size = size)
    (g k cap : Nat) (xs : List Value) (hs : a.eval s = .slice (some ⟨g, 0, none⟩) k cap) (hown : w.ownsRow base e size (.slice (some ⟨g, 0, none⟩) k cap) k xs) (ad : Addr) (m c : Nat) (news : List Value) (hx : a.eval x = .slice (some ad) m c) (hn : news.length = m * size)
    (hc : ∀ j u, news[j]? = some u → w.cell? (ad.add j) = some u) (h1c : ∀ u ∈ news, u.oneCell' = true) (b1 : k + m ≤ cap)
    (hK : ∀ w', w'.ownsRow base e size (.slice (some ⟨g, 0, none⟩) (k + m) cap) (k + m) (xs ++ news) → w.grownBy w' (some g) → K (a.put o.dst (.slice (some ⟨g, 0, none⟩) (k + m) cap)) w') :
    o.wp P a w K Q := by
  obtain ⟨w', hrun, r1, r2⟩ := run_append_fits (P := P) w base t o.type e i size h1 h2 h4 g k cap xs hown ad m c news hn hc h1c b1
  unfold Oper.wp
  simp [execOp, hop, resolve, invoke, builtin, hs, hx, hrun, Result.andThen]
  exact hK w' r1 r2
theorem own_beyond {w : World} {base : Nat} {e : TypeId} {size g n cap : Nat} {xs : List Value} (h : w.ownsRow base e size (.slice (some ⟨g, 0, none⟩) n cap) n xs) {p : Nat} (hp : n * size ≤ p) (u : Value) :
    (w.setCell ⟨g, p, none⟩ u).ownsRow base e size (.slice (some ⟨g, 0, none⟩) n cap) n xs := by
  obtain ⟨h1, h2⟩ := h
  refine ⟨h1, ?_⟩
  rcases h2 with ⟨hv, _⟩ | ⟨g', cap', cur, hv, hg, hh, hnc, hcm, hsz, hxs⟩
  · cases hv
  · injection hv with hv1 _ hv2
    injection hv1 with hv1
    injection hv1 with hv1 _ _
    subst hv1 hv2
    refine .inr ⟨g, cap, cur.setIfInBounds p u, rfl, hg, ?_, hnc, hcm, by simpa using hsz, ?_⟩
    · have hl : g < w.heap.size := by
        rcases Nat.lt_or_ge g w.heap.size with hlt | hge
        · exact hlt
        · rw [Array.getElem?_eq_none hge] at hh; cases hh
      simp only [World.setCell]
      rw [Array.getElem?_modify, if_pos rfl, hh]
      rfl
    · rw [Array.toList_setIfInBounds, List.take_set_of_le hp]; exact hxs
theorem own_cell {w : World} {base : Nat} {e : TypeId} {size g n cap : Nat} {xs : List Value} (h : w.ownsRow base e size (.slice (some ⟨g, 0, none⟩) n cap) n xs) {p : Nat} (hp : p < cap * size) :
    (∃ u, w.cell? ⟨g, p, none⟩ = some u) ∧ w.frozen? ⟨g, p, none⟩ = false := by
  obtain ⟨h1, h2⟩ := h
  rcases h2 with ⟨hv, _⟩ | ⟨g', cap', cur, hv, hg, hh, hnc, hcm, hsz, hxs⟩
  · cases hv
  · injection hv with hv1 _ hv2
    injection hv1 with hv1
    injection hv1 with hv1 _ _
    subst hv1 hv2
    refine ⟨⟨cur[p]'(by omega), ?_⟩, ?_⟩
    · simp [World.cell?, hh, hsz, hp]
    · simp [World.frozen?, hh]
theorem own_prefix {w : World} {base : Nat} {e : TypeId} {size g n k cap : Nat} {xs ys : List Value} (h : w.ownsRow base e size (.slice (some ⟨g, 0, none⟩) n cap) n xs) (hk : k ≤ n) (hy : ys.length = k * size) (hp : ys <+: xs) :
    w.ownsRow base e size (.slice (some ⟨g, 0, none⟩) k cap) k ys := by
  obtain ⟨h1, h2⟩ := h
  refine ⟨hy, ?_⟩
  rcases h2 with ⟨hv, _⟩ | ⟨g', cap', cur, hv, hg, hh, hnc, hcm, hsz, hxs⟩
  · cases hv
  · injection hv with hv1 _ hv2
    injection hv1 with hv1
    injection hv1 with hv1 _ _
    subst hv1 hv2
    refine .inr ⟨g, cap, cur, rfl, hg, hh, by omega, hcm, hsz, ?_⟩
    have hle : k * size ≤ n * size := Nat.mul_le_mul_right _ hk
    rw [List.prefix_iff_eq_take] at hp
    rw [hp, ← hxs, List.take_take, hy, Nat.min_eq_left hle]
theorem own_tail {α : Type} {E : Flat α} {w : World} {base : Nat} {e : TypeId} {g n cap : Nat} {xs : List α} (h : w.ownsRow base e E.n (.slice (some ⟨g, 0, none⟩) n cap) n (xs.flatMap E.enc)) {k : Nat} (hk : k ≤ xs.length) :
    ∀ (j : Nat) u, ((xs.drop k).flatMap E.enc)[j]? = some u → w.cell? ⟨g, k * E.n + j, none⟩ = some u := by
  intro j u hu
  have hlt : ((xs.take k).flatMap E.enc).length = k * E.n := by
    rw [flat_len E.enc E.n _ (fun x _ => E.len x)]; simp; rw [Nat.min_eq_left hk]
  have e2 : xs.flatMap E.enc = (xs.take k).flatMap E.enc ++ (xs.drop k).flatMap E.enc := by rw [← List.flatMap_append, List.take_append_drop]
  have h3 : (xs.flatMap E.enc)[k * E.n + j]? = some u := by rw [e2, List.getElem?_append_right (by omega), hlt]; simpa using hu
  have h4 : k * E.n + j < n * E.n := by
    have := h.1
    rw [← this]
    rcases Nat.lt_or_ge (k * E.n + j) (xs.flatMap E.enc).length with h5 | h5
    · exact h5
    · rw [List.getElem?_eq_none h5] at h3; cases h3
  rw [h.cellAt (k * E.n + j) h4]; exact h3
end Go.Proofs.YtmlconbekkdahaaGreatDoor

namespace Go.Proofs.YtmlconbekkdahaaGreatDoor
open Go.RowKit
set_option linter.unusedVariables false

theorem run_copy_rowN {P : Program} (w : World) (dT sT ty elem : TypeId) (N g o dLen dCap : Nat) (a : Addr) (sLen sCap : Nat) (cur : Array Value) (t : TypeId) (cs : List Value)
    (hu : P.underlying dT = some (.slice elem)) (hs : (P.info? elem).map (·.size) = some N)
    (hg : w.heap[g]? = some (.cells cur t (0, 0))) (m : Nat) (hm : m = Nat.min sLen dLen) (hn : cs.length = m * N)
    (hsrc : ∀ j v, cs[j]? = some v → w.cell? (a.add j) = some v) (hfit : o + cs.length ≤ cur.size) (h1 : ∀ v ∈ cs, v.oneCell' = true) :
    (Builtin.copy_ #[dT, sT] ty #[.slice (some ⟨g, o, none⟩) dLen dCap, .slice (some a) sLen sCap]).run P w =
      .ok (goInt m) (w.setRow g (cur.toList.take o ++ cs ++ cur.toList.drop (o + cs.length)).toArray) := by
  have hl := run_loadCells_list (P := P) w a cs hsrc
  have hst := run_storeCells_at P g o t cs 0 cur w hg (by simpa using hfit) h1
  cases hq : P.info? elem with
  | none => simp [hq] at hs
  | some i =>
    have hi : i.size = N := by simpa [hq] using hs
    subst hm
    simp [Builtin.copy_, run_underlying hu, Builtin.lenOf, Builtin.firstCells, sizeOf, typeInfo, hq, hi, ← hn, hl, hst]

/-- copy at a single operation: the row behind it is a splice. -/
theorem wp_copy_at {P : Program} {w : World} {o : Oper} {a : Act} {K : Act → World → Prop} {Q : Exit → Act → World → Prop} (d s : Operand) (dT sT : TypeId)
    (ho : o.op = .call { callee := .builtin .copy, args := #[d, s], argTypes := #[dT, sT] }) (elem : TypeId) (hu : P.underlying dT = some (.slice elem)) (N : Nat) (hsz : (P.info? elem).map (·.size) = some N)
    (g off dLen dCap : Nat) (ad : Addr) (sLen sCap : Nat) (hd : a.eval d = .slice (some ⟨g, off, none⟩) dLen dCap) (hs : a.eval s = .slice (some ad) sLen sCap)
    (cur : List Value) (t : TypeId) (hg : w.heap[g]? = some (.cells cur.toArray t (0, 0))) (cs : List Value) (m : Nat) (hm : m = Nat.min sLen dLen) (hn : cs.length = m * N)
    (hsrc : ∀ j v, cs[j]? = some v → w.cell? (ad.add j) = some v) (hfit : off + cs.length ≤ cur.length) (h1 : ∀ v ∈ cs, v.oneCell' = true)
    (h : ∀ w', w'.heap[g]? = some (.cells (splice cur off cs).toArray t (0, 0)) → (∀ k, k ≠ g → w'.heap[k]? = w.heap[k]?) → Below g w w' → K (a.put o.dst (goInt m)) w') : o.wp P a w K Q := by
  have hrun := run_copy_rowN (P := P) w dT sT o.type elem N g off dLen dCap ad sLen sCap cur.toArray t cs hu hsz hg m hm hn hsrc (by simpa using hfit) h1
  unfold Oper.wp
  simp [execOp, ho, resolve, invoke, builtin, hd, hs, hrun, Result.andThen]
  refine h _ ?_ (fun k hk => setRow_other w g k _ hk) (below_setRow (Below.refl _ _) (Nat.le_refl _) _)
  simpa [splice] using setRow_heap w g _ _ t _ hg
theorem wpList_copy_at {P : Program} {w : World} {ops : Array Oper} {rest : List Oper} {o : Oper} {a : Act} {Q : Exit → Act → World → Prop} (hgd : o.guard = none) (d s : Operand) (dT sT : TypeId)
    (ho : o.op = .call { callee := .builtin .copy, args := #[d, s], argTypes := #[dT, sT] }) (elem : TypeId) (hu : P.underlying dT = some (.slice elem)) (N : Nat) (hsz : (P.info? elem).map (·.size) = some N)
    (g off dLen dCap : Nat) (ad : Addr) (sLen sCap : Nat) (hd : a.eval d = .slice (some ⟨g, off, none⟩) dLen dCap) (hs : a.eval s = .slice (some ad) sLen sCap)
    (cur : List Value) (t : TypeId) (hg : w.heap[g]? = some (.cells cur.toArray t (0, 0))) (cs : List Value) (m : Nat) (hm : m = Nat.min sLen dLen) (hn : cs.length = m * N)
    (hsrc : ∀ j v, cs[j]? = some v → w.cell? (ad.add j) = some v) (hfit : off + cs.length ≤ cur.length) (h1 : ∀ v ∈ cs, v.oneCell' = true)
    (h : ∀ w', w'.heap[g]? = some (.cells (splice cur off cs).toArray t (0, 0)) → (∀ k, k ≠ g → w'.heap[k]? = w.heap[k]?) → Below g w w' → wpList P ops Q rest (a.put o.dst (goInt m)) w') : wpList P ops Q (o :: rest) a w :=
  wpList_plain hgd fun _ hK => wp_copy_at d s dT sT ho elem hu N hsz g off dLen dCap ad sLen sCap hd hs cur t hg cs m hm hn hsrc hfit h1 fun w' a1 a2 a3 => hK _ _ (h w' a1 a2 a3)

/-- A row of the call's own, as its block stands. -/
theorem own_row {w : World} {base : Nat} {e : TypeId} {size g n cap : Nat} {xs : List Value} (h : w.ownsRow base e size (.slice (some ⟨g, 0, none⟩) n cap) n xs) :
    ∃ cur : List Value, w.heap[g]? = some (.cells cur.toArray e (0, 0)) ∧ cur.length = cap * size ∧ cur.take (n * size) = xs ∧ n ≤ cap ∧ cap ≤ maxLen ∧ base ≤ g := by
  obtain ⟨h1, h2⟩ := h
  rcases h2 with ⟨hv, _⟩ | ⟨g', cap', cur, hv, hg, hh, hnc, hcm, hsz, hxs⟩
  · cases hv
  · injection hv with hv1 _ hv2
    injection hv1 with hv1
    injection hv1 with hv1 _ _
    subst hv1 hv2
    exact ⟨cur.toList, by simpa using hh, by simpa using hsz, hxs, hnc, hcm, hg⟩
theorem own_of_row {w : World} {base : Nat} {e : TypeId} {size g n cap : Nat} {xs cur : List Value} (hh : w.heap[g]? = some (.cells cur.toArray e (0, 0))) (hb : base ≤ g) (hnc : n ≤ cap) (hcm : cap ≤ maxLen) (hsz : cur.length = cap * size) (hxs : cur.take (n * size) = xs) :
    w.ownsRow base e size (.slice (some ⟨g, 0, none⟩) n cap) n xs := by
  refine ⟨?_, .inr ⟨g, cap, cur.toArray, rfl, hb, hh, hnc, hcm, by simpa using hsz, by simpa using hxs⟩⟩
  rw [← hxs, List.length_take, hsz, Nat.min_eq_left (Nat.mul_le_mul_right _ hnc)]
theorem row_cell {w : World} {g : Nat} {e : TypeId} {cur : List Value} (hh : w.heap[g]? = some (.cells cur.toArray e (0, 0))) (j : Nat) : w.cell? ⟨g, j, none⟩ = cur[j]? := by
  simp [World.cell?, hh]
/-- Put in within the room: what stands behind is moved first. -/
theorem splice_shift {cur A t B : List Value} {p q r : Nat} (hc : cur.take (p + q) = A ++ B) (hA : A.length = p) (hB : B.length = q) (ht : t.length = r) (hl : p + r + q ≤ cur.length) :
    (splice (splice cur (p + r) B) p t).take (p + r + q) = A ++ (t ++ B) := by
  have hpA : cur.take p = A := by
    have := congrArg (List.take p) hc
    rw [List.take_take, Nat.min_eq_left (by omega), List.take_append_of_le_length (by omega), ← hA, List.take_length] at this
    rw [hA] at this; exact this
  have e1 : splice cur (p + r) B = cur.take (p + r) ++ (B ++ cur.drop (p + r + q)) := by rw [splice, hB]
  have hl1 : (cur.take (p + r)).length = p + r := by rw [List.length_take]; omega
  have e2 : (cur.take (p + r) ++ (B ++ cur.drop (p + r + q))).take p = A := by
    rw [List.take_append_of_le_length (by omega), List.take_take, Nat.min_eq_left (by omega), hpA]
  have e3 : (cur.take (p + r) ++ (B ++ cur.drop (p + r + q))).drop (p + r) = B ++ cur.drop (p + r + q) := by
    rw [List.drop_append_of_le_length (by omega), List.drop_of_length_le (by omega), List.nil_append]
  rw [e1, splice, ht, e2, e3, ← List.append_assoc, ← List.append_assoc, List.take_append_of_le_length (by simp; omega), List.take_of_length_le (by simp; omega), List.append_assoc]
/-- Put in into a new row: the element, then what stands behind. -/
theorem splice_fill {cur A t B : List Value} {p q r : Nat} (hc : cur.take p = A) (hA : A.length = p) (hB : B.length = q) (ht : t.length = r) (hl : p + r + q ≤ cur.length) :
    (splice (splice cur p t) (p + r) B).take (p + r + q) = A ++ (t ++ B) := by
  have e1 : splice cur p t = A ++ (t ++ cur.drop (p + r)) := by rw [splice, ht, hc]
  have e2 : (A ++ (t ++ cur.drop (p + r))).take (p + r) = A ++ t := by
    rw [← List.append_assoc, List.take_append_of_le_length (by simp; omega), List.take_of_length_le (by simp; omega)]
  rw [e1, splice, e2, ← List.append_assoc, List.take_append_of_le_length (by simp; omega), List.take_of_length_le (by simp; omega), List.append_assoc]
end Go.Proofs.YtmlconbekkdahaaGreatDoor

namespace Go.Proofs.YtmlconbekkdahaaGreatDoor
open Go.RowKit
set_option linter.unusedVariables false

/-- A row of the call's own that holds the list. -/
def OwnK {α : Type} (E : Flat α) (T : TypeId) (w : World) (xs : List α) (e : Ending) (w' : World) : Prop := ∃ v, e = .returned v ∧ Own E w' w.heap.size T v xs ∧ Below w.heap.size w w'
theorem rowp_ {cur A B : List Value} {n p j : Nat} {u : Value} (hct : cur.take n = A ++ B) (hA : A.length = p) (hu : B[j]? = some u) : cur[p + j]? = some u := by
  have hj : p + j < n := by
    have h1 : (A ++ B).length ≤ n := by rw [← hct, List.length_take]; omega
    rw [List.length_append] at h1
    have h2 : j < B.length := by
      rcases Nat.lt_or_ge j B.length with h | h
      · exact h
      · rw [List.getElem?_eq_none h] at hu; cases hu
    omega
  have h := congrArg (fun l : List Value => l[p + j]?) hct
  simp only [List.getElem?_take, if_pos hj] at h
  rw [h, List.getElem?_append_right (by omega), hA, Nat.add_sub_cancel_left]
  exact hu
theorem arr3_ (A : List Value) (X Y : Array Value) : (A ++ (X.toList ++ Y.toList)).toArray = A.toArray ++ X ++ Y := by
  apply Array.ext'; simp
theorem rowh_ {cur A B : List Value} {n j : Nat} {u : Value} (hct : cur.take n = A ++ B) (hu : A[j]? = some u) : cur[j]? = some u := by
  have h2 : j < A.length := by
    rcases Nat.lt_or_ge j A.length with h | h
    · exact h
    · rw [List.getElem?_eq_none h] at hu; cases hu
  have hj : j < n := by
    have h1 : (A ++ B).length ≤ n := by rw [← hct, List.length_take]; omega
    rw [List.length_append] at h1
    omega
  have h := congrArg (fun l : List Value => l[j]?) hct
  simp only [List.getElem?_take, if_pos hj] at h
  rw [h, List.getElem?_append_left h2]
  exact hu
theorem ownM_ {w : World} {base base' : Nat} {e : TypeId} {size : Nat} {v : Value} {n : Nat} {xs : List Value} (h : w.ownsRow base e size v n xs) (hb : base' ≤ base) : w.ownsRow base' e size v n xs := by
  obtain ⟨h1, h2⟩ := h
  refine ⟨h1, ?_⟩
  rcases h2 with h2 | ⟨g, cap, cur, hv, hg, r⟩
  · exact .inl h2
  · exact .inr ⟨g, cap, cur, hv, by omega, r⟩
theorem ownO_ {w : World} {base : Nat} {e : TypeId} {size : Nat} {v : Value} {n : Nat} {xs : List Value} (h : w.ownsRow base e size v n xs) (hn : 0 < n) :
    ∃ g cap, v = .slice (some ⟨g, 0, none⟩) n cap ∧ base ≤ g ∧ g < w.heap.size ∧ n ≤ cap ∧ cap ≤ 9223372036854775807 := by
  obtain ⟨h1, h2⟩ := h
  rcases h2 with ⟨_, h0⟩ | ⟨g, cap, cur, hv, hg, hh, hnc, hcm, _, _⟩
  · omega
  · refine ⟨g, cap, hv, hg, ?_, hnc, by unfold maxLen at hcm; exact hcm⟩
    rcases Nat.lt_or_ge g w.heap.size with hlt | hge
    · exact hlt
    · rw [Array.getElem?_eq_none hge] at hh; cases hh
/-- How many stand ahead. -/
def posF {α : Type} (p : α → Bool) (xs : List α) : Nat := (xs.takeWhile p).length
theorem posF_is {α : Type} (p : α → Bool) (xs : List α) (k : Nat) (hk : k ≤ xs.length) (h1 : ∀ m (h : m < xs.length), m < k → p xs[m] = true) (h2 : ∀ h : k < xs.length, p xs[k] = false) : posF p xs = k := by
  unfold posF
  induction xs generalizing k with
  | nil => simp at hk; subst hk; rfl
  | cons x xs ih =>
    cases k with
    | zero =>
      have := h2 (by simp)
      rw [List.takeWhile_cons, show p x = false from this]; rfl
    | succ k =>
      have h3 : p x = true := h1 0 (by simp) (by omega)
      rw [List.takeWhile_cons, h3, if_pos rfl, List.length_cons]
      congr 1
      refine ih k (by simpa using hk) (fun m h hm => ?_) (fun h => ?_)
      · have := h1 (m + 1) (by simpa using h) (by omega); simpa using this
      · have := h2 (by simpa using h); simpa using this
theorem posF_le {α : Type} (p : α → Bool) (xs : List α) : posF p xs ≤ xs.length := by
  unfold posF
  exact (List.takeWhile_prefix p).length_le
end Go.Proofs.YtmlconbekkdahaaGreatDoor

namespace Go.Proofs.YtmlconbekkdahaaGreatDoor
open Go.RowKit
set_option linter.unusedVariables false

def atWatch (xs : List DWatch) (t : DWatch) : Nat := posF (fun y => decide (cmpW y t < 0)) xs
def hasWatch (xs : List DWatch) (t : DWatch) : Bool := match xs[atWatch xs t]? with | some y => cmpW y t == 0 | none => false
set_option maxRecDepth 100000 in
set_option maxHeartbeats 4000000 in
theorem bsearchWatch_any (v : Value) (xs : List DWatch) (fp : List Nat) (t : DWatch) (w : World) (hx : Sl fWatch.cod w v xs fp) (hor : ∀ (a b : Nat) (hab : a ≤ b) (hb : b < xs.length), cmpW xs[b] t < 0 → cmpW (xs[a]'(by omega)) t < 0) (hl : xs.length ≤ 1000000) :
    Calls Tryz.prog 23 #[v, .agg #[.string t.person, .int .i64 t.start, .int .i64 t.hours, .bool t.onCall], .func (.func 24) #[] #[]] w fun e w' => e = .returned (.tuple #[.int .i64 (atWatch xs t), .bool (hasWatch xs t)]) ∧ Below w.heap.size w w' := by
  obtain ⟨A, cap, rfl, hlen, hcap⟩ := hx.form
  have hpt := PWatch.box w t 26
  go_enter Tryz.func23, Tryz.ntmps23
  go_wp2
  refine at_world (fun W => Below w.heap.size w W ∧ PWatch W w.heap.size 0 t) ⟨(by repeat (first | exact Below.refl _ _ | assumption | refine Below.alloc ?_ (by first | omega | (simp <;> omega)) _ | refine Below.setCell ?_ (by first | (show _ ≤ _; omega) | (simp <;> omega)) _ | refine Below.drew ?_ | refine below_drewN ?_ _)), hpt⟩ ?_
  clear hpt
  rintro W0 ⟨hW0, hpt⟩
  go_loopw [9, 10] (fun i j wr => ∃ a b : Nat, a ≤ b ∧ b ≤ xs.length ∧ i = .int .i64 a ∧ j = .int .i64 b ∧ Hid (∀ m (h : m < xs.length), m < a → cmpW xs[m] t < 0) ∧ Hid (∀ m (h : m < xs.length), b ≤ m → 0 ≤ cmpW xs[m] t) ∧ Below w.heap.size w wr ∧ PWatch wr w.heap.size 0 t) (fun i j _ => (intOf j).toNat - (intOf i).toNat)
  case atStart => exact ⟨0, xs.length, Nat.zero_le _, Nat.le_refl _, rfl, rfl, fun m _ h => absurd h (Nat.not_lt_zero _), fun m h1 h2 => absurd h1 (by omega), hW0, hpt⟩
  case round =>
    obtain ⟨a, b, hab, hbn, rfl, rfl, HA, HB, hb, hp⟩ := hrel
    clear hpt hW0
    by_cases hlt : a < b
    · obtain ⟨m, hm⟩ : ∃ m, m = (a + b) / 2 := ⟨_, rfl⟩
      have em : ((a : Int) + (b : Int)) / 2 = (m : Int) := by omega
      have hmn : m < xs.length := by omega
      have hmb : m < b := by omega
      have ham : a ≤ m := by omega
      clear hm
      obtain ⟨b1, off, rfl, _, hok, hpm⟩ := PWatch.elem (hx.below' hb) hmn
      obtain ⟨c0, c1, c2, c3⟩ := id hpm
      obtain ⟨d0, d1, d2, d3⟩ := id hp
      by_cases hq : cmpW xs[m] t < 0
      · have e14 : decide (cmpW xs[m] t < 0) = true := decide_eq_true hq
        go_wp2
        have gc0 := cell_regrown c0
        have gc1 := cell_regrown c1
        have gc2 := cell_regrown c2
        have gc3 := cell_regrown c3
        have gd0 := cell_regrown d0
        have gd1 := cell_regrown d1
        have gd2 := cell_regrown d2
        have gd3 := cell_regrown d3
        refine wp_region_mix (C := fun w' => ∃ p : Regrown, w' = Go.Sort.grow (redrawn wr p.d) p.os) [true, true, true, true, true, true, false, true] (by kernel_rfl) (by kernel_rfl) (by kernel_rfl) (fun _ _ d _ _ h => by cases d <;> exact h) (regrown_of_below (Below.drew (Below.refl _ _))) ?_
        have hS0 : Below (wr.heap.size) wr wr.drew := Below.drew (Below.refl _ _)
        refine wpMix_pure (by kernel_rfl) (fun K hK => ?_); go_big_quiet_op; refine hK _ ?_; clear hK K
        refine wpMix_pure (by kernel_rfl) (fun K hK => ?_); go_big_quiet_op; refine hK _ ?_; clear hK K
        refine wpMix_pure (by kernel_rfl) (fun K hK => ?_); go_big_quiet_op; refine hK _ ?_; clear hK K
        refine wpMix_pure (by kernel_rfl) (fun K hK => ?_); go_big_quiet_op; refine hK _ ?_; clear hK K
        refine wpMix_pure (by kernel_rfl) (fun K hK => ?_); go_big_quiet_op; refine hK _ ?_; clear hK K
        refine wpMix_pure (by kernel_rfl) (fun K hK => ?_); go_big_quiet_op; refine hK _ ?_; clear hK K
        refine wpMix_act (by kernel_rfl) (fun K hK => ?_)
        go_big_op
        refine (compareWatches_any _ _ _).mono ?_
        rintro e wr1 ⟨rfl, hbr1⟩
        have hbr1S : Below (wr.heap.size) wr wr1 := hS0.trans (hbr1.mono hS0.size)
        refine hK _ _ (regrown_of_below hbr1S) ?_
        clear hK K
        refine wpMix_pure (by kernel_rfl) (fun K hK => ?_); go_big_quiet_op; refine hK _ ?_; clear hK K
        refine wpMix_nil ?_
        have HA2 : Hid (∀ i (h : i < xs.length), i < m + 1 → cmpW xs[i] t < 0) := fun i h him => hor i m (by omega) hmn hq
        clear HA hq
        go_wp2
        go_roundw
        case rel => exact ⟨m + 1, b, by omega, hbn, by go_num, rfl, HA2, HB, hb.trans (hbr1S.mono hb.size), hp.below' hbr1S⟩
        case measure => simp [intOf]; omega
      · have e14 : decide (cmpW xs[m] t < 0) = false := decide_eq_false hq
        go_wp2
        have gc0 := cell_regrown c0
        have gc1 := cell_regrown c1
        have gc2 := cell_regrown c2
        have gc3 := cell_regrown c3
        have gd0 := cell_regrown d0
        have gd1 := cell_regrown d1
        have gd2 := cell_regrown d2
        have gd3 := cell_regrown d3
        refine wp_region_mix (C := fun w' => ∃ p : Regrown, w' = Go.Sort.grow (redrawn wr p.d) p.os) [true, true, true, true, true, true, false, true] (by kernel_rfl) (by kernel_rfl) (by kernel_rfl) (fun _ _ d _ _ h => by cases d <;> exact h) (regrown_of_below (Below.drew (Below.refl _ _))) ?_
        have hS0 : Below (wr.heap.size) wr wr.drew := Below.drew (Below.refl _ _)
        refine wpMix_pure (by kernel_rfl) (fun K hK => ?_); go_big_quiet_op; refine hK _ ?_; clear hK K
        refine wpMix_pure (by kernel_rfl) (fun K hK => ?_); go_big_quiet_op; refine hK _ ?_; clear hK K
        refine wpMix_pure (by kernel_rfl) (fun K hK => ?_); go_big_quiet_op; refine hK _ ?_; clear hK K
        refine wpMix_pure (by kernel_rfl) (fun K hK => ?_); go_big_quiet_op; refine hK _ ?_; clear hK K
        refine wpMix_pure (by kernel_rfl) (fun K hK => ?_); go_big_quiet_op; refine hK _ ?_; clear hK K
        refine wpMix_pure (by kernel_rfl) (fun K hK => ?_); go_big_quiet_op; refine hK _ ?_; clear hK K
        refine wpMix_act (by kernel_rfl) (fun K hK => ?_)
        go_big_op
        refine (compareWatches_any _ _ _).mono ?_
        rintro e wr1 ⟨rfl, hbr1⟩
        have hbr1S : Below (wr.heap.size) wr wr1 := hS0.trans (hbr1.mono hS0.size)
        refine hK _ _ (regrown_of_below hbr1S) ?_
        clear hK K
        refine wpMix_pure (by kernel_rfl) (fun K hK => ?_); go_big_quiet_op; refine hK _ ?_; clear hK K
        refine wpMix_nil ?_
        have HB2 : Hid (∀ i (h : i < xs.length), m ≤ i → 0 ≤ cmpW xs[i] t) := fun i h him => by rcases Int.lt_or_le (cmpW xs[i] t) 0 with hc | hc; exact absurd (hor m i him h hc) (by omega); exact hc
        clear HB hq
        go_wp2
        go_roundw
        case rel => exact ⟨a, m, ham, by omega, rfl, by go_num, HA, HB2, hb.trans (hbr1S.mono hb.size), hp.below' hbr1S⟩
        case measure => simp [intOf]; omega
    · obtain rfl : b = a := by omega
      have HAT : Hid (atWatch xs t = b) := posF_is _ xs b hbn (fun m h1 h2 => decide_eq_true (HA.out m h1 h2)) (fun h => decide_eq_false (by have := HB.out b h (Nat.le_refl _); omega))
      obtain ⟨d0, d1, d2, d3⟩ := id hp
      by_cases hlt2 : b < xs.length
      · obtain ⟨b1, off, rfl, _, hok, hpm⟩ := PWatch.elem (hx.below' hb) hlt2
        obtain ⟨c0, c1, c2, c3⟩ := id hpm
        have HK : Hid (hasWatch xs t = (cmpW xs[b] t == 0)) := by
          show hasWatch xs t = _
          unfold hasWatch
          rw [HAT.out, List.getElem?_eq_getElem hlt2]
        go_wp2
        have gc0 := cell_regrown c0
        have gc1 := cell_regrown c1
        have gc2 := cell_regrown c2
        have gc3 := cell_regrown c3
        have gd0 := cell_regrown d0
        have gd1 := cell_regrown d1
        have gd2 := cell_regrown d2
        have gd3 := cell_regrown d3
        refine wp_region_mix (C := fun w' => ∃ p : Regrown, w' = Go.Sort.grow (redrawn wr p.d) p.os) [true, true, true, true, true, true, true, true, true, true, true, false, true, true, true, true] (by kernel_rfl) (by kernel_rfl) (by kernel_rfl) (fun _ _ d _ _ h => by cases d <;> exact h) (regrown_of_below (Below.drew (Below.refl _ _))) ?_
        have hS0 : Below (wr.heap.size) wr wr.drew := Below.drew (Below.refl _ _)
        refine wpMix_pure (by kernel_rfl) (fun K hK => ?_); go_big_quiet_op; refine hK _ ?_; clear hK K
        refine wpMix_pure (by kernel_rfl) (fun K hK => ?_); go_big_quiet_op; refine hK _ ?_; clear hK K
        refine wpMix_pure (by kernel_rfl) (fun K hK => ?_); go_big_quiet_op; refine hK _ ?_; clear hK K
        refine wpMix_pure (by kernel_rfl) (fun K hK => ?_); go_big_quiet_op; refine hK _ ?_; clear hK K
        refine wpMix_pure (by kernel_rfl) (fun K hK => ?_); go_big_quiet_op; refine hK _ ?_; clear hK K
        refine wpMix_pure (by kernel_rfl) (fun K hK => ?_); go_big_quiet_op; refine hK _ ?_; clear hK K
        refine wpMix_pure (by kernel_rfl) (fun K hK => ?_); go_big_quiet_op; refine hK _ ?_; clear hK K
        refine wpMix_pure (by kernel_rfl) (fun K hK => ?_); go_big_quiet_op; refine hK _ ?_; clear hK K
        refine wpMix_pure (by kernel_rfl) (fun K hK => ?_); go_big_quiet_op; refine hK _ ?_; clear hK K
        refine wpMix_pure (by kernel_rfl) (fun K hK => ?_); go_big_quiet_op; refine hK _ ?_; clear hK K
        refine wpMix_pure (by kernel_rfl) (fun K hK => ?_); go_big_quiet_op; refine hK _ ?_; clear hK K
        refine wpMix_act (by kernel_rfl) (fun K hK => ?_)
        go_big_op
        refine (compareWatches_any _ _ _).mono ?_
        rintro e wr1 ⟨rfl, hbr1⟩
        have hbr1S : Below (wr.heap.size) wr wr1 := hS0.trans (hbr1.mono hS0.size)
        refine hK _ _ (regrown_of_below hbr1S) ?_
        clear hK K
        refine wpMix_pure (by kernel_rfl) (fun K hK => ?_); go_big_quiet_op; refine hK _ ?_; clear hK K
        refine wpMix_pure (by kernel_rfl) (fun K hK => ?_); go_big_quiet_op; refine hK _ ?_; clear hK K
        refine wpMix_pure (by kernel_rfl) (fun K hK => ?_); go_big_quiet_op; refine hK _ ?_; clear hK K
        refine wpMix_pure (by kernel_rfl) (fun K hK => ?_); go_big_quiet_op; refine hK _ ?_; clear hK K
        refine wpMix_nil ?_
        go_wp2
        go_ret2
        exact ⟨by rw [HAT.out, HK.out]; first | rfl | simp [*], hb.trans (hbr1S.mono hb.size)⟩
      · have HK : Hid (hasWatch xs t = false) := by
          show hasWatch xs t = _
          unfold hasWatch
          rw [HAT.out, List.getElem?_eq_none (by omega)]
        go_wp2
        refine wp_region_mix (C := fun w' => ∃ p : Regrown, w' = Go.Sort.grow (redrawn wr p.d) p.os) [true, true, true, true, true, true, true, true, true, true, true, false, true, true, true, true] (by kernel_rfl) (by kernel_rfl) (by kernel_rfl) (fun _ _ d _ _ h => by cases d <;> exact h) (regrown_of_below (Below.drew (Below.refl _ _))) ?_
        have hS0 : Below (wr.heap.size) wr wr.drew := Below.drew (Below.refl _ _)
        refine wpMix_pure (by kernel_rfl) (fun K hK => ?_); go_big_quiet_op; refine hK _ ?_; clear hK K
        refine wpMix_pure (by kernel_rfl) (fun K hK => ?_); go_big_quiet_op; refine hK _ ?_; clear hK K
        refine wpMix_pure (by kernel_rfl) (fun K hK => ?_); go_big_quiet_op; refine hK _ ?_; clear hK K
        refine wpMix_pure (by kernel_rfl) (fun K hK => ?_); go_big_quiet_op; refine hK _ ?_; clear hK K
        refine wpMix_pure (by kernel_rfl) (fun K hK => ?_); go_big_quiet_op; refine hK _ ?_; clear hK K
        refine wpMix_skip (by kernel_rfl) (fun K hK => ?_)
        simp only [Act.put, List.setIfInBounds_toArray, List.set_cons_zero, List.set_cons_succ]
        refine hK _ ?_; clear hK K
        refine wpMix_skip (by kernel_rfl) (fun K hK => ?_)
        simp only [Act.put, List.setIfInBounds_toArray, List.set_cons_zero, List.set_cons_succ]
        refine hK _ ?_; clear hK K
        refine wpMix_skip (by kernel_rfl) (fun K hK => ?_)
        simp only [Act.put, List.setIfInBounds_toArray, List.set_cons_zero, List.set_cons_succ]
        refine hK _ ?_; clear hK K
        refine wpMix_skip (by kernel_rfl) (fun K hK => ?_)
        simp only [Act.put, List.setIfInBounds_toArray, List.set_cons_zero, List.set_cons_succ]
        refine hK _ ?_; clear hK K
        refine wpMix_skip (by kernel_rfl) (fun K hK => ?_)
        simp only [Act.put, List.setIfInBounds_toArray, List.set_cons_zero, List.set_cons_succ]
        refine hK _ ?_; clear hK K
        refine wpMix_skip (by kernel_rfl) (fun K hK => ?_)
        simp only [Act.put, List.setIfInBounds_toArray, List.set_cons_zero, List.set_cons_succ]
        refine hK _ ?_; clear hK K
        refine wpMix_skip (by kernel_rfl) (fun K hK => ?_)
        simp only [Act.put, List.setIfInBounds_toArray, List.set_cons_zero, List.set_cons_succ]
        refine hK _ ?_; clear hK K
        refine wpMix_skip (by kernel_rfl) (fun K hK => ?_)
        simp only [Act.put, List.setIfInBounds_toArray, List.set_cons_zero, List.set_cons_succ]
        refine hK _ ?_; clear hK K
        refine wpMix_pure (by kernel_rfl) (fun K hK => ?_); go_big_quiet_op; refine hK _ ?_; clear hK K
        refine wpMix_pure (by kernel_rfl) (fun K hK => ?_); go_big_quiet_op; refine hK _ ?_; clear hK K
        refine wpMix_pure (by kernel_rfl) (fun K hK => ?_); go_big_quiet_op; refine hK _ ?_; clear hK K
        refine wpMix_nil ?_
        go_wp2
        go_ret2
        exact ⟨by rw [HAT.out, HK.out]; first | rfl | simp [*], hb.trans (hS0.mono hb.size)⟩

end Go.Proofs.YtmlconbekkdahaaGreatDoor

namespace Go.Proofs.YtmlconbekkdahaaGreatDoor
set_option linter.unusedVariables false

theorem ordered_lt {α : Type} {bef : α → α → Prop} (htr : ∀ a b c, bef a b → bef b c → bef a c) {xs : List α} (h : ∀ i (hi : i + 1 < xs.length), bef xs[i] xs[i + 1]) : ∀ (j i : Nat) (hj : j < xs.length) (hi : i < j), bef (xs[i]'(by omega)) xs[j] := by
  intro j
  induction j with
  | zero => intro i _ hi; omega
  | succ j ih =>
    intro i hj hi
    rcases Nat.lt_or_eq_of_le (Nat.le_of_lt_succ hi) with h1 | rfl
    · exact htr _ _ _ (ih i (by omega) h1) (h j hj)
    · exact h i hj
theorem put_ordered {α : Type} {bef : α → α → Prop} (htr : ∀ a b c, bef a b → bef b c → bef a c) {xs : List α} {x : α} {k : Nat} (h : ∀ i (hi : i + 1 < xs.length), bef xs[i] xs[i + 1]) (hle : k ≤ xs.length)
    (hb : ∀ m (hm : m < xs.length), m < k → bef xs[m] x) (ha : ∀ m (hm : m < xs.length), k ≤ m → bef x xs[m]) :
    (xs.take k ++ x :: xs.drop k).length = xs.length + 1 ∧ (∀ y ∈ xs.take k ++ x :: xs.drop k, y ∈ xs ∨ y = x) ∧ (∀ i (hi : i + 1 < (xs.take k ++ x :: xs.drop k).length), bef (xs.take k ++ x :: xs.drop k)[i] (xs.take k ++ x :: xs.drop k)[i + 1]) ∧ ∃ hk : k < (xs.take k ++ x :: xs.drop k).length, (xs.take k ++ x :: xs.drop k)[k] = x := by
  have hlt : (xs.take k).length = k := by rw [List.length_take]; omega
  have hlen : (xs.take k ++ x :: xs.drop k).length = xs.length + 1 := by rw [List.length_append, List.length_cons, List.length_drop, hlt]; omega
  have hat : ∀ i (hi : i < (xs.take k ++ x :: xs.drop k).length), (i < k → ∃ h : i < xs.length, (xs.take k ++ x :: xs.drop k)[i] = xs[i]) ∧ (i = k → (xs.take k ++ x :: xs.drop k)[i] = x) ∧ (k < i → ∃ h : i - 1 < xs.length, (xs.take k ++ x :: xs.drop k)[i] = xs[i - 1]) := fun i hi => by
    refine ⟨fun h => ⟨by omega, ?_⟩, fun h => ?_, fun h => ⟨by omega, ?_⟩⟩
    · rw [List.getElem_append_left (by omega), List.getElem_take]
    · subst h
      rw [List.getElem_append_right (by omega)]
      simp [hlt]
    · rw [List.getElem_append_right (by omega)]
      obtain ⟨j, rfl⟩ : ∃ j, i = k + 1 + j := ⟨i - (k + 1), by omega⟩
      simp only [hlt, show k + 1 + j - k = j + 1 by omega, List.getElem_cons_succ, List.getElem_drop]
      congr 1
      omega
  have hlt2 := ordered_lt htr h
  refine ⟨hlen, fun y hy => ?_, fun i hi => ?_, by omega, (hat k (by omega)).2.1 rfl⟩
  · rcases List.mem_append.1 hy with hy | hy
    · exact .inl (List.mem_of_mem_take hy)
    · rcases List.mem_cons.1 hy with rfl | hy
      · exact .inr rfl
      · exact .inl (List.mem_of_mem_drop hy)
  · rcases Nat.lt_trichotomy i k with h1 | h1 | h1
    · obtain ⟨h2, e2⟩ := (hat i (by omega)).1 h1
      rw [e2]
      rcases Nat.lt_or_ge (i + 1) k with h3 | h3
      · obtain ⟨h4, e4⟩ := (hat (i + 1) hi).1 h3
        rw [e4]; exact hlt2 (i + 1) i h4 (by omega)
      · rw [(hat (i + 1) hi).2.1 (by omega)]; exact hb i h2 h1
    · rw [(hat i (by omega)).2.1 h1]
      obtain ⟨h4, e4⟩ := (hat (i + 1) hi).2.2 (by omega)
      rw [e4]; exact ha _ h4 (by omega)
    · obtain ⟨h2, e2⟩ := (hat i (by omega)).2.2 h1
      obtain ⟨h4, e4⟩ := (hat (i + 1) hi).2.2 (by omega)
      rw [e2, e4]; exact hlt2 _ _ h4 (by omega)
theorem posF_specP {α : Type} (p : α → Bool) (xs : List α) : (∀ m (h : m < xs.length), m < posF p xs → p xs[m] = true) ∧ (∀ h : posF p xs < xs.length, p xs[posF p xs] = false) := by
  unfold posF
  induction xs with
  | nil => exact ⟨fun m h => absurd h (Nat.not_lt_zero _), fun h => absurd h (Nat.not_lt_zero _)⟩
  | cons x xs ih =>
    cases hp : p x with
    | false =>
      have e : (x :: xs).takeWhile p = [] := by rw [List.takeWhile_cons, hp]; rfl
      rw [e]
      exact ⟨fun m h hm => absurd hm (Nat.not_lt_zero _), fun h => hp⟩
    | true =>
      have e : (x :: xs).takeWhile p = x :: xs.takeWhile p := by rw [List.takeWhile_cons, hp]; rfl
      simp only [e, List.length_cons]
      refine ⟨fun m h hm => ?_, fun h => ?_⟩
      · cases m with
        | zero => exact hp
        | succ m => exact ih.1 m (by simpa using h) (by omega)
      · have := ih.2 (by omega)
        simpa using this
end Go.Proofs.YtmlconbekkdahaaGreatDoor

namespace Go.Proofs.YtmlconbekkdahaaGreatDoor
open Go.RowKit
set_option linter.unusedVariables false

def watchLt (a b : DWatch) : Bool := decide (cmpW a b < 0)
theorem watchLt_iff {a b : DWatch} : watchLt a b = true ↔ (ltS a.person b.person = true ∨ (a.person = b.person ∧ a.start < b.start)) := by
  unfold watchLt
  by_cases h : a.person = b.person
  · rw [cmpW_eq h, decide_eq_true_eq]
    constructor
    · intro h2; exact .inr ⟨h, h2⟩
    · rintro (h2 | h2)
      · rw [h, ltS_irrefl] at h2; cases h2
      · exact h2.2
  · rw [cmpW_ne h]
    unfold watchBef
    rw [if_neg h]
    constructor
    · intro h2; exact .inl h2
    · rintro (h2 | h2)
      · exact h2
      · exact absurd h2.1 h
theorem watchLt_trans {a b c : DWatch} (h1 : watchLt a b = true) (h2 : watchLt b c = true) : watchLt a c = true := by
  rw [watchLt_iff] at *
  rcases h1 with h1 | ⟨h1, h3⟩
  · rcases h2 with h2 | ⟨h2, _⟩
    · exact .inl (ltS_trans h1 h2)
    · rw [← h2]; exact .inl h1
  · rcases h2 with h2 | ⟨h2, h4⟩
    · rw [h1]; exact .inl h2
    · exact .inr ⟨h1.trans h2, by omega⟩
theorem watch_before {a b : DWatch} (h : watchBef a b = true) (ha : watchB a = true) : watchLt a b = true := by
  rw [watchLt_iff]
  unfold watchBef at h
  split at h
  · rename_i e
    have := watchB_b ha
    have := of_decide_eq_true h
    exact .inr ⟨e, by omega⟩
  · exact .inl h
theorem watchs_step {xs : List DWatch} (h : watchsB xs = true) : ∀ i (hi : i + 1 < xs.length), watchLt xs[i] xs[i + 1] = true :=
  fun i hi => watch_before (watchsB_two h hi) (watchsB_one h (by omega))
theorem watchs_lt {xs : List DWatch} (h : watchsB xs = true) (j i : Nat) (hj : j < xs.length) (hi : i < j) : watchLt (xs[i]'(by omega)) xs[j] = true :=
  ordered_lt (bef := fun a b : DWatch => watchLt a b = true) (fun _ _ _ h1 h2 => watchLt_trans h1 h2) (watchs_step h) j i hj hi
def addWatchL (xs : List DWatch) (x : DWatch) : List DWatch := xs.take (atWatch xs x) ++ x :: xs.drop (atWatch xs x)
def addWatchC (xs : List DWatch) (x : DWatch) : Int := if watchsB xs then (if watchB x then (if xs.length = 32 then 5 else if watchsB (addWatchL xs x) then 0 else 6) else 2) else 1
def addWatchF (xs : List DWatch) (x : DWatch) : List DWatch := if addWatchC xs x = 0 then addWatchL xs x else []
theorem addWatchL_length {xs : List DWatch} {x : DWatch} : (addWatchL xs x).length = xs.length + 1 := by
  have := posF_le (fun y : DWatch => decide (cmpW y x < 0)) xs
  unfold addWatchL atWatch
  simp; omega
theorem addWatchL_mem {xs : List DWatch} {x y : DWatch} (h : y ∈ addWatchL xs x) : y ∈ xs ∨ y = x := by
  unfold addWatchL at h
  rcases List.mem_append.1 h with h | h
  · exact .inl (List.mem_of_mem_take h)
  · rcases List.mem_cons.1 h with h | h
    · exact .inr h
    · exact .inl (List.mem_of_mem_drop h)
theorem addWatchL_all {xs : List DWatch} {x : DWatch} {p : DWatch → Prop} (h : ∀ y ∈ xs, p y) (hx : p x) : ∀ y ∈ addWatchL xs x, p y := fun y hy => by
  rcases addWatchL_mem hy with hy | rfl
  · exact h y hy
  · exact hx
theorem addWatchL_self (xs : List DWatch) (x : DWatch) : x ∈ addWatchL xs x := by unfold addWatchL; simp
theorem addWatch_bad {xs : List DWatch} {x : DWatch} {c : Int} (h : addWatchC xs x = c) (h0 : c ≠ 0) : addWatchC xs x = c ∧ addWatchF xs x = [] := ⟨h, by unfold addWatchF; rw [if_neg (by rw [h]; exact h0)]⟩
theorem addWatch_ok {xs : List DWatch} {x : DWatch} (h : addWatchC xs x = 0) : watchsB xs = true ∧ watchB x = true ∧ xs.length < 32 ∧ watchsB (addWatchL xs x) = true ∧ addWatchF xs x = addWatchL xs x := by
  have hF : addWatchF xs x = addWatchL xs x := by unfold addWatchF; rw [if_pos h]
  unfold addWatchC at h
  split at h
  · rename_i h1
    split at h
    · rename_i h2
      split at h
      · cases h
      · rename_i h3
        split at h
        · rename_i h4
          have := watchsB_len h1
          exact ⟨h1, h2, by omega, h4, hF⟩
        · cases h
    · cases h
  · cases h
theorem addWatch_mem {xs : List DWatch} {x y : DWatch} (h : y ∈ addWatchF xs x) : y ∈ xs ∨ y = x := by
  unfold addWatchF at h
  split at h
  · exact addWatchL_mem h
  · cases h
theorem addWatch_length {xs : List DWatch} {x : DWatch} : (addWatchF xs x).length ≤ xs.length + 1 := by
  unfold addWatchF
  split
  · rw [addWatchL_length]; exact Nat.le_refl _
  · simp
/-- The hours that a person watches. -/
def hrsW (p : ByteArray) : List DWatch → Int
  | [] => 0
  | x :: L => (if x.person = p ∧ x.onCall = false then x.hours else 0) + hrsW p L
theorem hrsW_append (p : ByteArray) (A B : List DWatch) : hrsW p (A ++ B) = hrsW p A + hrsW p B := by
  induction A with
  | nil => show hrsW p B = 0 + hrsW p B; omega
  | cons x A ih => show (if x.person = p ∧ x.onCall = false then x.hours else 0) + hrsW p (A ++ B) = (if x.person = p ∧ x.onCall = false then x.hours else 0) + hrsW p A + hrsW p B; rw [ih]; omega
theorem hrsW_add (p : ByteArray) (xs : List DWatch) (x : DWatch) : hrsW p (addWatchL xs x) = hrsW p xs + (if x.person = p ∧ x.onCall = false then x.hours else 0) := by
  unfold addWatchL
  have h : hrsW p xs = hrsW p (xs.take (atWatch xs x)) + hrsW p (xs.drop (atWatch xs x)) := by rw [← hrsW_append, List.take_append_drop]
  rw [hrsW_append, h]
  show _ + ((if x.person = p ∧ x.onCall = false then x.hours else 0) + _) = _
  omega
/-- Whether a watch has an hour, on call or not. -/
def atHour (h : Int) (c : Bool) (x : DWatch) : Bool := (x.onCall == c) && (decide (x.start ≤ h) && decide (h < x.start + x.hours))
def persF (h : Int) (c : Bool) (L : List DWatch) : List ByteArray := (L.filter (atHour h c)).map (·.person)
theorem pers_mem {L : List DWatch} {x : DWatch} (hx : x ∈ L) (hv : watchB x = true) : x.person ∈ persF x.start x.onCall L := by
  have := watchB_b hv
  unfold persF
  refine List.mem_map.2 ⟨x, List.mem_filter.2 ⟨hx, ?_⟩, rfl⟩
  unfold atHour
  rw [decide_eq_true (Int.le_refl _), decide_eq_true (by omega)]
  simp
theorem pers_sorted {L : List DWatch} (hv : watchsB L = true) (h : Int) (c : Bool) : (persF h c L).Pairwise (fun a b => ltS b a = false) := by
  unfold persF
  rw [List.pairwise_map]
  refine List.Pairwise.filter _ ?_
  rw [List.pairwise_iff_getElem]
  intro i j hi hj hij
  have h1 := watchs_lt hv j i hj hij
  rw [watchLt_iff] at h1
  rcases h1 with h1 | ⟨h1, _⟩
  · exact ltS_asymm h1
  · rw [h1]; exact ltS_irrefl _
/-- The first on call at an hour comes not behind any that is. -/
theorem call_first {L : List DWatch} {x : DWatch} (hv : watchsB L = true) (hx : x ∈ L) (hx2 : watchB x = true) : ∃ p rest, persF x.start x.onCall L = p :: rest ∧ ltS x.person p = false := by
  have h1 := pers_mem hx hx2
  have h2 := pers_sorted hv x.start x.onCall
  cases h : persF x.start x.onCall L with
  | nil => rw [h] at h1; cases h1
  | cons p rest =>
    rw [h] at h1 h2
    refine ⟨p, rest, rfl, ?_⟩
    rcases List.mem_cons.1 h1 with e | h3
    · rw [e]; exact ltS_irrefl _
    · exact (List.pairwise_cons.1 h2).1 _ h3
/-- The hours between a watch and the next one. -/
def restAt (xs : List DWatch) (m : Nat) : Int := (xs.getD (m + 1) watch0).start - ((xs.getD m watch0).start + (xs.getD m watch0).hours)
def bothP (xs : List DWatch) (p : ByteArray) (m : Nat) : Bool := decide ((xs.getD (m + 1) watch0).person = p) && decide ((xs.getD m watch0).person = p)
def sameP (xs : List DWatch) (m : Nat) : Bool := decide ((xs.getD (m + 1) watch0).person = (xs.getD m watch0).person)
/-- The least rest of a person among the first pairs, -1 if there is none. -/
def leastP (xs : List DWatch) (p : ByteArray) : Nat → Int
  | 0 => -1
  | m + 1 => if bothP xs p m = true ∧ (leastP xs p m < 0 ∨ restAt xs m < leastP xs p m) then restAt xs m else leastP xs p m
def shortB (xs : List DWatch) (r : Int) (m : Nat) : Bool := sameP xs m && decide (restAt xs m < r)
def shortL (xs : List DWatch) (r : Int) (k : Nat) : List Nat := (List.range k).filter (shortB xs r)
theorem shortL_succ (xs : List DWatch) (r : Int) (k : Nat) : shortL xs r (k + 1) = if shortB xs r k then shortL xs r k ++ [k] else shortL xs r k := by
  unfold shortL
  rw [List.range_succ, List.filter_append]
  cases h : shortB xs r k
  · rw [List.filter_cons_of_neg (by rw [h]; decide), if_neg (by decide)]; simp
  · rw [List.filter_cons_of_pos h, if_pos rfl]; rfl
theorem shortL_mem {xs : List DWatch} {r : Int} {k m : Nat} : m ∈ shortL xs r k ↔ m < k ∧ shortB xs r m = true := by
  unfold shortL; rw [List.mem_filter, List.mem_range]
theorem shortL_len (xs : List DWatch) (r : Int) (k : Nat) : (shortL xs r k).length ≤ k := by
  have := List.length_filter_le (shortB xs r) (List.range k)
  rw [List.length_range] at this; exact this
theorem restAt_pos {xs : List DWatch} (hv : watchsB xs = true) {m : Nat} (hm : m + 1 < xs.length) (hs : sameP xs m = true) : 0 ≤ restAt xs m := by
  have h := watchsB_two hv hm
  unfold sameP at hs
  unfold restAt
  rw [getD_of_lt hm, getD_of_lt (show m < xs.length by omega)] at *
  have h2 := of_decide_eq_true hs
  rw [watchBef_eq h2.symm] at h
  have := of_decide_eq_true h
  omega
theorem bothP_same {xs : List DWatch} {p : ByteArray} {m : Nat} (h : bothP xs p m = true) : sameP xs m = true := by
  unfold bothP at h; unfold sameP
  rw [Bool.and_eq_true, decide_eq_true_eq, decide_eq_true_eq] at h
  rw [h.1, h.2]; exact decide_eq_true rfl
theorem leastP_spec {xs : List DWatch} (hv : watchsB xs = true) (p : ByteArray) : ∀ k, k < xs.length ∨ k = 0 →
    (leastP xs p k < 0 ∧ ∀ j, j < k → bothP xs p j = false) ∨ (0 ≤ leastP xs p k ∧ (∃ j, j < k ∧ bothP xs p j = true ∧ restAt xs j = leastP xs p k) ∧ ∀ j, j < k → bothP xs p j = true → leastP xs p k ≤ restAt xs j)
  | 0, _ => .inl ⟨by unfold leastP; omega, fun j h => absurd h (Nat.not_lt_zero _)⟩
  | k + 1, hk => by
    have hk1 : k + 1 < xs.length := by omega
    have ih := leastP_spec hv p k (by omega)
    have e : leastP xs p (k + 1) = if bothP xs p k = true ∧ (leastP xs p k < 0 ∨ restAt xs k < leastP xs p k) then restAt xs k else leastP xs p k := rfl
    rw [e]
    cases hb : bothP xs p k
    · rw [if_neg (fun h => by cases h.1)]
      rcases ih with ⟨h1, h2⟩ | ⟨h1, ⟨j, hj, hj2, hj3⟩, h3⟩
      · refine .inl ⟨h1, fun j hj => ?_⟩
        rcases Nat.lt_or_eq_of_le (Nat.le_of_lt_succ hj) with h | rfl
        · exact h2 j h
        · exact hb
      · refine .inr ⟨h1, ⟨j, by omega, hj2, hj3⟩, fun j hj hj4 => ?_⟩
        rcases Nat.lt_or_eq_of_le (Nat.le_of_lt_succ hj) with h | rfl
        · exact h3 j h hj4
        · rw [hb] at hj4; cases hj4
    · have hp := restAt_pos hv hk1 (bothP_same hb)
      by_cases hc : leastP xs p k < 0 ∨ restAt xs k < leastP xs p k
      · rw [if_pos ⟨rfl, hc⟩]
        refine .inr ⟨hp, ⟨k, Nat.lt_succ_self _, hb, rfl⟩, fun j hj hj4 => ?_⟩
        rcases Nat.lt_or_eq_of_le (Nat.le_of_lt_succ hj) with h | rfl
        · rcases ih with ⟨h1, h2⟩ | ⟨h1, _, h3⟩
          · rw [h2 j h] at hj4; cases hj4
          · have := h3 j h hj4; omega
        · exact Int.le_refl _
      · rw [if_neg (fun h => hc h.2)]
        rcases ih with ⟨h1, _⟩ | ⟨h1, ⟨j, hj, hj2, hj3⟩, h3⟩
        · omega
        · refine .inr ⟨h1, ⟨j, by omega, hj2, hj3⟩, fun j hj hj4 => ?_⟩
          rcases Nat.lt_or_eq_of_le (Nat.le_of_lt_succ hj) with h | rfl
          · exact h3 j h hj4
          · omega
theorem leastP_le {xs : List DWatch} (hv : watchsB xs = true) (p : ByteArray) (k : Nat) (hk : k < xs.length ∨ k = 0) : -1 ≤ leastP xs p k ∧ leastP xs p k ≤ 20000 := by
  induction k with
  | zero => unfold leastP; omega
  | succ k ih =>
    have ih := ih (by omega)
    have hk1 : k + 1 < xs.length := by omega
    have e : leastP xs p (k + 1) = if bothP xs p k = true ∧ (leastP xs p k < 0 ∨ restAt xs k < leastP xs p k) then restAt xs k else leastP xs p k := rfl
    have h1 := watchB_b (watchsB_one hv hk1)
    have h2 := watchB_b (watchsB_one hv (show k < xs.length by omega))
    rw [e]
    split
    · rename_i h
      have h3 := restAt_pos hv hk1 (bothP_same h.1)
      refine ⟨by omega, ?_⟩
      unfold restAt
      rw [getD_of_lt hk1, getD_of_lt (show k < xs.length by omega)]
      omega
    · exact ih
/-- What the law asks of rests: one that is too short is told exactly if the least one is. -/
theorem short_law {xs : List DWatch} (hv : watchsB xs = true) (r : Int) (p : ByteArray) :
    ((shortL xs r (xs.length - 1)).any (fun m => decide ((xs.getD m watch0).person = p)) = true) ↔ (0 ≤ leastP xs p (xs.length - 1) ∧ leastP xs p (xs.length - 1) < r) := by
  have hs := leastP_spec hv p (xs.length - 1) (by omega)
  rw [List.any_eq_true]
  constructor
  · rintro ⟨m, hm, hp⟩
    rw [shortL_mem] at hm
    have hp := of_decide_eq_true hp
    have h1 := hm.2
    unfold shortB at h1
    rw [Bool.and_eq_true] at h1
    have h2 := of_decide_eq_true h1.2
    have hb : bothP xs p m = true := by
      have h3 := h1.1
      unfold sameP at h3
      have h3 := of_decide_eq_true h3
      unfold bothP
      rw [h3, hp]; simp
    rcases hs with ⟨_, h4⟩ | ⟨h4, _, h5⟩
    · rw [h4 m hm.1] at hb; cases hb
    · have := h5 m hm.1 hb
      exact ⟨h4, by omega⟩
  · rintro ⟨h1, h2⟩
    rcases hs with ⟨h3, _⟩ | ⟨_, ⟨j, hj, hj2, hj3⟩, _⟩
    · omega
    · have hsm := bothP_same hj2
      refine ⟨j, shortL_mem.2 ⟨hj, ?_⟩, ?_⟩
      · unfold shortB; rw [hsm, Bool.true_and]; exact decide_eq_true (by omega)
      · unfold bothP at hj2
        rw [Bool.and_eq_true] at hj2
        exact hj2.2
end Go.Proofs.YtmlconbekkdahaaGreatDoor
