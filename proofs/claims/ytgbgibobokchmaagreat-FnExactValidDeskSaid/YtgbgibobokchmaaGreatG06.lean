/- Parts of the proof: Vw, Gg, PIncident, Io, Iv, Vd, WValidDesk, Law, Open, OObserved, OTest, OStand, OPathPoint, OVerified, OShot, OGroup, OWatch, OIncident, ODesk. -/
import Derived.Test.YtgbgibobokchmaaGreatG02
import Derived.Test.YtgbgibobokchmaaGreatG05
import Derived.Test.YtgbgibobokchmaaGreatG01
import Derived.Test.YtgbgibobokchmaaGreatG03
import Derived.Test.YtgbgibobokchmaaGreatG04
import Derived.ProofKit
import Derived.ChangeSame
import Derived.Deep.Slices
import Derived.Deep.Fields
import Derived.OpenShut
namespace Go.Proofs.YtgbgibobokchmaaGreat
open Go.RowKit
set_option linter.unusedVariables false

def watch0 : DWatch := ⟨⟨#[]⟩, 0, 0, false⟩
def watchBef (a b : DWatch) : Bool := if a.person = b.person then decide (a.start + a.hours ≤ b.start) else ltS a.person b.person
def cmpW (a b : DWatch) : Int := orI [cmT a.person b.person, cmI a.start b.start]
theorem watchBef_gt {a b : DWatch} (h : ltS b.person a.person = true) : watchBef a b = false := by
  unfold watchBef
  have h2 : a.person ≠ b.person := by
    intro e
    rw [e, ltS_irrefl] at h
    cases h
  rw [if_neg h2]
  exact ltS_asymm h
theorem watchBef_eq {a b : DWatch} (h : a.person = b.person) : watchBef a b = decide (a.start + a.hours ≤ b.start) := by
  unfold watchBef; rw [if_pos h]
theorem watchBef_lt {a b : DWatch} (h : ltS b.person a.person = false) (h2 : a.person ≠ b.person) : watchBef a b = true := by
  unfold watchBef
  rw [if_neg h2]
  cases h3 : ltS a.person b.person
  · exact absurd (ltS_tri h3 h) h2
  · rfl
theorem cmpW_ne {a b : DWatch} (h : a.person ≠ b.person) : decide (cmpW a b < 0) = watchBef a b := by
  unfold cmpW watchBef
  rw [orI_two, if_neg (fun e => h (cmT_zero.1 e)), if_neg h]
  rw [Bool.eq_iff_iff]; simp [cmT_lt]
theorem cmpW_eq {a b : DWatch} (h : a.person = b.person) : decide (cmpW a b < 0) = decide (a.start < b.start) := by
  unfold cmpW
  rw [orI_two, if_pos (cmT_zero.2 h)]
  rw [Bool.eq_iff_iff]; simp [cmI_lt]

def watchOk (xs : List DWatch) (i : Nat) : Bool := watchB (xs.getD i watch0) && (decide (i = 0) || watchBef (xs.getD (i - 1) watch0) (xs.getD i watch0))
def watchsB (xs : List DWatch) : Bool := allIdx (watchOk xs) xs.length && decide (xs.length ≤ 32)
theorem watchOk_zero {xs : List DWatch} (h : 0 < xs.length) : watchOk xs 0 = watchB xs[0] := by simp [watchOk, h]
theorem watchOk_succ {xs : List DWatch} {m : Nat} (h : m + 1 < xs.length) : watchOk xs (m + 1) = (watchB xs[m + 1] && watchBef xs[m] xs[m + 1]) := by
  have h1 : m < xs.length := by omega
  simp [watchOk, h, h1]
theorem watchsB_bad {xs : List DWatch} {k : Nat} (h : k < xs.length) (h1 : watchOk xs k = false) : watchsB xs = false := by
  unfold watchsB; rw [allIdx_bad h h1]; rfl
theorem watchsB_len {xs : List DWatch} (h : watchsB xs = true) : xs.length ≤ 32 := by
  unfold watchsB at h; simp at h; exact h.2
theorem watchsB_one {xs : List DWatch} (h : watchsB xs = true) {k : Nat} (hk : k < xs.length) : watchB xs[k] = true := by
  unfold watchsB at h
  rw [Bool.and_eq_true] at h
  have := allIdx_true.1 h.1 k hk
  unfold watchOk at this
  rw [Bool.and_eq_true] at this
  simpa [hk] using this.1
theorem watchsB_two {xs : List DWatch} (h : watchsB xs = true) {m : Nat} (hm : m + 1 < xs.length) : watchBef xs[m] xs[m + 1] = true := by
  unfold watchsB at h
  rw [Bool.and_eq_true] at h
  have := allIdx_true.1 h.1 (m + 1) hm
  rw [watchOk_succ hm, Bool.and_eq_true] at this
  exact this.2
theorem watchB_b {x : DWatch} (h : watchB x = true) : 0 ≤ x.start ∧ x.start ≤ 10000 ∧ 1 ≤ x.hours ∧ x.hours ≤ 48 := by
  unfold watchB at h
  simp only [Bool.and_eq_true, inB_true] at h
  omega
theorem watchOk_before {xs : List DWatch} {m k : Nat} (h : allIdx (watchOk xs) k = true) (hm : m < k) (hk : k ≤ xs.length) : watchB (xs[m]'(by omega)) = true := by
  have h1 := allIdx_true.1 h m hm
  have h2 : m < xs.length := by omega
  unfold watchOk at h1
  rw [Bool.and_eq_true] at h1
  have h3 := h1.1
  rw [List.getD_eq_getElem?_getD, List.getElem?_eq_getElem h2] at h3
  exact h3
set_option maxRecDepth 100000 in
set_option maxHeartbeats 4000000 in
theorem compareWatches_any (a b : DWatch) (w : World) :
    Calls Tryz.prog 98 #[.agg #[.string a.person, .int .i64 a.start, .int .i64 a.hours, .bool a.onCall], .agg #[.string b.person, .int .i64 b.start, .int .i64 b.hours, .bool b.onCall]] w fun e w' => e = .returned (.int .i64 (cmpW a b)) ∧ Below w.heap.size w w' := by
  have hpa := PWatch.box w a 150
  have hpb := PWatch.box (w.alloc (.cells #[.string a.person, .int .i64 a.start, .int .i64 a.hours, .bool a.onCall] 150)) b 150
  rw [World.size_alloc] at hpb
  have hpa2 := hpa.below' ((Below.refl _ _).alloc (Nat.le_refl _) (.cells #[.string b.person, .int .i64 b.start, .int .i64 b.hours, .bool b.onCall] 150))
  go_enter Tryz.func98, Tryz.ntmps98
  go_wp2
  refine at_world (fun W => Below w.heap.size w W ∧ PWatch W w.heap.size 0 a ∧ PWatch W (w.heap.size + 1) 0 b) ⟨(by repeat (first | exact Below.refl _ _ | assumption | refine Below.alloc ?_ (by first | omega | (simp <;> omega)) _ | refine Below.setCell ?_ (by first | (show _ ≤ _; omega) | (simp <;> omega)) _ | refine Below.drew ?_ | refine below_drewN ?_ _)), hpa2, hpb⟩ ?_
  clear hpa hpb hpa2
  rintro W ⟨hW, ⟨c0, c1, c2, c3⟩, ⟨d0, d1, d2, d3⟩⟩
  have gc0 := cell_regrown c0
  have gc1 := cell_regrown c1
  have gd0 := cell_regrown d0
  have gd1 := cell_regrown d1
  refine wp_region_mixed [0, 1, 2, 3, 5, 6, 7, 8, 4, 9, 10, 11, 12] (C := fun w' => ∃ p : Regrown, w' = Go.Sort.grow (redrawn W p.d) p.os) [true, true, true, true, true, true, true, true, false, false, false, false, true] (by kernel_rfl) (by kernel_rfl) (by kernel_rfl) (fun _ _ d _ _ h => by cases d <;> exact h) (regrown_of_below (Below.drew (Below.refl _ _))) ?_
  simp only [List.map_cons, List.map_nil, List.getD_cons_zero, List.getD_cons_succ]
  have hS0 : Below (W.heap.size) W W.drew := Below.drew (Below.refl _ _)
  refine wpMix_pure (by kernel_rfl) (fun K hK => ?_)
  go_big_quiet_op
  refine hK _ ?_; clear hK K
  refine wpMix_pure (by kernel_rfl) (fun K hK => ?_)
  go_big_quiet_op
  refine hK _ ?_; clear hK K
  refine wpMix_pure (by kernel_rfl) (fun K hK => ?_)
  go_big_quiet_op
  refine hK _ ?_; clear hK K
  refine wpMix_pure (by kernel_rfl) (fun K hK => ?_)
  go_big_quiet_op
  refine hK _ ?_; clear hK K
  refine wpMix_pure (by kernel_rfl) (fun K hK => ?_)
  go_big_quiet_op
  refine hK _ ?_; clear hK K
  refine wpMix_pure (by kernel_rfl) (fun K hK => ?_)
  go_big_quiet_op
  refine hK _ ?_; clear hK K
  refine wpMix_pure (by kernel_rfl) (fun K hK => ?_)
  go_big_quiet_op
  refine hK _ ?_; clear hK K
  refine wpMix_pure (by kernel_rfl) (fun K hK => ?_)
  go_big_quiet_op
  refine hK _ ?_; clear hK K
  refine wpMix_act (by kernel_rfl) (fun K hK => ?_)
  go_big_op
  refine (compareT_any _ _ _).mono ?_
  rintro e w' ⟨rfl, rfl⟩
  refine hK _ _ (regrown_of_below hS0) ?_
  clear hK K
  refine wpMix_act (by kernel_rfl) (fun K hK => ?_)
  go_big_op
  refine (compareI_any _ _ _).mono ?_
  rintro e w' ⟨rfl, rfl⟩
  refine hK _ _ (regrown_of_below hS0) ?_
  clear hK K
  refine wpMix_act (by kernel_rfl) (fun K hK => ?_)
  go_big_op
  refine hK _ _ (regrown_of_below (hS0.alloc hS0.size _)) ?_
  clear hK K
  refine mix_world (fun N => Below (W.heap.size) W N ∧ Sl fInt.cod N (.slice (some ⟨W.drew.heap.size, 0, none⟩) 2 2) [cmT a.person b.person, cmI a.start b.start] [W.drew.heap.size]) ⟨hS0.alloc hS0.size _, Sl.lit2 (E := fInt) W.drew [cmT a.person b.person, cmI a.start b.start] _ _ rfl (by intro x hx; simp at hx; rcases hx with rfl | rfl; exact cmT_ok _ _; exact cmI_ok _ _) (by simp) (by simp)⟩ ?_
  rintro wr3 ⟨hbr3S, hbr3F⟩
  refine wpMix_act (by kernel_rfl) (fun K hK => ?_)
  go_big_op
  refine (orJ_any _ _ _ _ hbr3F).mono ?_
  rintro e w' ⟨rfl, rfl⟩
  refine hK _ _ (regrown_of_below hbr3S) ?_
  clear hK K
  refine wpMix_pure (by kernel_rfl) (fun K hK => ?_)
  go_big_quiet_op
  refine hK _ ?_; clear hK K
  refine wpMix_nil ?_
  go_wp2
  go_ret
  exact ⟨rfl, hW.trans (hbr3S.mono hW.size)⟩
set_option maxRecDepth 100000 in
set_option maxHeartbeats 2000000 in
theorem endW_any (a : DWatch) (w : World) (h : 0 ≤ a.start ∧ a.start ≤ 10000 ∧ 1 ≤ a.hours ∧ a.hours ≤ 48) :
    Calls Tryz.prog 99 #[.agg #[.string a.person, .int .i64 a.start, .int .i64 a.hours, .bool a.onCall]] w fun e w' => e = .returned (.int .i64 (a.start + a.hours)) ∧ Below w.heap.size w w' := by
  go_enter Tryz.func99, Tryz.ntmps99
  go_wp2
  go_ret
  exact ⟨rfl, (Below.refl _ _).alloc (Nat.le_refl _) _⟩
set_option maxRecDepth 100000 in
set_option maxHeartbeats 4000000 in
theorem l26Ok_any (v : Value) (xs : List DWatch) (fp : List Nat) (w : World) (hx : Sl fWatch.cod w v xs fp) :
    Calls Tryz.prog 74 #[v] w fun e w' => e = .returned (.bool (watchsB xs)) ∧ Below w.heap.size w w' := by
  obtain ⟨A, cap, rfl, hlen, hcap⟩ := hx.form
  go_enter Tryz.func74, Tryz.ntmps74
  go_wp2
  go_loopw [3] (fun i wr => ∃ k : Nat, k ≤ xs.length ∧ i = .int .i64 k ∧ Hid (allIdx (watchOk xs) k = true) ∧ Below w.heap.size w wr) (fun i _ => xs.length - (intOf i).toNat)
  case atStart => exact ⟨0, Nat.zero_le _, rfl, rfl, Below.refl _ _⟩
  case round =>
    obtain ⟨k, hk, rfl, H0, hb⟩ := hrel
    by_cases hlt : k < xs.length
    · rcases Nat.eq_zero_or_pos k with rfl | hpos
      · skip
        obtain ⟨b, off, rfl, _, hok, hp⟩ := PWatch.elem (hx.below' hb) hlt
        rw [Nat.zero_mul, Nat.add_zero] at hp
        go_wp2_with fail
        refine (l26One_any _ _ xs[0] _ hp hok).mono ?_
        rintro e w1 ⟨rfl, hb1⟩
        cases hone : watchB xs[0]
        · have HZ : Hid (watchOk xs (0) = false) := by show _ = _; rw [watchOk_zero hlt, hone]
          go_wp2
          go_ret
          exact ⟨ret_bool (by rw [watchsB_bad hlt HZ.out]), hb.trans (hb1.mono hb.size)⟩
        · clear hp
          go_wp2
          refine at_world (fun W => Below wr.heap.size wr W) hb1 ?_
          rintro W hW
          refine wp_region_mix (C := fun w' => ∃ p : Regrown, w' = Go.Sort.grow (redrawn W p.d) p.os) [true, true, true, true, true, true, true, true, true, true, true, true, true, true, true, true, true, true, true, true, true, true, true, true, true, true, true, true, true, true, true, true, true, true, true, true, true, true, true, true, true, true, true, true, true, true, true, true, true, true, true] (by kernel_rfl) (by kernel_rfl) (by kernel_rfl) (fun _ _ d _ _ h => by cases d <;> exact h) (regrown_of_below (Below.drew (Below.refl _ _))) ?_
          have hS0 : Below (W.heap.size) W W.drew := Below.drew (Below.refl _ _)
          refine wpMix_pure (by kernel_rfl) (fun K hK => ?_)
          go_big_quiet_op
          refine hK _ ?_; clear hK K
          refine wpMix_pure (by kernel_rfl) (fun K hK => ?_)
          go_big_quiet_op
          refine hK _ ?_; clear hK K
          refine wpMix_pure (by kernel_rfl) (fun K hK => ?_)
          go_big_quiet_op
          refine hK _ ?_; clear hK K
          refine wpMix_skip (by kernel_rfl) (fun K hK => ?_)
          simp only [Act.put, List.setIfInBounds_toArray, List.set_cons_zero, List.set_cons_succ]
          refine hK _ ?_; clear hK K
          refine wpMix_skip (by kernel_rfl) (fun K hK => ?_)
          simp only [Act.put, List.setIfInBounds_toArray, List.set_cons_zero, List.set_cons_succ]
          refine hK _ ?_; clear hK K
          refine wpMix_skip (by kernel_rfl) (fun K hK => ?_)
          simp only [Act.put, List.setIfInBounds_toArray, List.set_cons_zero, List.set_cons_succ]
          refine hK _ ?_; clear hK K
          refine wpMix_skip (by kernel_rfl) (fun K hK => ?_)
          simp only [Act.put, List.setIfInBounds_toArray, List.set_cons_zero, List.set_cons_succ]
          refine hK _ ?_; clear hK K
          refine wpMix_skip (by kernel_rfl) (fun K hK => ?_)
          simp only [Act.put, List.setIfInBounds_toArray, List.set_cons_zero, List.set_cons_succ]
          refine hK _ ?_; clear hK K
          refine wpMix_skip (by kernel_rfl) (fun K hK => ?_)
          simp only [Act.put, List.setIfInBounds_toArray, List.set_cons_zero, List.set_cons_succ]
          refine hK _ ?_; clear hK K
          refine wpMix_skip (by kernel_rfl) (fun K hK => ?_)
          simp only [Act.put, List.setIfInBounds_toArray, List.set_cons_zero, List.set_cons_succ]
          refine hK _ ?_; clear hK K
          refine wpMix_skip (by kernel_rfl) (fun K hK => ?_)
          simp only [Act.put, List.setIfInBounds_toArray, List.set_cons_zero, List.set_cons_succ]
          refine hK _ ?_; clear hK K
          refine wpMix_skip (by kernel_rfl) (fun K hK => ?_)
          simp only [Act.put, List.setIfInBounds_toArray, List.set_cons_zero, List.set_cons_succ]
          refine hK _ ?_; clear hK K
          refine wpMix_skip (by kernel_rfl) (fun K hK => ?_)
          simp only [Act.put, List.setIfInBounds_toArray, List.set_cons_zero, List.set_cons_succ]
          refine hK _ ?_; clear hK K
          refine wpMix_skip (by kernel_rfl) (fun K hK => ?_)
          simp only [Act.put, List.setIfInBounds_toArray, List.set_cons_zero, List.set_cons_succ]
          refine hK _ ?_; clear hK K
          refine wpMix_skip (by kernel_rfl) (fun K hK => ?_)
          simp only [Act.put, List.setIfInBounds_toArray, List.set_cons_zero, List.set_cons_succ]
          refine hK _ ?_; clear hK K
          refine wpMix_skip (by kernel_rfl) (fun K hK => ?_)
          simp only [Act.put, List.setIfInBounds_toArray, List.set_cons_zero, List.set_cons_succ]
          refine hK _ ?_; clear hK K
          refine wpMix_skip (by kernel_rfl) (fun K hK => ?_)
          simp only [Act.put, List.setIfInBounds_toArray, List.set_cons_zero, List.set_cons_succ]
          refine hK _ ?_; clear hK K
          refine wpMix_skip (by kernel_rfl) (fun K hK => ?_)
          simp only [Act.put, List.setIfInBounds_toArray, List.set_cons_zero, List.set_cons_succ]
          refine hK _ ?_; clear hK K
          refine wpMix_skip (by kernel_rfl) (fun K hK => ?_)
          simp only [Act.put, List.setIfInBounds_toArray, List.set_cons_zero, List.set_cons_succ]
          refine hK _ ?_; clear hK K
          refine wpMix_skip (by kernel_rfl) (fun K hK => ?_)
          simp only [Act.put, List.setIfInBounds_toArray, List.set_cons_zero, List.set_cons_succ]
          refine hK _ ?_; clear hK K
          refine wpMix_skip (by kernel_rfl) (fun K hK => ?_)
          simp only [Act.put, List.setIfInBounds_toArray, List.set_cons_zero, List.set_cons_succ]
          refine hK _ ?_; clear hK K
          refine wpMix_skip (by kernel_rfl) (fun K hK => ?_)
          simp only [Act.put, List.setIfInBounds_toArray, List.set_cons_zero, List.set_cons_succ]
          refine hK _ ?_; clear hK K
          refine wpMix_skip (by kernel_rfl) (fun K hK => ?_)
          simp only [Act.put, List.setIfInBounds_toArray, List.set_cons_zero, List.set_cons_succ]
          refine hK _ ?_; clear hK K
          refine wpMix_skip (by kernel_rfl) (fun K hK => ?_)
          simp only [Act.put, List.setIfInBounds_toArray, List.set_cons_zero, List.set_cons_succ]
          refine hK _ ?_; clear hK K
          refine wpMix_skip (by kernel_rfl) (fun K hK => ?_)
          simp only [Act.put, List.setIfInBounds_toArray, List.set_cons_zero, List.set_cons_succ]
          refine hK _ ?_; clear hK K
          refine wpMix_skip (by kernel_rfl) (fun K hK => ?_)
          simp only [Act.put, List.setIfInBounds_toArray, List.set_cons_zero, List.set_cons_succ]
          refine hK _ ?_; clear hK K
          refine wpMix_skip (by kernel_rfl) (fun K hK => ?_)
          simp only [Act.put, List.setIfInBounds_toArray, List.set_cons_zero, List.set_cons_succ]
          refine hK _ ?_; clear hK K
          refine wpMix_skip (by kernel_rfl) (fun K hK => ?_)
          simp only [Act.put, List.setIfInBounds_toArray, List.set_cons_zero, List.set_cons_succ]
          refine hK _ ?_; clear hK K
          refine wpMix_skip (by kernel_rfl) (fun K hK => ?_)
          simp only [Act.put, List.setIfInBounds_toArray, List.set_cons_zero, List.set_cons_succ]
          refine hK _ ?_; clear hK K
          refine wpMix_skip (by kernel_rfl) (fun K hK => ?_)
          simp only [Act.put, List.setIfInBounds_toArray, List.set_cons_zero, List.set_cons_succ]
          refine hK _ ?_; clear hK K
          refine wpMix_skip (by kernel_rfl) (fun K hK => ?_)
          simp only [Act.put, List.setIfInBounds_toArray, List.set_cons_zero, List.set_cons_succ]
          refine hK _ ?_; clear hK K
          refine wpMix_skip (by kernel_rfl) (fun K hK => ?_)
          simp only [Act.put, List.setIfInBounds_toArray, List.set_cons_zero, List.set_cons_succ]
          refine hK _ ?_; clear hK K
          refine wpMix_skip (by kernel_rfl) (fun K hK => ?_)
          simp only [Act.put, List.setIfInBounds_toArray, List.set_cons_zero, List.set_cons_succ]
          refine hK _ ?_; clear hK K
          refine wpMix_skip (by kernel_rfl) (fun K hK => ?_)
          simp only [Act.put, List.setIfInBounds_toArray, List.set_cons_zero, List.set_cons_succ]
          refine hK _ ?_; clear hK K
          refine wpMix_skip (by kernel_rfl) (fun K hK => ?_)
          simp only [Act.put, List.setIfInBounds_toArray, List.set_cons_zero, List.set_cons_succ]
          refine hK _ ?_; clear hK K
          refine wpMix_skip (by kernel_rfl) (fun K hK => ?_)
          simp only [Act.put, List.setIfInBounds_toArray, List.set_cons_zero, List.set_cons_succ]
          refine hK _ ?_; clear hK K
          refine wpMix_skip (by kernel_rfl) (fun K hK => ?_)
          simp only [Act.put, List.setIfInBounds_toArray, List.set_cons_zero, List.set_cons_succ]
          refine hK _ ?_; clear hK K
          refine wpMix_skip (by kernel_rfl) (fun K hK => ?_)
          simp only [Act.put, List.setIfInBounds_toArray, List.set_cons_zero, List.set_cons_succ]
          refine hK _ ?_; clear hK K
          refine wpMix_skip (by kernel_rfl) (fun K hK => ?_)
          simp only [Act.put, List.setIfInBounds_toArray, List.set_cons_zero, List.set_cons_succ]
          refine hK _ ?_; clear hK K
          refine wpMix_skip (by kernel_rfl) (fun K hK => ?_)
          simp only [Act.put, List.setIfInBounds_toArray, List.set_cons_zero, List.set_cons_succ]
          refine hK _ ?_; clear hK K
          refine wpMix_skip (by kernel_rfl) (fun K hK => ?_)
          simp only [Act.put, List.setIfInBounds_toArray, List.set_cons_zero, List.set_cons_succ]
          refine hK _ ?_; clear hK K
          refine wpMix_skip (by kernel_rfl) (fun K hK => ?_)
          simp only [Act.put, List.setIfInBounds_toArray, List.set_cons_zero, List.set_cons_succ]
          refine hK _ ?_; clear hK K
          refine wpMix_skip (by kernel_rfl) (fun K hK => ?_)
          simp only [Act.put, List.setIfInBounds_toArray, List.set_cons_zero, List.set_cons_succ]
          refine hK _ ?_; clear hK K
          refine wpMix_skip (by kernel_rfl) (fun K hK => ?_)
          simp only [Act.put, List.setIfInBounds_toArray, List.set_cons_zero, List.set_cons_succ]
          refine hK _ ?_; clear hK K
          refine wpMix_skip (by kernel_rfl) (fun K hK => ?_)
          simp only [Act.put, List.setIfInBounds_toArray, List.set_cons_zero, List.set_cons_succ]
          refine hK _ ?_; clear hK K
          refine wpMix_skip (by kernel_rfl) (fun K hK => ?_)
          simp only [Act.put, List.setIfInBounds_toArray, List.set_cons_zero, List.set_cons_succ]
          refine hK _ ?_; clear hK K
          refine wpMix_skip (by kernel_rfl) (fun K hK => ?_)
          simp only [Act.put, List.setIfInBounds_toArray, List.set_cons_zero, List.set_cons_succ]
          refine hK _ ?_; clear hK K
          refine wpMix_skip (by kernel_rfl) (fun K hK => ?_)
          simp only [Act.put, List.setIfInBounds_toArray, List.set_cons_zero, List.set_cons_succ]
          refine hK _ ?_; clear hK K
          refine wpMix_skip (by kernel_rfl) (fun K hK => ?_)
          simp only [Act.put, List.setIfInBounds_toArray, List.set_cons_zero, List.set_cons_succ]
          refine hK _ ?_; clear hK K
          refine wpMix_skip (by kernel_rfl) (fun K hK => ?_)
          simp only [Act.put, List.setIfInBounds_toArray, List.set_cons_zero, List.set_cons_succ]
          refine hK _ ?_; clear hK K
          refine wpMix_pure (by kernel_rfl) (fun K hK => ?_)
          go_big_quiet_op
          refine hK _ ?_; clear hK K
          refine wpMix_nil ?_
          go_wp2
          have HZ : Hid (watchOk xs 0 = true) := by show _ = _; rw [watchOk_zero hlt]; exact hone
          go_roundw
          case rel => exact ⟨0 + 1, by omega, by go_num, allIdx_step H0.out HZ.out, hb.trans ((hW.mono hb.size).trans (hS0.mono (Nat.le_trans hb.size hW.size)))⟩
          case measure => simp [intOf]; omega
      · obtain ⟨m, rfl⟩ : ∃ m, k = m + 1 := ⟨k - 1, by omega⟩
        have hm : m < xs.length := by omega
        obtain ⟨b, off, rfl, _, hok, hp⟩ := PWatch.elem (hx.below' hb) hlt
        go_wp2_with fail
        refine (l26One_any _ _ xs[m + 1] _ hp hok).mono ?_
        rintro e w1 ⟨rfl, hb1⟩
        cases hone : watchB xs[m + 1]
        · have HZ : Hid (watchOk xs (m + 1) = false) := by show _ = _; rw [watchOk_succ hlt, hone]; rfl
          go_wp2
          go_ret
          exact ⟨ret_bool (by rw [watchsB_bad hlt HZ.out]), hb.trans (hb1.mono hb.size)⟩
        · have hbm := watchB_b (watchOk_before H0.out (Nat.lt_succ_self m) hk)
          obtain ⟨b1, off1, hA1, _, hokm, hpm⟩ := PWatch.elem (hx.below' hb) hm
          injection hA1 with hA1
          injection hA1 with hA1 hA2 _
          subst hA1 hA2
          go_wp2
          refine at_world (fun W => Below wr.heap.size wr W ∧ PWatch W b (off + (m + 1) * 4) xs[m + 1] ∧ PWatch W b (off + m * 4) xs[m]) ⟨hb1, hp.below' hb1, hpm.below' hb1⟩ ?_
          clear hp hpm
          rintro W ⟨hW, ⟨c0, c1, c2, c3⟩, ⟨d0, d1, d2, d3⟩⟩
          have gc0 := cell_regrown c0
          have gc1 := cell_regrown c1
          have gd0 := cell_regrown d0
          have gd1 := cell_regrown d1
          have gd2 := cell_regrown d2
          refine wp_region_mix (C := fun w' => ∃ p : Regrown, w' = Go.Sort.grow (redrawn W p.d) p.os) [true, true, true, true, true, true, true, true, true, true, true, true, true, true, true, true, true, true, true, true, true, true, true, true, true, true, true, true, true, true, true, true, true, true, true, true, true, true, true, true, true, true, true, true, true, true, true, true, true, true, true] (by kernel_rfl) (by kernel_rfl) (by kernel_rfl) (fun _ _ d _ _ h => by cases d <;> exact h) (regrown_of_below (Below.drew (Below.refl _ _))) ?_
          have hS0 : Below (W.heap.size) W W.drew := Below.drew (Below.refl _ _)
          refine wpMix_pure (by kernel_rfl) (fun K hK => ?_)
          go_big_quiet_op
          refine hK _ ?_; clear hK K
          refine wpMix_pure (by kernel_rfl) (fun K hK => ?_)
          go_big_quiet_op
          refine hK _ ?_; clear hK K
          refine wpMix_pure (by kernel_rfl) (fun K hK => ?_)
          go_big_quiet_op
          refine hK _ ?_; clear hK K
          refine wpMix_pure (by kernel_rfl) (fun K hK => ?_)
          go_big_quiet_op
          refine hK _ ?_; clear hK K
          refine wpMix_pure (by kernel_rfl) (fun K hK => ?_)
          go_big_quiet_op
          refine hK _ ?_; clear hK K
          refine wpMix_pure (by kernel_rfl) (fun K hK => ?_)
          go_big_quiet_op
          refine hK _ ?_; clear hK K
          refine wpMix_pure (by kernel_rfl) (fun K hK => ?_)
          go_big_quiet_op
          refine hK _ ?_; clear hK K
          refine wpMix_pure (by kernel_rfl) (fun K hK => ?_)
          go_big_quiet_op
          refine hK _ ?_; clear hK K
          refine wpMix_pure (by kernel_rfl) (fun K hK => ?_)
          go_big_quiet_op
          refine hK _ ?_; clear hK K
          refine wpMix_pure (by kernel_rfl) (fun K hK => ?_)
          go_big_quiet_op
          refine hK _ ?_; clear hK K
          refine wpMix_pure (by kernel_rfl) (fun K hK => ?_)
          go_big_quiet_op
          refine hK _ ?_; clear hK K
          refine wpMix_pure (by kernel_rfl) (fun K hK => ?_)
          go_big_quiet_op
          refine hK _ ?_; clear hK K
          refine wpMix_pure (by kernel_rfl) (fun K hK => ?_)
          go_big_quiet_op
          refine hK _ ?_; clear hK K
          refine wpMix_pure (by kernel_rfl) (fun K hK => ?_)
          go_big_quiet_op
          refine hK _ ?_; clear hK K
          by_cases hq14 : ltS xs[m + 1].person xs[m].person = true
          · skip
            have e14 : (!Op.bytesLess xs[m].person.toList xs[m + 1].person.toList && !(xs[m].person.toList == xs[m + 1].person.toList)) = true := by rw [← Bool.not_or, leS_eq, hq14]; rfl
            refine wpMix_pure (by kernel_rfl) (fun K hK => ?_)
            go_big_quiet_op
            refine hK _ ?_; clear hK K
            refine wpMix_pure (by kernel_rfl) (fun K hK => ?_)
            go_big_quiet_op
            refine hK _ ?_; clear hK K
            refine wpMix_skip (by kernel_rfl) (fun K hK => ?_)
            simp only [Act.put, List.setIfInBounds_toArray, List.set_cons_zero, List.set_cons_succ]
            refine hK _ ?_; clear hK K
            refine wpMix_skip (by kernel_rfl) (fun K hK => ?_)
            simp only [Act.put, List.setIfInBounds_toArray, List.set_cons_zero, List.set_cons_succ]
            refine hK _ ?_; clear hK K
            refine wpMix_skip (by kernel_rfl) (fun K hK => ?_)
            simp only [Act.put, List.setIfInBounds_toArray, List.set_cons_zero, List.set_cons_succ]
            refine hK _ ?_; clear hK K
            refine wpMix_skip (by kernel_rfl) (fun K hK => ?_)
            simp only [Act.put, List.setIfInBounds_toArray, List.set_cons_zero, List.set_cons_succ]
            refine hK _ ?_; clear hK K
            refine wpMix_skip (by kernel_rfl) (fun K hK => ?_)
            simp only [Act.put, List.setIfInBounds_toArray, List.set_cons_zero, List.set_cons_succ]
            refine hK _ ?_; clear hK K
            refine wpMix_skip (by kernel_rfl) (fun K hK => ?_)
            simp only [Act.put, List.setIfInBounds_toArray, List.set_cons_zero, List.set_cons_succ]
            refine hK _ ?_; clear hK K
            refine wpMix_skip (by kernel_rfl) (fun K hK => ?_)
            simp only [Act.put, List.setIfInBounds_toArray, List.set_cons_zero, List.set_cons_succ]
            refine hK _ ?_; clear hK K
            refine wpMix_skip (by kernel_rfl) (fun K hK => ?_)
            simp only [Act.put, List.setIfInBounds_toArray, List.set_cons_zero, List.set_cons_succ]
            refine hK _ ?_; clear hK K
            refine wpMix_skip (by kernel_rfl) (fun K hK => ?_)
            simp only [Act.put, List.setIfInBounds_toArray, List.set_cons_zero, List.set_cons_succ]
            refine hK _ ?_; clear hK K
            refine wpMix_skip (by kernel_rfl) (fun K hK => ?_)
            simp only [Act.put, List.setIfInBounds_toArray, List.set_cons_zero, List.set_cons_succ]
            refine hK _ ?_; clear hK K
            refine wpMix_skip (by kernel_rfl) (fun K hK => ?_)
            simp only [Act.put, List.setIfInBounds_toArray, List.set_cons_zero, List.set_cons_succ]
            refine hK _ ?_; clear hK K
            refine wpMix_skip (by kernel_rfl) (fun K hK => ?_)
            simp only [Act.put, List.setIfInBounds_toArray, List.set_cons_zero, List.set_cons_succ]
            refine hK _ ?_; clear hK K
            refine wpMix_skip (by kernel_rfl) (fun K hK => ?_)
            simp only [Act.put, List.setIfInBounds_toArray, List.set_cons_zero, List.set_cons_succ]
            refine hK _ ?_; clear hK K
            refine wpMix_skip (by kernel_rfl) (fun K hK => ?_)
            simp only [Act.put, List.setIfInBounds_toArray, List.set_cons_zero, List.set_cons_succ]
            refine hK _ ?_; clear hK K
            refine wpMix_skip (by kernel_rfl) (fun K hK => ?_)
            simp only [Act.put, List.setIfInBounds_toArray, List.set_cons_zero, List.set_cons_succ]
            refine hK _ ?_; clear hK K
            refine wpMix_skip (by kernel_rfl) (fun K hK => ?_)
            simp only [Act.put, List.setIfInBounds_toArray, List.set_cons_zero, List.set_cons_succ]
            refine hK _ ?_; clear hK K
            refine wpMix_skip (by kernel_rfl) (fun K hK => ?_)
            simp only [Act.put, List.setIfInBounds_toArray, List.set_cons_zero, List.set_cons_succ]
            refine hK _ ?_; clear hK K
            refine wpMix_skip (by kernel_rfl) (fun K hK => ?_)
            simp only [Act.put, List.setIfInBounds_toArray, List.set_cons_zero, List.set_cons_succ]
            refine hK _ ?_; clear hK K
            refine wpMix_skip (by kernel_rfl) (fun K hK => ?_)
            simp only [Act.put, List.setIfInBounds_toArray, List.set_cons_zero, List.set_cons_succ]
            refine hK _ ?_; clear hK K
            refine wpMix_skip (by kernel_rfl) (fun K hK => ?_)
            simp only [Act.put, List.setIfInBounds_toArray, List.set_cons_zero, List.set_cons_succ]
            refine hK _ ?_; clear hK K
            refine wpMix_skip (by kernel_rfl) (fun K hK => ?_)
            simp only [Act.put, List.setIfInBounds_toArray, List.set_cons_zero, List.set_cons_succ]
            refine hK _ ?_; clear hK K
            refine wpMix_skip (by kernel_rfl) (fun K hK => ?_)
            simp only [Act.put, List.setIfInBounds_toArray, List.set_cons_zero, List.set_cons_succ]
            refine hK _ ?_; clear hK K
            refine wpMix_skip (by kernel_rfl) (fun K hK => ?_)
            simp only [Act.put, List.setIfInBounds_toArray, List.set_cons_zero, List.set_cons_succ]
            refine hK _ ?_; clear hK K
            refine wpMix_skip (by kernel_rfl) (fun K hK => ?_)
            simp only [Act.put, List.setIfInBounds_toArray, List.set_cons_zero, List.set_cons_succ]
            refine hK _ ?_; clear hK K
            refine wpMix_skip (by kernel_rfl) (fun K hK => ?_)
            simp only [Act.put, List.setIfInBounds_toArray, List.set_cons_zero, List.set_cons_succ]
            refine hK _ ?_; clear hK K
            refine wpMix_skip (by kernel_rfl) (fun K hK => ?_)
            simp only [Act.put, List.setIfInBounds_toArray, List.set_cons_zero, List.set_cons_succ]
            refine hK _ ?_; clear hK K
            refine wpMix_skip (by kernel_rfl) (fun K hK => ?_)
            simp only [Act.put, List.setIfInBounds_toArray, List.set_cons_zero, List.set_cons_succ]
            refine hK _ ?_; clear hK K
            refine wpMix_skip (by kernel_rfl) (fun K hK => ?_)
            simp only [Act.put, List.setIfInBounds_toArray, List.set_cons_zero, List.set_cons_succ]
            refine hK _ ?_; clear hK K
            refine wpMix_skip (by kernel_rfl) (fun K hK => ?_)
            simp only [Act.put, List.setIfInBounds_toArray, List.set_cons_zero, List.set_cons_succ]
            refine hK _ ?_; clear hK K
            refine wpMix_skip (by kernel_rfl) (fun K hK => ?_)
            simp only [Act.put, List.setIfInBounds_toArray, List.set_cons_zero, List.set_cons_succ]
            refine hK _ ?_; clear hK K
            refine wpMix_skip (by kernel_rfl) (fun K hK => ?_)
            simp only [Act.put, List.setIfInBounds_toArray, List.set_cons_zero, List.set_cons_succ]
            refine hK _ ?_; clear hK K
            refine wpMix_skip (by kernel_rfl) (fun K hK => ?_)
            simp only [Act.put, List.setIfInBounds_toArray, List.set_cons_zero, List.set_cons_succ]
            refine hK _ ?_; clear hK K
            refine wpMix_skip (by kernel_rfl) (fun K hK => ?_)
            simp only [Act.put, List.setIfInBounds_toArray, List.set_cons_zero, List.set_cons_succ]
            refine hK _ ?_; clear hK K
            refine wpMix_pure (by kernel_rfl) (fun K hK => ?_)
            go_big_quiet_op
            refine hK _ ?_; clear hK K
            refine wpMix_pure (by kernel_rfl) (fun K hK => ?_)
            go_big_quiet_op
            refine hK _ ?_; clear hK K
            refine wpMix_nil ?_
            have HZ : Hid (watchOk xs (m + 1) = false) := by show _ = _; rw [watchOk_succ hlt, hone, (watchBef_gt hq14 : watchBef xs[m] xs[m + 1] = false)]; rfl
            go_wp2
            go_ret
            exact ⟨ret_bool (by rw [watchsB_bad hlt HZ.out]), hb.trans ((hW.mono hb.size).trans (hS0.mono (Nat.le_trans hb.size hW.size)))⟩
          · skip
            have e14 : (!Op.bytesLess xs[m].person.toList xs[m + 1].person.toList && !(xs[m].person.toList == xs[m + 1].person.toList)) = false := by rw [← Bool.not_or, leS_eq]; simpa using hq14
            refine wpMix_pure (by kernel_rfl) (fun K hK => ?_)
            go_big_quiet_op
            refine hK _ ?_; clear hK K
            refine wpMix_pure (by kernel_rfl) (fun K hK => ?_)
            go_big_quiet_op
            refine hK _ ?_; clear hK K
            refine wpMix_pure (by kernel_rfl) (fun K hK => ?_)
            go_big_quiet_op
            refine hK _ ?_; clear hK K
            refine wpMix_pure (by kernel_rfl) (fun K hK => ?_)
            go_big_quiet_op
            refine hK _ ?_; clear hK K
            refine wpMix_pure (by kernel_rfl) (fun K hK => ?_)
            go_big_quiet_op
            refine hK _ ?_; clear hK K
            refine wpMix_pure (by kernel_rfl) (fun K hK => ?_)
            go_big_quiet_op
            refine hK _ ?_; clear hK K
            refine wpMix_pure (by kernel_rfl) (fun K hK => ?_)
            go_big_quiet_op
            refine hK _ ?_; clear hK K
            refine wpMix_pure (by kernel_rfl) (fun K hK => ?_)
            go_big_quiet_op
            refine hK _ ?_; clear hK K
            refine wpMix_pure (by kernel_rfl) (fun K hK => ?_)
            go_big_quiet_op
            refine hK _ ?_; clear hK K
            refine wpMix_pure (by kernel_rfl) (fun K hK => ?_)
            go_big_quiet_op
            refine hK _ ?_; clear hK K
            refine wpMix_pure (by kernel_rfl) (fun K hK => ?_)
            go_big_quiet_op
            refine hK _ ?_; clear hK K
            refine wpMix_pure (by kernel_rfl) (fun K hK => ?_)
            go_big_quiet_op
            refine hK _ ?_; clear hK K
            refine wpMix_pure (by kernel_rfl) (fun K hK => ?_)
            go_big_quiet_op
            refine hK _ ?_; clear hK K
            by_cases hq27 : xs[m].person = xs[m + 1].person
            · skip
              have e27 : (xs[m].person.toList == xs[m + 1].person.toList) = true := eqS_true.2 hq27
              refine wpMix_pure (by kernel_rfl) (fun K hK => ?_)
              go_big_quiet_op
              refine hK _ ?_; clear hK K
              refine wpMix_pure (by kernel_rfl) (fun K hK => ?_)
              go_big_quiet_op
              refine hK _ ?_; clear hK K
              refine wpMix_pure (by kernel_rfl) (fun K hK => ?_)
              go_big_quiet_op
              refine hK _ ?_; clear hK K
              refine wpMix_pure (by kernel_rfl) (fun K hK => ?_)
              go_big_quiet_op
              refine hK _ ?_; clear hK K
              refine wpMix_pure (by kernel_rfl) (fun K hK => ?_)
              go_big_quiet_op
              refine hK _ ?_; clear hK K
              refine wpMix_pure (by kernel_rfl) (fun K hK => ?_)
              go_big_quiet_op
              refine hK _ ?_; clear hK K
              refine wpMix_pure (by kernel_rfl) (fun K hK => ?_)
              go_big_quiet_op
              refine hK _ ?_; clear hK K
              refine wpMix_pure (by kernel_rfl) (fun K hK => ?_)
              go_big_quiet_op
              refine hK _ ?_; clear hK K
              refine wpMix_pure (by kernel_rfl) (fun K hK => ?_)
              go_big_quiet_op
              refine hK _ ?_; clear hK K
              refine wpMix_pure (by kernel_rfl) (fun K hK => ?_)
              go_big_quiet_op
              refine hK _ ?_; clear hK K
              refine wpMix_pure (by kernel_rfl) (fun K hK => ?_)
              go_big_quiet_op
              refine hK _ ?_; clear hK K
              refine wpMix_pure (by kernel_rfl) (fun K hK => ?_)
              go_big_quiet_op
              refine hK _ ?_; clear hK K
              refine wpMix_pure (by kernel_rfl) (fun K hK => ?_)
              go_big_quiet_op
              refine hK _ ?_; clear hK K
              refine wpMix_pure (by kernel_rfl) (fun K hK => ?_)
              go_big_quiet_op
              refine hK _ ?_; clear hK K
              refine wpMix_pure (by kernel_rfl) (fun K hK => ?_)
              go_big_quiet_op
              refine hK _ ?_; clear hK K
              refine wpMix_pure (by kernel_rfl) (fun K hK => ?_)
              go_big_quiet_op
              refine hK _ ?_; clear hK K
              refine wpMix_pure (by kernel_rfl) (fun K hK => ?_)
              go_big_quiet_op
              refine hK _ ?_; clear hK K
              refine wpMix_pure (by kernel_rfl) (fun K hK => ?_)
              go_big_quiet_op
              refine hK _ ?_; clear hK K
              refine wpMix_pure (by kernel_rfl) (fun K hK => ?_)
              go_big_quiet_op
              refine hK _ ?_; clear hK K
              refine wpMix_pure (by kernel_rfl) (fun K hK => ?_)
              go_big_quiet_op
              refine hK _ ?_; clear hK K
              by_cases hq47 : xs[m + 1].start < xs[m].start + xs[m].hours
              · skip
                have e47 : decide (xs[m + 1].start < xs[m].start + xs[m].hours) = true := by simpa using hq47
                refine wpMix_pure (by kernel_rfl) (fun K hK => ?_)
                go_big_quiet_op
                refine hK _ ?_; clear hK K
                refine wpMix_pure (by kernel_rfl) (fun K hK => ?_)
                go_big_quiet_op
                refine hK _ ?_; clear hK K
                refine wpMix_pure (by kernel_rfl) (fun K hK => ?_)
                go_big_quiet_op
                refine hK _ ?_; clear hK K
                refine wpMix_pure (by kernel_rfl) (fun K hK => ?_)
                go_big_quiet_op
                refine hK _ ?_; clear hK K
                refine wpMix_nil ?_
                have HZ : Hid (watchOk xs (m + 1) = false) := by show _ = _; rw [watchOk_succ hlt, hone, ((watchBef_eq hq27).trans (decide_eq_false (by omega)) : watchBef xs[m] xs[m + 1] = false)]; rfl
                go_wp2
                go_ret
                exact ⟨ret_bool (by rw [watchsB_bad hlt HZ.out]), hb.trans ((hW.mono hb.size).trans (hS0.mono (Nat.le_trans hb.size hW.size)))⟩
              · skip
                have e47 : decide (xs[m + 1].start < xs[m].start + xs[m].hours) = false := by simpa using hq47
                refine wpMix_pure (by kernel_rfl) (fun K hK => ?_)
                go_big_quiet_op
                refine hK _ ?_; clear hK K
                refine wpMix_pure (by kernel_rfl) (fun K hK => ?_)
                go_big_quiet_op
                refine hK _ ?_; clear hK K
                refine wpMix_pure (by kernel_rfl) (fun K hK => ?_)
                go_big_quiet_op
                refine hK _ ?_; clear hK K
                refine wpMix_pure (by kernel_rfl) (fun K hK => ?_)
                go_big_quiet_op
                refine hK _ ?_; clear hK K
                refine wpMix_nil ?_
                have HZ : Hid (watchOk xs (m + 1) = true) := by show _ = _; rw [watchOk_succ hlt, hone, ((watchBef_eq hq27).trans (decide_eq_true (by omega)) : watchBef xs[m] xs[m + 1] = true)]; rfl
                go_wp2
                go_roundw
                case rel => exact ⟨m + 1 + 1, by omega, by go_num, allIdx_step H0.out HZ.out, hb.trans ((hW.mono hb.size).trans (hS0.mono (Nat.le_trans hb.size hW.size)))⟩
                case measure => simp [intOf]; omega
            · skip
              have e27 : (xs[m].person.toList == xs[m + 1].person.toList) = false := bytes_beq_false hq27
              refine wpMix_pure (by kernel_rfl) (fun K hK => ?_)
              go_big_quiet_op
              refine hK _ ?_; clear hK K
              refine wpMix_pure (by kernel_rfl) (fun K hK => ?_)
              go_big_quiet_op
              refine hK _ ?_; clear hK K
              refine wpMix_skip (by kernel_rfl) (fun K hK => ?_)
              simp only [Act.put, List.setIfInBounds_toArray, List.set_cons_zero, List.set_cons_succ]
              refine hK _ ?_; clear hK K
              refine wpMix_skip (by kernel_rfl) (fun K hK => ?_)
              simp only [Act.put, List.setIfInBounds_toArray, List.set_cons_zero, List.set_cons_succ]
              refine hK _ ?_; clear hK K
              refine wpMix_skip (by kernel_rfl) (fun K hK => ?_)
              simp only [Act.put, List.setIfInBounds_toArray, List.set_cons_zero, List.set_cons_succ]
              refine hK _ ?_; clear hK K
              refine wpMix_skip (by kernel_rfl) (fun K hK => ?_)
              simp only [Act.put, List.setIfInBounds_toArray, List.set_cons_zero, List.set_cons_succ]
              refine hK _ ?_; clear hK K
              refine wpMix_skip (by kernel_rfl) (fun K hK => ?_)
              simp only [Act.put, List.setIfInBounds_toArray, List.set_cons_zero, List.set_cons_succ]
              refine hK _ ?_; clear hK K
              refine wpMix_skip (by kernel_rfl) (fun K hK => ?_)
              simp only [Act.put, List.setIfInBounds_toArray, List.set_cons_zero, List.set_cons_succ]
              refine hK _ ?_; clear hK K
              refine wpMix_skip (by kernel_rfl) (fun K hK => ?_)
              simp only [Act.put, List.setIfInBounds_toArray, List.set_cons_zero, List.set_cons_succ]
              refine hK _ ?_; clear hK K
              refine wpMix_skip (by kernel_rfl) (fun K hK => ?_)
              simp only [Act.put, List.setIfInBounds_toArray, List.set_cons_zero, List.set_cons_succ]
              refine hK _ ?_; clear hK K
              refine wpMix_skip (by kernel_rfl) (fun K hK => ?_)
              simp only [Act.put, List.setIfInBounds_toArray, List.set_cons_zero, List.set_cons_succ]
              refine hK _ ?_; clear hK K
              refine wpMix_skip (by kernel_rfl) (fun K hK => ?_)
              simp only [Act.put, List.setIfInBounds_toArray, List.set_cons_zero, List.set_cons_succ]
              refine hK _ ?_; clear hK K
              refine wpMix_skip (by kernel_rfl) (fun K hK => ?_)
              simp only [Act.put, List.setIfInBounds_toArray, List.set_cons_zero, List.set_cons_succ]
              refine hK _ ?_; clear hK K
              refine wpMix_skip (by kernel_rfl) (fun K hK => ?_)
              simp only [Act.put, List.setIfInBounds_toArray, List.set_cons_zero, List.set_cons_succ]
              refine hK _ ?_; clear hK K
              refine wpMix_skip (by kernel_rfl) (fun K hK => ?_)
              simp only [Act.put, List.setIfInBounds_toArray, List.set_cons_zero, List.set_cons_succ]
              refine hK _ ?_; clear hK K
              refine wpMix_skip (by kernel_rfl) (fun K hK => ?_)
              simp only [Act.put, List.setIfInBounds_toArray, List.set_cons_zero, List.set_cons_succ]
              refine hK _ ?_; clear hK K
              refine wpMix_skip (by kernel_rfl) (fun K hK => ?_)
              simp only [Act.put, List.setIfInBounds_toArray, List.set_cons_zero, List.set_cons_succ]
              refine hK _ ?_; clear hK K
              refine wpMix_skip (by kernel_rfl) (fun K hK => ?_)
              simp only [Act.put, List.setIfInBounds_toArray, List.set_cons_zero, List.set_cons_succ]
              refine hK _ ?_; clear hK K
              refine wpMix_skip (by kernel_rfl) (fun K hK => ?_)
              simp only [Act.put, List.setIfInBounds_toArray, List.set_cons_zero, List.set_cons_succ]
              refine hK _ ?_; clear hK K
              refine wpMix_skip (by kernel_rfl) (fun K hK => ?_)
              simp only [Act.put, List.setIfInBounds_toArray, List.set_cons_zero, List.set_cons_succ]
              refine hK _ ?_; clear hK K
              refine wpMix_skip (by kernel_rfl) (fun K hK => ?_)
              simp only [Act.put, List.setIfInBounds_toArray, List.set_cons_zero, List.set_cons_succ]
              refine hK _ ?_; clear hK K
              refine wpMix_pure (by kernel_rfl) (fun K hK => ?_)
              go_big_quiet_op
              refine hK _ ?_; clear hK K
              refine wpMix_pure (by kernel_rfl) (fun K hK => ?_)
              go_big_quiet_op
              refine hK _ ?_; clear hK K
              refine wpMix_pure (by kernel_rfl) (fun K hK => ?_)
              go_big_quiet_op
              refine hK _ ?_; clear hK K
              refine wpMix_nil ?_
              have HZ : Hid (watchOk xs (m + 1) = true) := by show _ = _; rw [watchOk_succ hlt, hone, (watchBef_lt (by simpa using hq14) hq27 : watchBef xs[m] xs[m + 1] = true)]; rfl
              go_wp2
              go_roundw
              case rel => exact ⟨m + 1 + 1, by omega, by go_num, allIdx_step H0.out HZ.out, hb.trans ((hW.mono hb.size).trans (hS0.mono (Nat.le_trans hb.size hW.size)))⟩
              case measure => simp [intOf]; omega
    · have HF := Lib.hid (allIdx_full (by omega) hk H0.out)
      by_cases hle : xs.length ≤ 32
      all_goals
        go_wp2
        go_ret
        exact ⟨ret_bool (by unfold watchsB; rw [HF.out]; simp [hle] <;> omega), hb⟩
theorem cmpW_bad {a b : DWatch} (h : decide (cmpW a b < 0) = false) (hb : 0 ≤ a.start ∧ a.start ≤ 10000 ∧ 1 ≤ a.hours ∧ a.hours ≤ 48) : watchBef a b = false := by
  by_cases h1 : a.person = b.person
  · rw [cmpW_eq h1] at h
    rw [watchBef_eq h1]
    simp at h ⊢
    omega
  · rw [← cmpW_ne h1]; exact h
set_option maxRecDepth 100000 in
set_option maxHeartbeats 40000000 in
theorem ValidWatches_any (v : Value) (xs : List DWatch) (fp : List Nat) (w : World) (hx : Sl fWatch.cod w v xs fp) :
    Calls Tryz.prog 44 #[v] w fun e w' => e = .returned (.bool (watchsB xs)) ∧ Below w.heap.size w w' := by
  obtain ⟨A, cap, rfl, hlen, hcap⟩ := hx.form
  by_cases hle : xs.length ≤ 32
  · go_enter Tryz.func44, Tryz.ntmps44
    go_wp2
    go_loopw [10] (fun i wr => ∃ k : Nat, k ≤ xs.length ∧ i = .int .i64 k ∧ Hid (allIdx (watchOk xs) k = true) ∧ Below w.heap.size w wr) (fun i _ => xs.length - (intOf i).toNat)
    case atStart => exact ⟨0, Nat.zero_le _, rfl, rfl, Below.refl _ _⟩
    case round =>
      obtain ⟨k, hk, rfl, H0, hb⟩ := hrel
      by_cases hlt : k < xs.length
      · rcases Nat.eq_zero_or_pos k with rfl | hpos
        · skip
          obtain ⟨b, off, rfl, _, hok, hp⟩ := PWatch.elem (hx.below' hb) hlt
          rw [Nat.zero_mul, Nat.add_zero] at hp
          obtain ⟨c0, c1, c2, c3⟩ := id hp
          go_wp2
          refine at_world (fun W => Below wr.heap.size wr W ∧ PWatch W wr.heap.size 0 xs[0]) ⟨(Below.refl _ _).alloc (Nat.le_refl _) _, PWatch.box wr xs[0] _⟩ ?_
          clear c0 c1 c2 c3 hp
          rintro W ⟨hW, hpW⟩
          obtain ⟨c0, c1, c2, c3⟩ := id hpW
          have gc0 := cell_regrown c0
          have gc1 := cell_regrown c1
          have gc2 := cell_regrown c2
          have gc3 := cell_regrown c3
          refine wp_region_mix (C := fun w' => ∃ p : Regrown, w' = Go.Sort.grow (redrawn W p.d) p.os) [true, false, true, true, true, true, true, true, true, true, true, true, true, false, true, true, true] (by kernel_rfl) (by kernel_rfl) (by kernel_rfl) (fun _ _ d _ _ h => by cases d <;> exact h) (regrown_of_below (Below.drew (Below.refl _ _))) ?_
          have hS0 : Below (W.heap.size) W W.drew := Below.drew (Below.refl _ _)
          refine wpMix_pure (by kernel_rfl) (fun K hK => ?_)
          go_big_quiet_op
          refine hK _ ?_; clear hK K
          refine wpMix_act (by kernel_rfl) (fun K hK => ?_)
          go_big_op
          refine (validWatch_any xs[0] _ hok).mono ?_
          rintro e wr1 ⟨rfl, hbr1⟩
          have hbr1S : Below (W.heap.size) W wr1 := hS0.trans (hbr1.mono hS0.size)
          refine hK _ _ (regrown_of_below hbr1S) ?_
          clear hK K
          cases hq1 : watchB xs[0]
          · skip
            refine wpMix_pure (by kernel_rfl) (fun K hK => ?_)
            go_big_quiet_op
            refine hK _ ?_; clear hK K
            refine wpMix_pure (by kernel_rfl) (fun K hK => ?_)
            go_big_quiet_op
            refine hK _ ?_; clear hK K
            refine wpMix_skip (by kernel_rfl) (fun K hK => ?_)
            simp only [Act.put, List.setIfInBounds_toArray, List.set_cons_zero, List.set_cons_succ]
            refine hK _ ?_; clear hK K
            refine wpMix_skip (by kernel_rfl) (fun K hK => ?_)
            simp only [Act.put, List.setIfInBounds_toArray, List.set_cons_zero, List.set_cons_succ]
            refine hK _ ?_; clear hK K
            refine wpMix_skip (by kernel_rfl) (fun K hK => ?_)
            simp only [Act.put, List.setIfInBounds_toArray, List.set_cons_zero, List.set_cons_succ]
            refine hK _ ?_; clear hK K
            refine wpMix_skip (by kernel_rfl) (fun K hK => ?_)
            simp only [Act.put, List.setIfInBounds_toArray, List.set_cons_zero, List.set_cons_succ]
            refine hK _ ?_; clear hK K
            refine wpMix_skip (by kernel_rfl) (fun K hK => ?_)
            simp only [Act.put, List.setIfInBounds_toArray, List.set_cons_zero, List.set_cons_succ]
            refine hK _ ?_; clear hK K
            refine wpMix_skip (by kernel_rfl) (fun K hK => ?_)
            simp only [Act.put, List.setIfInBounds_toArray, List.set_cons_zero, List.set_cons_succ]
            refine hK _ ?_; clear hK K
            refine wpMix_skip (by kernel_rfl) (fun K hK => ?_)
            simp only [Act.put, List.setIfInBounds_toArray, List.set_cons_zero, List.set_cons_succ]
            refine hK _ ?_; clear hK K
            refine wpMix_skip (by kernel_rfl) (fun K hK => ?_)
            simp only [Act.put, List.setIfInBounds_toArray, List.set_cons_zero, List.set_cons_succ]
            refine hK _ ?_; clear hK K
            refine wpMix_skip (by kernel_rfl) (fun K hK => ?_)
            simp only [Act.put, List.setIfInBounds_toArray, List.set_cons_zero, List.set_cons_succ]
            refine hK _ ?_; clear hK K
            refine wpMix_skip (by kernel_rfl) (fun K hK => ?_)
            simp only [Act.put, List.setIfInBounds_toArray, List.set_cons_zero, List.set_cons_succ]
            refine hK _ ?_; clear hK K
            refine wpMix_skip (by kernel_rfl) (fun K hK => ?_)
            simp only [Act.put, List.setIfInBounds_toArray, List.set_cons_zero, List.set_cons_succ]
            refine hK _ ?_; clear hK K
            refine wpMix_skip (by kernel_rfl) (fun K hK => ?_)
            simp only [Act.put, List.setIfInBounds_toArray, List.set_cons_zero, List.set_cons_succ]
            refine hK _ ?_; clear hK K
            refine wpMix_pure (by kernel_rfl) (fun K hK => ?_)
            go_big_quiet_op
            refine hK _ ?_; clear hK K
            refine wpMix_nil ?_
            have HZ : Hid (watchOk xs (0) = false) := by show _ = _; rw [watchOk_zero hlt]; simp [*]
            go_wp2
            go_ret
            exact ⟨ret_bool (by rw [watchsB_bad hlt HZ.out]), hb.trans (hW.trans (hbr1S.mono hW.size) |>.mono hb.size)⟩
          · skip
            refine wpMix_pure (by kernel_rfl) (fun K hK => ?_)
            go_big_quiet_op
            refine hK _ ?_; clear hK K
            refine wpMix_pure (by kernel_rfl) (fun K hK => ?_)
            go_big_quiet_op
            refine hK _ ?_; clear hK K
            refine wpMix_pure (by kernel_rfl) (fun K hK => ?_)
            go_big_quiet_op
            refine hK _ ?_; clear hK K
            refine wpMix_pure (by kernel_rfl) (fun K hK => ?_)
            go_big_quiet_op
            refine hK _ ?_; clear hK K
            refine wpMix_pure (by kernel_rfl) (fun K hK => ?_)
            go_big_quiet_op
            refine hK _ ?_; clear hK K
            refine wpMix_skip (by kernel_rfl) (fun K hK => ?_)
            simp only [Act.put, List.setIfInBounds_toArray, List.set_cons_zero, List.set_cons_succ]
            refine hK _ ?_; clear hK K
            refine wpMix_skip (by kernel_rfl) (fun K hK => ?_)
            simp only [Act.put, List.setIfInBounds_toArray, List.set_cons_zero, List.set_cons_succ]
            refine hK _ ?_; clear hK K
            refine wpMix_skip (by kernel_rfl) (fun K hK => ?_)
            simp only [Act.put, List.setIfInBounds_toArray, List.set_cons_zero, List.set_cons_succ]
            refine hK _ ?_; clear hK K
            refine wpMix_skip (by kernel_rfl) (fun K hK => ?_)
            simp only [Act.put, List.setIfInBounds_toArray, List.set_cons_zero, List.set_cons_succ]
            refine hK _ ?_; clear hK K
            refine wpMix_skip (by kernel_rfl) (fun K hK => ?_)
            simp only [Act.put, List.setIfInBounds_toArray, List.set_cons_zero, List.set_cons_succ]
            refine hK _ ?_; clear hK K
            refine wpMix_skip (by kernel_rfl) (fun K hK => ?_)
            simp only [Act.put, List.setIfInBounds_toArray, List.set_cons_zero, List.set_cons_succ]
            refine hK _ ?_; clear hK K
            refine wpMix_skip (by kernel_rfl) (fun K hK => ?_)
            simp only [Act.put, List.setIfInBounds_toArray, List.set_cons_zero, List.set_cons_succ]
            refine hK _ ?_; clear hK K
            refine wpMix_skip (by kernel_rfl) (fun K hK => ?_)
            simp only [Act.put, List.setIfInBounds_toArray, List.set_cons_zero, List.set_cons_succ]
            refine hK _ ?_; clear hK K
            refine wpMix_pure (by kernel_rfl) (fun K hK => ?_)
            go_big_quiet_op
            refine hK _ ?_; clear hK K
            refine wpMix_pure (by kernel_rfl) (fun K hK => ?_)
            go_big_quiet_op
            refine hK _ ?_; clear hK K
            refine wpMix_nil ?_
            have hone : watchB xs[0] = true := by assumption
            go_wp2
            refine at_world (fun V => Below wr.heap.size wr V ∧ PWatch V wr.heap.size 0 xs[0]) ⟨(hW.trans (hbr1S.mono hW.size)), hpW.below hbr1S hpW.lt⟩ ?_
            clear c0 c1 c2 c3 hpW
            (try clear gc0 gc1 gc2 gc3)
            rintro V ⟨hV, ⟨c0, c1, c2, c3⟩⟩
            have gc0 := cell_regrown c0
            refine wp_region_mixed [0, 1, 2, 3, 4, 5, 6, 7, 8, 9, 10, 11, 12, 13, 14, 15, 16, 17, 18, 20, 21, 19, 22, 23] (C := fun w' => ∃ p : Regrown, w' = Go.Sort.grow (redrawn V p.d) p.os) [true, true, true, true, true, true, true, true, true, true, true, true, true, true, true, true, true, true, true, true, true, false, true, true] (by kernel_rfl) (by kernel_rfl) (by kernel_rfl) (fun _ _ d _ _ h => by cases d <;> exact h) (regrown_of_below (Below.drew (Below.refl _ _))) ?_
            simp only [List.map_cons, List.map_nil, List.getD_cons_zero, List.getD_cons_succ]
            have hS0 : Below (V.heap.size) V V.drew := Below.drew (Below.refl _ _)
            refine wpMix_pure (by kernel_rfl) (fun K hK => ?_)
            go_big_quiet_op
            refine hK _ ?_; clear hK K
            refine wpMix_pure (by kernel_rfl) (fun K hK => ?_)
            go_big_quiet_op
            refine hK _ ?_; clear hK K
            refine wpMix_pure (by kernel_rfl) (fun K hK => ?_)
            go_big_quiet_op
            refine hK _ ?_; clear hK K
            refine wpMix_skip (by kernel_rfl) (fun K hK => ?_)
            simp only [Act.put, List.setIfInBounds_toArray, List.set_cons_zero, List.set_cons_succ]
            refine hK _ ?_; clear hK K
            refine wpMix_skip (by kernel_rfl) (fun K hK => ?_)
            simp only [Act.put, List.setIfInBounds_toArray, List.set_cons_zero, List.set_cons_succ]
            refine hK _ ?_; clear hK K
            refine wpMix_skip (by kernel_rfl) (fun K hK => ?_)
            simp only [Act.put, List.setIfInBounds_toArray, List.set_cons_zero, List.set_cons_succ]
            refine hK _ ?_; clear hK K
            refine wpMix_skip (by kernel_rfl) (fun K hK => ?_)
            simp only [Act.put, List.setIfInBounds_toArray, List.set_cons_zero, List.set_cons_succ]
            refine hK _ ?_; clear hK K
            refine wpMix_skip (by kernel_rfl) (fun K hK => ?_)
            simp only [Act.put, List.setIfInBounds_toArray, List.set_cons_zero, List.set_cons_succ]
            refine hK _ ?_; clear hK K
            refine wpMix_skip (by kernel_rfl) (fun K hK => ?_)
            simp only [Act.put, List.setIfInBounds_toArray, List.set_cons_zero, List.set_cons_succ]
            refine hK _ ?_; clear hK K
            refine wpMix_skip (by kernel_rfl) (fun K hK => ?_)
            simp only [Act.put, List.setIfInBounds_toArray, List.set_cons_zero, List.set_cons_succ]
            refine hK _ ?_; clear hK K
            refine wpMix_skip (by kernel_rfl) (fun K hK => ?_)
            simp only [Act.put, List.setIfInBounds_toArray, List.set_cons_zero, List.set_cons_succ]
            refine hK _ ?_; clear hK K
            refine wpMix_skip (by kernel_rfl) (fun K hK => ?_)
            simp only [Act.put, List.setIfInBounds_toArray, List.set_cons_zero, List.set_cons_succ]
            refine hK _ ?_; clear hK K
            refine wpMix_pure (by kernel_rfl) (fun K hK => ?_)
            go_big_quiet_op
            refine hK _ ?_; clear hK K
            refine wpMix_pure (by kernel_rfl) (fun K hK => ?_)
            go_big_quiet_op
            refine hK _ ?_; clear hK K
            refine wpMix_skip (by kernel_rfl) (fun K hK => ?_)
            simp only [Act.put, List.setIfInBounds_toArray, List.set_cons_zero, List.set_cons_succ]
            refine hK _ ?_; clear hK K
            refine wpMix_skip (by kernel_rfl) (fun K hK => ?_)
            simp only [Act.put, List.setIfInBounds_toArray, List.set_cons_zero, List.set_cons_succ]
            refine hK _ ?_; clear hK K
            refine wpMix_skip (by kernel_rfl) (fun K hK => ?_)
            simp only [Act.put, List.setIfInBounds_toArray, List.set_cons_zero, List.set_cons_succ]
            refine hK _ ?_; clear hK K
            refine wpMix_skip (by kernel_rfl) (fun K hK => ?_)
            simp only [Act.put, List.setIfInBounds_toArray, List.set_cons_zero, List.set_cons_succ]
            refine hK _ ?_; clear hK K
            refine wpMix_skip (by kernel_rfl) (fun K hK => ?_)
            simp only [Act.put, List.setIfInBounds_toArray, List.set_cons_zero, List.set_cons_succ]
            refine hK _ ?_; clear hK K
            refine wpMix_skip (by kernel_rfl) (fun K hK => ?_)
            simp only [Act.put, List.setIfInBounds_toArray, List.set_cons_zero, List.set_cons_succ]
            refine hK _ ?_; clear hK K
            refine wpMix_skip (by kernel_rfl) (fun K hK => ?_)
            simp only [Act.put, List.setIfInBounds_toArray, List.set_cons_zero, List.set_cons_succ]
            refine hK _ ?_; clear hK K
            refine wpMix_skip (by kernel_rfl) (fun K hK => ?_)
            simp only [Act.put, List.setIfInBounds_toArray, List.set_cons_zero, List.set_cons_succ]
            refine hK _ ?_; clear hK K
            refine wpMix_skip (by kernel_rfl) (fun K hK => ?_)
            simp only [Act.put, List.setIfInBounds_toArray, List.set_cons_zero, List.set_cons_succ]
            refine hK _ ?_; clear hK K
            refine wpMix_pure (by kernel_rfl) (fun K hK => ?_)
            go_big_quiet_op
            refine hK _ ?_; clear hK K
            refine wpMix_nil ?_
            go_wp2
            have HZ : Hid (watchOk xs 0 = true) := by show _ = _; rw [watchOk_zero hlt]; exact hone
            go_roundw
            case rel => exact ⟨0 + 1, by omega, by go_num, allIdx_step H0.out HZ.out, hb.trans (hV.trans (hS0.mono hV.size) |>.mono hb.size)⟩
            case measure => simp [intOf]; omega
        · obtain ⟨m, rfl⟩ : ∃ m, k = m + 1 := ⟨k - 1, by omega⟩
          have hm : m < xs.length := by omega
          obtain ⟨b, off, rfl, _, hok, hp⟩ := PWatch.elem (hx.below' hb) hlt
          skip
          obtain ⟨c0, c1, c2, c3⟩ := id hp
          have hbm := watchB_b (watchOk_before H0.out (Nat.lt_succ_self m) hk)
          obtain ⟨b1, off1, hA1, _, hokm, hpm⟩ := PWatch.elem (hx.below' hb) hm
          injection hA1 with hA1
          injection hA1 with hA1 hA2 _
          subst hA1 hA2
          go_wp2
          refine at_world (fun W => Below wr.heap.size wr W ∧ PWatch W wr.heap.size 0 xs[m + 1] ∧ PWatch W b (off + m * 4) xs[m]) ⟨(Below.refl _ _).alloc (Nat.le_refl _) _, PWatch.box wr xs[m + 1] _, hpm.below' ((Below.refl _ _).alloc (Nat.le_refl _) _)⟩ ?_
          clear c0 c1 c2 c3 hpm hp
          rintro W ⟨hW, hpW, hpm⟩
          obtain ⟨c0, c1, c2, c3⟩ := id hpW
          obtain ⟨d0, d1, d2, d3⟩ := id hpm
          have gc0 := cell_regrown c0
          have gc1 := cell_regrown c1
          have gc2 := cell_regrown c2
          have gc3 := cell_regrown c3
          have gd0 := cell_regrown d0
          have gd1 := cell_regrown d1
          have gd2 := cell_regrown d2
          have gd3 := cell_regrown d3
          refine wp_region_mix (C := fun w' => ∃ p : Regrown, w' = Go.Sort.grow (redrawn W p.d) p.os) [true, false, true, true, true, true, true, true, true, true, true, true, true, false, true, true, true] (by kernel_rfl) (by kernel_rfl) (by kernel_rfl) (fun _ _ d _ _ h => by cases d <;> exact h) (regrown_of_below (Below.drew (Below.refl _ _))) ?_
          have hS0 : Below (W.heap.size) W W.drew := Below.drew (Below.refl _ _)
          refine wpMix_pure (by kernel_rfl) (fun K hK => ?_)
          go_big_quiet_op
          refine hK _ ?_; clear hK K
          refine wpMix_act (by kernel_rfl) (fun K hK => ?_)
          go_big_op
          refine (validWatch_any xs[m + 1] _ hok).mono ?_
          rintro e wr1 ⟨rfl, hbr1⟩
          have hbr1S : Below (W.heap.size) W wr1 := hS0.trans (hbr1.mono hS0.size)
          refine hK _ _ (regrown_of_below hbr1S) ?_
          clear hK K
          cases hq1 : watchB xs[m + 1]
          · skip
            refine wpMix_pure (by kernel_rfl) (fun K hK => ?_)
            go_big_quiet_op
            refine hK _ ?_; clear hK K
            refine wpMix_pure (by kernel_rfl) (fun K hK => ?_)
            go_big_quiet_op
            refine hK _ ?_; clear hK K
            refine wpMix_skip (by kernel_rfl) (fun K hK => ?_)
            simp only [Act.put, List.setIfInBounds_toArray, List.set_cons_zero, List.set_cons_succ]
            refine hK _ ?_; clear hK K
            refine wpMix_skip (by kernel_rfl) (fun K hK => ?_)
            simp only [Act.put, List.setIfInBounds_toArray, List.set_cons_zero, List.set_cons_succ]
            refine hK _ ?_; clear hK K
            refine wpMix_skip (by kernel_rfl) (fun K hK => ?_)
            simp only [Act.put, List.setIfInBounds_toArray, List.set_cons_zero, List.set_cons_succ]
            refine hK _ ?_; clear hK K
            refine wpMix_skip (by kernel_rfl) (fun K hK => ?_)
            simp only [Act.put, List.setIfInBounds_toArray, List.set_cons_zero, List.set_cons_succ]
            refine hK _ ?_; clear hK K
            refine wpMix_skip (by kernel_rfl) (fun K hK => ?_)
            simp only [Act.put, List.setIfInBounds_toArray, List.set_cons_zero, List.set_cons_succ]
            refine hK _ ?_; clear hK K
            refine wpMix_skip (by kernel_rfl) (fun K hK => ?_)
            simp only [Act.put, List.setIfInBounds_toArray, List.set_cons_zero, List.set_cons_succ]
            refine hK _ ?_; clear hK K
            refine wpMix_skip (by kernel_rfl) (fun K hK => ?_)
            simp only [Act.put, List.setIfInBounds_toArray, List.set_cons_zero, List.set_cons_succ]
            refine hK _ ?_; clear hK K
            refine wpMix_skip (by kernel_rfl) (fun K hK => ?_)
            simp only [Act.put, List.setIfInBounds_toArray, List.set_cons_zero, List.set_cons_succ]
            refine hK _ ?_; clear hK K
            refine wpMix_skip (by kernel_rfl) (fun K hK => ?_)
            simp only [Act.put, List.setIfInBounds_toArray, List.set_cons_zero, List.set_cons_succ]
            refine hK _ ?_; clear hK K
            refine wpMix_skip (by kernel_rfl) (fun K hK => ?_)
            simp only [Act.put, List.setIfInBounds_toArray, List.set_cons_zero, List.set_cons_succ]
            refine hK _ ?_; clear hK K
            refine wpMix_skip (by kernel_rfl) (fun K hK => ?_)
            simp only [Act.put, List.setIfInBounds_toArray, List.set_cons_zero, List.set_cons_succ]
            refine hK _ ?_; clear hK K
            refine wpMix_skip (by kernel_rfl) (fun K hK => ?_)
            simp only [Act.put, List.setIfInBounds_toArray, List.set_cons_zero, List.set_cons_succ]
            refine hK _ ?_; clear hK K
            refine wpMix_pure (by kernel_rfl) (fun K hK => ?_)
            go_big_quiet_op
            refine hK _ ?_; clear hK K
            refine wpMix_nil ?_
            have HZ : Hid (watchOk xs (m + 1) = false) := by show _ = _; rw [watchOk_succ hlt]; simp [*]
            go_wp2
            go_ret
            exact ⟨ret_bool (by rw [watchsB_bad hlt HZ.out]), hb.trans (hW.trans (hbr1S.mono hW.size) |>.mono hb.size)⟩
          · skip
            refine wpMix_pure (by kernel_rfl) (fun K hK => ?_)
            go_big_quiet_op
            refine hK _ ?_; clear hK K
            refine wpMix_pure (by kernel_rfl) (fun K hK => ?_)
            go_big_quiet_op
            refine hK _ ?_; clear hK K
            refine wpMix_pure (by kernel_rfl) (fun K hK => ?_)
            go_big_quiet_op
            refine hK _ ?_; clear hK K
            refine wpMix_pure (by kernel_rfl) (fun K hK => ?_)
            go_big_quiet_op
            refine hK _ ?_; clear hK K
            refine wpMix_pure (by kernel_rfl) (fun K hK => ?_)
            go_big_quiet_op
            refine hK _ ?_; clear hK K
            refine wpMix_pure (by kernel_rfl) (fun K hK => ?_)
            go_big_quiet_op
            refine hK _ ?_; clear hK K
            refine wpMix_pure (by kernel_rfl) (fun K hK => ?_)
            go_big_quiet_op
            refine hK _ ?_; clear hK K
            refine wpMix_pure (by kernel_rfl) (fun K hK => ?_)
            go_big_quiet_op
            refine hK _ ?_; clear hK K
            refine wpMix_pure (by kernel_rfl) (fun K hK => ?_)
            go_big_quiet_op
            refine hK _ ?_; clear hK K
            refine wpMix_pure (by kernel_rfl) (fun K hK => ?_)
            go_big_quiet_op
            refine hK _ ?_; clear hK K
            refine wpMix_pure (by kernel_rfl) (fun K hK => ?_)
            go_big_quiet_op
            refine hK _ ?_; clear hK K
            refine wpMix_act (by kernel_rfl) (fun K hK => ?_)
            go_big_op
            refine (compareWatches_any _ _ _).mono ?_
            rintro e wr2 ⟨rfl, hbr2⟩
            have hbr2S : Below (W.heap.size) W wr2 := hbr1S.trans (hbr2.mono hbr1S.size)
            refine hK _ _ (regrown_of_below hbr2S) ?_
            clear hK K
            by_cases hq14 : 0 ≤ cmpW xs[m] xs[m + 1]
            · skip
              have HC : Hid (decide (cmpW xs[m] xs[m + 1] < 0) = false) := by show _ = _; simpa using hq14
              have e14 : decide (0 ≤ cmpW xs[m] xs[m + 1]) = true := by simpa using hq14
              refine wpMix_pure (by kernel_rfl) (fun K hK => ?_)
              go_big_quiet_op
              refine hK _ ?_; clear hK K
              refine wpMix_pure (by kernel_rfl) (fun K hK => ?_)
              go_big_quiet_op
              refine hK _ ?_; clear hK K
              refine wpMix_pure (by kernel_rfl) (fun K hK => ?_)
              go_big_quiet_op
              refine hK _ ?_; clear hK K
              refine wpMix_nil ?_
              have hbx := watchB_b (watchOk_before H0.out (Nat.lt_succ_self m) hk)
              have HZ : Hid (watchOk xs (m + 1) = false) := by show _ = _; rw [watchOk_succ hlt, cmpW_bad HC.out hbx, Bool.and_false]
              go_wp2
              go_ret
              exact ⟨ret_bool (by rw [watchsB_bad hlt HZ.out]), hb.trans (hW.trans (hbr2S.mono hW.size) |>.mono hb.size)⟩
            · skip
              have HC : Hid (decide (cmpW xs[m] xs[m + 1] < 0) = true) := by show _ = _; simp; omega
              have e14 : decide (0 ≤ cmpW xs[m] xs[m + 1]) = false := by simpa using hq14
              refine wpMix_pure (by kernel_rfl) (fun K hK => ?_)
              go_big_quiet_op
              refine hK _ ?_; clear hK K
              refine wpMix_pure (by kernel_rfl) (fun K hK => ?_)
              go_big_quiet_op
              refine hK _ ?_; clear hK K
              refine wpMix_pure (by kernel_rfl) (fun K hK => ?_)
              go_big_quiet_op
              refine hK _ ?_; clear hK K
              refine wpMix_nil ?_
              have hone : watchB xs[m + 1] = true := by assumption
              go_wp2
              refine at_world (fun V => Below wr.heap.size wr V ∧ PWatch V wr.heap.size 0 xs[m + 1] ∧ PWatch V b (off + m * 4) xs[m]) ⟨(hW.trans (hbr2S.mono hW.size)), hpW.below hbr2S hpW.lt, hpm.below hbr2S hpm.lt⟩ ?_
              clear c0 c1 c2 c3 d0 d1 d2 d3 hpW hpm
              (try clear gc0 gc1 gc2 gc3 gd0 gd1 gd2 gd3)
              (try clear e14)
              (try clear hq14)
              rintro V ⟨hV, ⟨c0, c1, c2, c3⟩, ⟨d0, d1, d2, d3⟩⟩
              have gc0 := cell_regrown c0
              have gc1 := cell_regrown c1
              have gd0 := cell_regrown d0
              have gd1 := cell_regrown d1
              have gd2 := cell_regrown d2
              have gd3 := cell_regrown d3
              refine wp_region_mixed [0, 1, 2, 3, 4, 5, 6, 7, 8, 9, 10, 11, 12, 13, 14, 15, 16, 17, 18, 20, 21, 19, 22, 23] (C := fun w' => ∃ p : Regrown, w' = Go.Sort.grow (redrawn V p.d) p.os) [true, true, true, true, true, true, true, true, true, true, true, true, true, true, true, true, true, true, true, true, true, false, true, true] (by kernel_rfl) (by kernel_rfl) (by kernel_rfl) (fun _ _ d _ _ h => by cases d <;> exact h) (regrown_of_below (Below.drew (Below.refl _ _))) ?_
              simp only [List.map_cons, List.map_nil, List.getD_cons_zero, List.getD_cons_succ]
              have hS0 : Below (V.heap.size) V V.drew := Below.drew (Below.refl _ _)
              refine wpMix_pure (by kernel_rfl) (fun K hK => ?_)
              go_big_quiet_op
              refine hK _ ?_; clear hK K
              refine wpMix_pure (by kernel_rfl) (fun K hK => ?_)
              go_big_quiet_op
              refine hK _ ?_; clear hK K
              refine wpMix_pure (by kernel_rfl) (fun K hK => ?_)
              go_big_quiet_op
              refine hK _ ?_; clear hK K
              refine wpMix_pure (by kernel_rfl) (fun K hK => ?_)
              go_big_quiet_op
              refine hK _ ?_; clear hK K
              refine wpMix_pure (by kernel_rfl) (fun K hK => ?_)
              go_big_quiet_op
              refine hK _ ?_; clear hK K
              refine wpMix_pure (by kernel_rfl) (fun K hK => ?_)
              go_big_quiet_op
              refine hK _ ?_; clear hK K
              refine wpMix_pure (by kernel_rfl) (fun K hK => ?_)
              go_big_quiet_op
              refine hK _ ?_; clear hK K
              refine wpMix_pure (by kernel_rfl) (fun K hK => ?_)
              go_big_quiet_op
              refine hK _ ?_; clear hK K
              refine wpMix_pure (by kernel_rfl) (fun K hK => ?_)
              go_big_quiet_op
              refine hK _ ?_; clear hK K
              refine wpMix_pure (by kernel_rfl) (fun K hK => ?_)
              go_big_quiet_op
              refine hK _ ?_; clear hK K
              refine wpMix_pure (by kernel_rfl) (fun K hK => ?_)
              go_big_quiet_op
              refine hK _ ?_; clear hK K
              by_cases hq11 : xs[m].person = xs[m + 1].person
              · skip
                have e11 : (xs[m].person.toList == xs[m + 1].person.toList) = true := eqS_true.2 hq11
                have HQ : Hid (xs[m].person = xs[m + 1].person) := hq11
                clear hq11
                refine wpMix_pure (by kernel_rfl) (fun K hK => ?_)
                go_big_quiet_op
                refine hK _ ?_; clear hK K
                refine wpMix_pure (by kernel_rfl) (fun K hK => ?_)
                go_big_quiet_op
                refine hK _ ?_; clear hK K
                refine wpMix_pure (by kernel_rfl) (fun K hK => ?_)
                go_big_quiet_op
                refine hK _ ?_; clear hK K
                refine wpMix_pure (by kernel_rfl) (fun K hK => ?_)
                go_big_quiet_op
                refine hK _ ?_; clear hK K
                refine wpMix_pure (by kernel_rfl) (fun K hK => ?_)
                go_big_quiet_op
                refine hK _ ?_; clear hK K
                refine wpMix_pure (by kernel_rfl) (fun K hK => ?_)
                go_big_quiet_op
                refine hK _ ?_; clear hK K
                refine wpMix_pure (by kernel_rfl) (fun K hK => ?_)
                go_big_quiet_op
                refine hK _ ?_; clear hK K
                refine wpMix_pure (by kernel_rfl) (fun K hK => ?_)
                go_big_quiet_op
                refine hK _ ?_; clear hK K
                refine wpMix_pure (by kernel_rfl) (fun K hK => ?_)
                go_big_quiet_op
                refine hK _ ?_; clear hK K
                refine wpMix_pure (by kernel_rfl) (fun K hK => ?_)
                go_big_quiet_op
                refine hK _ ?_; clear hK K
                refine wpMix_act (by kernel_rfl) (fun K hK => ?_)
                go_big_op
                refine (endW_any xs[m] _ hbm).mono ?_
                rintro e wr1 ⟨rfl, hbr1⟩
                have hbr1S : Below (V.heap.size) V wr1 := hS0.trans (hbr1.mono hS0.size)
                refine hK _ _ (regrown_of_below hbr1S) ?_
                clear hK K
                by_cases hq22 : xs[m + 1].start < xs[m].start + xs[m].hours
                · skip
                  have e22 : decide (xs[m + 1].start < xs[m].start + xs[m].hours) = true := by simpa using hq22
                  refine wpMix_pure (by kernel_rfl) (fun K hK => ?_)
                  go_big_quiet_op
                  refine hK _ ?_; clear hK K
                  refine wpMix_pure (by kernel_rfl) (fun K hK => ?_)
                  go_big_quiet_op
                  refine hK _ ?_; clear hK K
                  refine wpMix_nil ?_
                  have HZ : Hid (watchOk xs (m + 1) = false) := by show _ = _; rw [watchOk_succ hlt, hone, ((watchBef_eq HQ.out).trans (decide_eq_false (by omega)) : watchBef xs[m] xs[m + 1] = false)]; rfl
                  go_wp2
                  go_ret
                  exact ⟨ret_bool (by rw [watchsB_bad hlt HZ.out]), hb.trans (hV.trans (hbr1S.mono hV.size) |>.mono hb.size)⟩
                · skip
                  have e22 : decide (xs[m + 1].start < xs[m].start + xs[m].hours) = false := by simpa using hq22
                  refine wpMix_pure (by kernel_rfl) (fun K hK => ?_)
                  go_big_quiet_op
                  refine hK _ ?_; clear hK K
                  refine wpMix_pure (by kernel_rfl) (fun K hK => ?_)
                  go_big_quiet_op
                  refine hK _ ?_; clear hK K
                  refine wpMix_nil ?_
                  have HZ : Hid (watchOk xs (m + 1) = true) := by show _ = _; rw [watchOk_succ hlt, hone, ((watchBef_eq HQ.out).trans (decide_eq_true (by omega)) : watchBef xs[m] xs[m + 1] = true)]; rfl
                  go_wp2
                  go_roundw
                  case rel => exact ⟨m + 1 + 1, by omega, by go_num, allIdx_step H0.out HZ.out, hb.trans (hV.trans (hbr1S.mono hV.size) |>.mono hb.size)⟩
                  case measure => simp [intOf]; omega
              · skip
                have e11 : (xs[m].person.toList == xs[m + 1].person.toList) = false := bytes_beq_false hq11
                refine wpMix_pure (by kernel_rfl) (fun K hK => ?_)
                go_big_quiet_op
                refine hK _ ?_; clear hK K
                refine wpMix_pure (by kernel_rfl) (fun K hK => ?_)
                go_big_quiet_op
                refine hK _ ?_; clear hK K
                refine wpMix_pure (by kernel_rfl) (fun K hK => ?_)
                go_big_quiet_op
                refine hK _ ?_; clear hK K
                refine wpMix_skip (by kernel_rfl) (fun K hK => ?_)
                simp only [Act.put, List.setIfInBounds_toArray, List.set_cons_zero, List.set_cons_succ]
                refine hK _ ?_; clear hK K
                refine wpMix_skip (by kernel_rfl) (fun K hK => ?_)
                simp only [Act.put, List.setIfInBounds_toArray, List.set_cons_zero, List.set_cons_succ]
                refine hK _ ?_; clear hK K
                refine wpMix_skip (by kernel_rfl) (fun K hK => ?_)
                simp only [Act.put, List.setIfInBounds_toArray, List.set_cons_zero, List.set_cons_succ]
                refine hK _ ?_; clear hK K
                refine wpMix_skip (by kernel_rfl) (fun K hK => ?_)
                simp only [Act.put, List.setIfInBounds_toArray, List.set_cons_zero, List.set_cons_succ]
                refine hK _ ?_; clear hK K
                refine wpMix_skip (by kernel_rfl) (fun K hK => ?_)
                simp only [Act.put, List.setIfInBounds_toArray, List.set_cons_zero, List.set_cons_succ]
                refine hK _ ?_; clear hK K
                refine wpMix_skip (by kernel_rfl) (fun K hK => ?_)
                simp only [Act.put, List.setIfInBounds_toArray, List.set_cons_zero, List.set_cons_succ]
                refine hK _ ?_; clear hK K
                refine wpMix_skip (by kernel_rfl) (fun K hK => ?_)
                simp only [Act.put, List.setIfInBounds_toArray, List.set_cons_zero, List.set_cons_succ]
                refine hK _ ?_; clear hK K
                refine wpMix_skip (by kernel_rfl) (fun K hK => ?_)
                simp only [Act.put, List.setIfInBounds_toArray, List.set_cons_zero, List.set_cons_succ]
                refine hK _ ?_; clear hK K
                refine wpMix_skip (by kernel_rfl) (fun K hK => ?_)
                simp only [Act.put, List.setIfInBounds_toArray, List.set_cons_zero, List.set_cons_succ]
                refine hK _ ?_; clear hK K
                refine wpMix_pure (by kernel_rfl) (fun K hK => ?_)
                go_big_quiet_op
                refine hK _ ?_; clear hK K
                refine wpMix_nil ?_
                have HZ : Hid (watchOk xs (m + 1) = true) := by show _ = _; rw [watchOk_succ hlt, hone, ((cmpW_ne hq11).symm.trans HC.out : watchBef xs[m] xs[m + 1] = true)]; rfl
                go_wp2
                go_roundw
                case rel => exact ⟨m + 1 + 1, by omega, by go_num, allIdx_step H0.out HZ.out, hb.trans (hV.trans (hS0.mono hV.size) |>.mono hb.size)⟩
                case measure => simp [intOf]; omega
      · have HF := Lib.hid (allIdx_full (by omega) hk H0.out)
        go_wp2
        go_ret
        exact ⟨ret_bool (by unfold watchsB; rw [HF.out]; simp [hle]), hb⟩
  · go_enter Tryz.func44, Tryz.ntmps44
    go_wp2
    go_ret
    exact ⟨ret_bool (by unfold watchsB; simp <;> omega), Below.refl _ _⟩
end Go.Proofs.YtgbgibobokchmaaGreat

namespace Go.Proofs.YtgbgibobokchmaaGreat
open Go.RowKit
set_option linter.unusedVariables false

def g0 : DGroup := ⟨⟨#[]⟩, 0, 0, 0, 0, 0, 0⟩
def gOk (xs : List DGroup) (i : Nat) : Bool := groupB (xs.getD i g0) && (decide (i = 0) || ltS (xs.getD (i - 1) g0).id (xs.getD i g0).id)
def groupsB (xs : List DGroup) : Bool := allIdx (gOk xs) xs.length && decide (xs.length ≤ 8)
theorem gOk_zero {xs : List DGroup} (h : 0 < xs.length) : gOk xs 0 = groupB xs[0] := by simp [gOk, h]
theorem gOk_succ {xs : List DGroup} {m : Nat} (h : m + 1 < xs.length) : gOk xs (m + 1) = (groupB xs[m + 1] && ltS xs[m].id xs[m + 1].id) := by
  have h1 : m < xs.length := by omega
  simp [gOk, h, h1]
theorem groupsB_bad {xs : List DGroup} {k : Nat} (h : k < xs.length) (h1 : gOk xs k = false) : groupsB xs = false := by
  unfold groupsB; rw [allIdx_bad h h1]; rfl
theorem groupsB_one {xs : List DGroup} (h : groupsB xs = true) {k : Nat} (hk : k < xs.length) : groupB xs[k] = true := by
  unfold groupsB at h
  simp only [Bool.and_eq_true] at h
  have := allIdx_true.1 h.1 k hk
  unfold gOk at this
  simp only [Bool.and_eq_true] at this
  rw [getD_of_lt hk] at this
  exact this.1
theorem groupsB_len {xs : List DGroup} (h : groupsB xs = true) : xs.length ≤ 8 := by
  unfold groupsB at h; simp at h; exact h.2
set_option maxRecDepth 100000 in
set_option maxHeartbeats 4000000 in
theorem l24Ok_any (v : Value) (xs : List DGroup) (fp : List Nat) (w : World) (hx : Sl fGroup.cod w v xs fp) :
    Calls Tryz.prog 73 #[v] w fun e w' => e = .returned (.bool (groupsB xs)) ∧ Below w.heap.size w w' := by
  obtain ⟨A, cap, rfl, hlen, hcap⟩ := hx.form
  go_enter Tryz.func73, Tryz.ntmps73
  go_wp2
  go_loopw [3] (fun i wr => ∃ k : Nat, k ≤ xs.length ∧ i = .int .i64 k ∧ Hid (allIdx (gOk xs) k = true) ∧ Below w.heap.size w wr) (fun i _ => xs.length - (intOf i).toNat)
  case atStart => exact ⟨0, Nat.zero_le _, rfl, rfl, Below.refl _ _⟩
  case round =>
    obtain ⟨k, hk, rfl, H0, hb⟩ := hrel
    by_cases hlt : k < xs.length
    · rcases Nat.eq_zero_or_pos k with rfl | hpos
      · obtain ⟨b, off, rfl, _, hok, hp⟩ := PGroup.elem (hx.below' hb) hlt
        have hok0 : xs[0].id.size ≤ 9223372036854775807 := hok.1
        have c0 := hp.c0
        have hplt := hp.lt
        go_wp2
        have gc0 := cell_regrown c0
        refine wp_region_mix (C := fun w' => ∃ p : Regrown, w' = Go.Sort.grow (redrawn wr p.d) p.os) [true, true, true, false, true, true, true, true, true, true, true, true, true, true, true, true, true, true, true, true, true, true, true] (by kernel_rfl) (by kernel_rfl) (by kernel_rfl) (fun _ _ d _ _ h => by cases d <;> exact h) (regrown_of_below (Below.drew (Below.refl _ _))) ?_
        have hS0 : Below wr.heap.size wr wr.drew := Below.drew (Below.refl _ _)
        refine wpMix_pure (by kernel_rfl) (fun K hK => ?_)
        go_big_quiet_op
        refine hK _ ?_; clear hK K
        refine wpMix_pure (by kernel_rfl) (fun K hK => ?_)
        go_big_quiet_op
        refine hK _ ?_; clear hK K
        refine wpMix_pure (by kernel_rfl) (fun K hK => ?_)
        go_big_quiet_op
        refine hK _ ?_; clear hK K
        refine wpMix_act (by kernel_rfl) (fun K hK => ?_)
        go_big_op
        refine (l24One_any _ _ _ _ (hp.below hS0 hplt) hok0).mono ?_
        rintro e wr1 ⟨rfl, hbr1⟩
        have hbr1S : Below wr.heap.size wr wr1 := hS0.trans (hbr1.mono hS0.size)
        refine hK _ _ (regrown_of_below hbr1S) ?_
        clear hK K
        cases hq3 : groupB xs[0]
        · skip
          refine wpMix_pure (by kernel_rfl) (fun K hK => ?_)
          go_big_quiet_op
          refine hK _ ?_; clear hK K
          refine wpMix_pure (by kernel_rfl) (fun K hK => ?_)
          go_big_quiet_op
          refine hK _ ?_; clear hK K
          refine wpMix_skip (by kernel_rfl) (fun K hK => ?_)
          simp only [Act.put, List.setIfInBounds_toArray, List.set_cons_zero, List.set_cons_succ]
          refine hK _ ?_; clear hK K
          refine wpMix_skip (by kernel_rfl) (fun K hK => ?_)
          simp only [Act.put, List.setIfInBounds_toArray, List.set_cons_zero, List.set_cons_succ]
          refine hK _ ?_; clear hK K
          refine wpMix_skip (by kernel_rfl) (fun K hK => ?_)
          simp only [Act.put, List.setIfInBounds_toArray, List.set_cons_zero, List.set_cons_succ]
          refine hK _ ?_; clear hK K
          refine wpMix_skip (by kernel_rfl) (fun K hK => ?_)
          simp only [Act.put, List.setIfInBounds_toArray, List.set_cons_zero, List.set_cons_succ]
          refine hK _ ?_; clear hK K
          refine wpMix_skip (by kernel_rfl) (fun K hK => ?_)
          simp only [Act.put, List.setIfInBounds_toArray, List.set_cons_zero, List.set_cons_succ]
          refine hK _ ?_; clear hK K
          refine wpMix_skip (by kernel_rfl) (fun K hK => ?_)
          simp only [Act.put, List.setIfInBounds_toArray, List.set_cons_zero, List.set_cons_succ]
          refine hK _ ?_; clear hK K
          refine wpMix_skip (by kernel_rfl) (fun K hK => ?_)
          simp only [Act.put, List.setIfInBounds_toArray, List.set_cons_zero, List.set_cons_succ]
          refine hK _ ?_; clear hK K
          refine wpMix_skip (by kernel_rfl) (fun K hK => ?_)
          simp only [Act.put, List.setIfInBounds_toArray, List.set_cons_zero, List.set_cons_succ]
          refine hK _ ?_; clear hK K
          refine wpMix_skip (by kernel_rfl) (fun K hK => ?_)
          simp only [Act.put, List.setIfInBounds_toArray, List.set_cons_zero, List.set_cons_succ]
          refine hK _ ?_; clear hK K
          refine wpMix_skip (by kernel_rfl) (fun K hK => ?_)
          simp only [Act.put, List.setIfInBounds_toArray, List.set_cons_zero, List.set_cons_succ]
          refine hK _ ?_; clear hK K
          refine wpMix_skip (by kernel_rfl) (fun K hK => ?_)
          simp only [Act.put, List.setIfInBounds_toArray, List.set_cons_zero, List.set_cons_succ]
          refine hK _ ?_; clear hK K
          refine wpMix_skip (by kernel_rfl) (fun K hK => ?_)
          simp only [Act.put, List.setIfInBounds_toArray, List.set_cons_zero, List.set_cons_succ]
          refine hK _ ?_; clear hK K
          refine wpMix_skip (by kernel_rfl) (fun K hK => ?_)
          simp only [Act.put, List.setIfInBounds_toArray, List.set_cons_zero, List.set_cons_succ]
          refine hK _ ?_; clear hK K
          refine wpMix_skip (by kernel_rfl) (fun K hK => ?_)
          simp only [Act.put, List.setIfInBounds_toArray, List.set_cons_zero, List.set_cons_succ]
          refine hK _ ?_; clear hK K
          refine wpMix_skip (by kernel_rfl) (fun K hK => ?_)
          simp only [Act.put, List.setIfInBounds_toArray, List.set_cons_zero, List.set_cons_succ]
          refine hK _ ?_; clear hK K
          refine wpMix_skip (by kernel_rfl) (fun K hK => ?_)
          simp only [Act.put, List.setIfInBounds_toArray, List.set_cons_zero, List.set_cons_succ]
          refine hK _ ?_; clear hK K
          refine wpMix_pure (by kernel_rfl) (fun K hK => ?_)
          go_big_quiet_op
          refine hK _ ?_; clear hK K
          refine wpMix_nil ?_
          go_wp2
          go_ret
          exact ⟨ret_bool (by rw [groupsB_bad hlt (by rw [gOk_zero hlt]; simp [*])]), hb.trans (hbr1S.mono hb.size)⟩
        · skip
          refine wpMix_pure (by kernel_rfl) (fun K hK => ?_)
          go_big_quiet_op
          refine hK _ ?_; clear hK K
          refine wpMix_pure (by kernel_rfl) (fun K hK => ?_)
          go_big_quiet_op
          refine hK _ ?_; clear hK K
          refine wpMix_pure (by kernel_rfl) (fun K hK => ?_)
          go_big_quiet_op
          refine hK _ ?_; clear hK K
          refine wpMix_pure (by kernel_rfl) (fun K hK => ?_)
          go_big_quiet_op
          refine hK _ ?_; clear hK K
          refine wpMix_pure (by kernel_rfl) (fun K hK => ?_)
          go_big_quiet_op
          refine hK _ ?_; clear hK K
          refine wpMix_skip (by kernel_rfl) (fun K hK => ?_)
          simp only [Act.put, List.setIfInBounds_toArray, List.set_cons_zero, List.set_cons_succ]
          refine hK _ ?_; clear hK K
          refine wpMix_skip (by kernel_rfl) (fun K hK => ?_)
          simp only [Act.put, List.setIfInBounds_toArray, List.set_cons_zero, List.set_cons_succ]
          refine hK _ ?_; clear hK K
          refine wpMix_skip (by kernel_rfl) (fun K hK => ?_)
          simp only [Act.put, List.setIfInBounds_toArray, List.set_cons_zero, List.set_cons_succ]
          refine hK _ ?_; clear hK K
          refine wpMix_skip (by kernel_rfl) (fun K hK => ?_)
          simp only [Act.put, List.setIfInBounds_toArray, List.set_cons_zero, List.set_cons_succ]
          refine hK _ ?_; clear hK K
          refine wpMix_skip (by kernel_rfl) (fun K hK => ?_)
          simp only [Act.put, List.setIfInBounds_toArray, List.set_cons_zero, List.set_cons_succ]
          refine hK _ ?_; clear hK K
          refine wpMix_skip (by kernel_rfl) (fun K hK => ?_)
          simp only [Act.put, List.setIfInBounds_toArray, List.set_cons_zero, List.set_cons_succ]
          refine hK _ ?_; clear hK K
          refine wpMix_skip (by kernel_rfl) (fun K hK => ?_)
          simp only [Act.put, List.setIfInBounds_toArray, List.set_cons_zero, List.set_cons_succ]
          refine hK _ ?_; clear hK K
          refine wpMix_skip (by kernel_rfl) (fun K hK => ?_)
          simp only [Act.put, List.setIfInBounds_toArray, List.set_cons_zero, List.set_cons_succ]
          refine hK _ ?_; clear hK K
          refine wpMix_skip (by kernel_rfl) (fun K hK => ?_)
          simp only [Act.put, List.setIfInBounds_toArray, List.set_cons_zero, List.set_cons_succ]
          refine hK _ ?_; clear hK K
          refine wpMix_skip (by kernel_rfl) (fun K hK => ?_)
          simp only [Act.put, List.setIfInBounds_toArray, List.set_cons_zero, List.set_cons_succ]
          refine hK _ ?_; clear hK K
          refine wpMix_skip (by kernel_rfl) (fun K hK => ?_)
          simp only [Act.put, List.setIfInBounds_toArray, List.set_cons_zero, List.set_cons_succ]
          refine hK _ ?_; clear hK K
          refine wpMix_skip (by kernel_rfl) (fun K hK => ?_)
          simp only [Act.put, List.setIfInBounds_toArray, List.set_cons_zero, List.set_cons_succ]
          refine hK _ ?_; clear hK K
          refine wpMix_pure (by kernel_rfl) (fun K hK => ?_)
          go_big_quiet_op
          refine hK _ ?_; clear hK K
          refine wpMix_pure (by kernel_rfl) (fun K hK => ?_)
          go_big_quiet_op
          refine hK _ ?_; clear hK K
          refine wpMix_nil ?_
          go_wp2
          go_roundw
          case rel => exact ⟨0 + 1, by omega, by go_num, allIdx_step H0.out (by rw [gOk_zero hlt, hq3]), hb.trans (hbr1S.mono hb.size)⟩
          case measure => simp [intOf]; omega
      · obtain ⟨m, rfl⟩ : ∃ m, k = m + 1 := ⟨k - 1, by omega⟩
        have hm : m < xs.length := by omega
        obtain ⟨b, off, rfl, _, hok, hp⟩ := PGroup.elem (hx.below' hb) hlt
        have hok0 : xs[m + 1].id.size ≤ 9223372036854775807 := hok.1
        have c0 := hp.c0
        have hplt := hp.lt
        obtain ⟨b1, off1, hA1, _, hokm, hpm⟩ := PGroup.elem (hx.below' hb) hm
        injection hA1 with hA1
        injection hA1 with hA1 hA2 _
        subst hA1 hA2
        have d0 := hpm.c0
        clear hpm
        go_wp2
        have gc0 := cell_regrown c0
        have gd0 := cell_regrown d0
        refine wp_region_mix (C := fun w' => ∃ p : Regrown, w' = Go.Sort.grow (redrawn wr p.d) p.os) [true, true, true, false, true, true, true, true, true, true, true, true, true, true, true, true, true, true, true, true, true, true, true] (by kernel_rfl) (by kernel_rfl) (by kernel_rfl) (fun _ _ d _ _ h => by cases d <;> exact h) (regrown_of_below (Below.drew (Below.refl _ _))) ?_
        have hS0 : Below wr.heap.size wr wr.drew := Below.drew (Below.refl _ _)
        refine wpMix_pure (by kernel_rfl) (fun K hK => ?_)
        go_big_quiet_op
        refine hK _ ?_; clear hK K
        refine wpMix_pure (by kernel_rfl) (fun K hK => ?_)
        go_big_quiet_op
        refine hK _ ?_; clear hK K
        refine wpMix_pure (by kernel_rfl) (fun K hK => ?_)
        go_big_quiet_op
        refine hK _ ?_; clear hK K
        refine wpMix_act (by kernel_rfl) (fun K hK => ?_)
        go_big_op
        refine (l24One_any _ _ _ _ (hp.below hS0 hplt) hok0).mono ?_
        rintro e wr1 ⟨rfl, hbr1⟩
        have hbr1S : Below wr.heap.size wr wr1 := hS0.trans (hbr1.mono hS0.size)
        refine hK _ _ (regrown_of_below hbr1S) ?_
        clear hK K
        cases hq3 : groupB xs[m + 1]
        · skip
          refine wpMix_pure (by kernel_rfl) (fun K hK => ?_)
          go_big_quiet_op
          refine hK _ ?_; clear hK K
          refine wpMix_pure (by kernel_rfl) (fun K hK => ?_)
          go_big_quiet_op
          refine hK _ ?_; clear hK K
          refine wpMix_skip (by kernel_rfl) (fun K hK => ?_)
          simp only [Act.put, List.setIfInBounds_toArray, List.set_cons_zero, List.set_cons_succ]
          refine hK _ ?_; clear hK K
          refine wpMix_skip (by kernel_rfl) (fun K hK => ?_)
          simp only [Act.put, List.setIfInBounds_toArray, List.set_cons_zero, List.set_cons_succ]
          refine hK _ ?_; clear hK K
          refine wpMix_skip (by kernel_rfl) (fun K hK => ?_)
          simp only [Act.put, List.setIfInBounds_toArray, List.set_cons_zero, List.set_cons_succ]
          refine hK _ ?_; clear hK K
          refine wpMix_skip (by kernel_rfl) (fun K hK => ?_)
          simp only [Act.put, List.setIfInBounds_toArray, List.set_cons_zero, List.set_cons_succ]
          refine hK _ ?_; clear hK K
          refine wpMix_skip (by kernel_rfl) (fun K hK => ?_)
          simp only [Act.put, List.setIfInBounds_toArray, List.set_cons_zero, List.set_cons_succ]
          refine hK _ ?_; clear hK K
          refine wpMix_skip (by kernel_rfl) (fun K hK => ?_)
          simp only [Act.put, List.setIfInBounds_toArray, List.set_cons_zero, List.set_cons_succ]
          refine hK _ ?_; clear hK K
          refine wpMix_skip (by kernel_rfl) (fun K hK => ?_)
          simp only [Act.put, List.setIfInBounds_toArray, List.set_cons_zero, List.set_cons_succ]
          refine hK _ ?_; clear hK K
          refine wpMix_skip (by kernel_rfl) (fun K hK => ?_)
          simp only [Act.put, List.setIfInBounds_toArray, List.set_cons_zero, List.set_cons_succ]
          refine hK _ ?_; clear hK K
          refine wpMix_skip (by kernel_rfl) (fun K hK => ?_)
          simp only [Act.put, List.setIfInBounds_toArray, List.set_cons_zero, List.set_cons_succ]
          refine hK _ ?_; clear hK K
          refine wpMix_skip (by kernel_rfl) (fun K hK => ?_)
          simp only [Act.put, List.setIfInBounds_toArray, List.set_cons_zero, List.set_cons_succ]
          refine hK _ ?_; clear hK K
          refine wpMix_skip (by kernel_rfl) (fun K hK => ?_)
          simp only [Act.put, List.setIfInBounds_toArray, List.set_cons_zero, List.set_cons_succ]
          refine hK _ ?_; clear hK K
          refine wpMix_skip (by kernel_rfl) (fun K hK => ?_)
          simp only [Act.put, List.setIfInBounds_toArray, List.set_cons_zero, List.set_cons_succ]
          refine hK _ ?_; clear hK K
          refine wpMix_skip (by kernel_rfl) (fun K hK => ?_)
          simp only [Act.put, List.setIfInBounds_toArray, List.set_cons_zero, List.set_cons_succ]
          refine hK _ ?_; clear hK K
          refine wpMix_skip (by kernel_rfl) (fun K hK => ?_)
          simp only [Act.put, List.setIfInBounds_toArray, List.set_cons_zero, List.set_cons_succ]
          refine hK _ ?_; clear hK K
          refine wpMix_skip (by kernel_rfl) (fun K hK => ?_)
          simp only [Act.put, List.setIfInBounds_toArray, List.set_cons_zero, List.set_cons_succ]
          refine hK _ ?_; clear hK K
          refine wpMix_skip (by kernel_rfl) (fun K hK => ?_)
          simp only [Act.put, List.setIfInBounds_toArray, List.set_cons_zero, List.set_cons_succ]
          refine hK _ ?_; clear hK K
          refine wpMix_pure (by kernel_rfl) (fun K hK => ?_)
          go_big_quiet_op
          refine hK _ ?_; clear hK K
          refine wpMix_nil ?_
          go_wp2
          go_ret
          exact ⟨ret_bool (by rw [groupsB_bad hlt (by rw [gOk_succ hlt]; simp [*])]), hb.trans (hbr1S.mono hb.size)⟩
        · skip
          refine wpMix_pure (by kernel_rfl) (fun K hK => ?_)
          go_big_quiet_op
          refine hK _ ?_; clear hK K
          refine wpMix_pure (by kernel_rfl) (fun K hK => ?_)
          go_big_quiet_op
          refine hK _ ?_; clear hK K
          refine wpMix_pure (by kernel_rfl) (fun K hK => ?_)
          go_big_quiet_op
          refine hK _ ?_; clear hK K
          refine wpMix_pure (by kernel_rfl) (fun K hK => ?_)
          go_big_quiet_op
          refine hK _ ?_; clear hK K
          refine wpMix_pure (by kernel_rfl) (fun K hK => ?_)
          go_big_quiet_op
          refine hK _ ?_; clear hK K
          refine wpMix_pure (by kernel_rfl) (fun K hK => ?_)
          go_big_quiet_op
          refine hK _ ?_; clear hK K
          refine wpMix_pure (by kernel_rfl) (fun K hK => ?_)
          go_big_quiet_op
          refine hK _ ?_; clear hK K
          refine wpMix_pure (by kernel_rfl) (fun K hK => ?_)
          go_big_quiet_op
          refine hK _ ?_; clear hK K
          refine wpMix_pure (by kernel_rfl) (fun K hK => ?_)
          go_big_quiet_op
          refine hK _ ?_; clear hK K
          refine wpMix_pure (by kernel_rfl) (fun K hK => ?_)
          go_big_quiet_op
          refine hK _ ?_; clear hK K
          refine wpMix_pure (by kernel_rfl) (fun K hK => ?_)
          go_big_quiet_op
          refine hK _ ?_; clear hK K
          refine wpMix_pure (by kernel_rfl) (fun K hK => ?_)
          go_big_quiet_op
          refine hK _ ?_; clear hK K
          refine wpMix_pure (by kernel_rfl) (fun K hK => ?_)
          go_big_quiet_op
          refine hK _ ?_; clear hK K
          refine wpMix_pure (by kernel_rfl) (fun K hK => ?_)
          go_big_quiet_op
          refine hK _ ?_; clear hK K
          refine wpMix_pure (by kernel_rfl) (fun K hK => ?_)
          go_big_quiet_op
          refine hK _ ?_; clear hK K
          refine wpMix_pure (by kernel_rfl) (fun K hK => ?_)
          go_big_quiet_op
          refine hK _ ?_; clear hK K
          by_cases hq20 : ltS xs[m].id xs[m + 1].id = true
          · skip
            have e20 : Op.bytesLess xs[m].id.toList xs[m + 1].id.toList = true := hq20
            refine wpMix_pure (by kernel_rfl) (fun K hK => ?_)
            go_big_quiet_op
            refine hK _ ?_; clear hK K
            refine wpMix_pure (by kernel_rfl) (fun K hK => ?_)
            go_big_quiet_op
            refine hK _ ?_; clear hK K
            refine wpMix_pure (by kernel_rfl) (fun K hK => ?_)
            go_big_quiet_op
            refine hK _ ?_; clear hK K
            refine wpMix_nil ?_
            go_wp2
            go_roundw
            case rel => exact ⟨m + 1 + 1, by omega, by go_num, allIdx_step H0.out (by rw [gOk_succ hlt, hq3]; simp [*]), hb.trans (hbr1S.mono hb.size)⟩
            case measure => simp [intOf]; omega
          · skip
            have e20 : Op.bytesLess xs[m].id.toList xs[m + 1].id.toList = false := by simpa [ltS] using hq20
            refine wpMix_pure (by kernel_rfl) (fun K hK => ?_)
            go_big_quiet_op
            refine hK _ ?_; clear hK K
            refine wpMix_pure (by kernel_rfl) (fun K hK => ?_)
            go_big_quiet_op
            refine hK _ ?_; clear hK K
            refine wpMix_pure (by kernel_rfl) (fun K hK => ?_)
            go_big_quiet_op
            refine hK _ ?_; clear hK K
            refine wpMix_nil ?_
            go_wp2
            go_ret
            exact ⟨ret_bool (by rw [groupsB_bad hlt (by rw [gOk_succ hlt]; simp [*])]), hb.trans (hbr1S.mono hb.size)⟩
    · have HF := Lib.hid (allIdx_full (by omega) hk H0.out)
      by_cases hle : xs.length ≤ 8
      all_goals
        go_wp2
        go_ret
        exact ⟨ret_bool (by unfold groupsB; rw [HF.out]; simp [hle] <;> omega), hb⟩
set_option maxRecDepth 100000 in
set_option maxHeartbeats 4000000 in
theorem validGroups_any (v : Value) (xs : List DGroup) (fp : List Nat) (w : World) (hx : Sl fGroup.cod w v xs fp) :
    Calls Tryz.prog 43 #[v] w fun e w' => e = .returned (.bool (groupsB xs)) ∧ Below w.heap.size w w' := by
  obtain ⟨A, cap, rfl, hlen, hcap⟩ := hx.form
  by_cases hle : xs.length ≤ 8
  · go_enter Tryz.func43, Tryz.ntmps43
    go_wp2
    go_loopw [10] (fun i wr => ∃ k : Nat, k ≤ xs.length ∧ i = .int .i64 k ∧ Hid (allIdx (gOk xs) k = true) ∧ Below w.heap.size w wr) (fun i _ => xs.length - (intOf i).toNat)
    case atStart => exact ⟨0, Nat.zero_le _, rfl, rfl, Below.refl _ _⟩
    case round =>
      obtain ⟨k, hk, rfl, H0, hb⟩ := hrel
      by_cases hlt : k < xs.length
      · rcases Nat.eq_zero_or_pos k with rfl | hpos
        · skip
          obtain ⟨b, off, rfl, _, hok, hp⟩ := PGroup.elem (hx.below' hb) hlt
          rw [Nat.zero_mul, Nat.add_zero] at hp
          obtain ⟨c0, c1, c2, c3, c4, c5, c6⟩ := id hp
          go_wp2
          refine at_world (fun W => Below wr.heap.size wr W ∧ PGroup W wr.heap.size 0 xs[0]) ⟨(Below.refl _ _).alloc (Nat.le_refl _) _, PGroup.box wr xs[0] _⟩ ?_
          clear c0 c1 c2 c3 c4 c5 c6
          rintro W ⟨hW, hpW⟩
          obtain ⟨c0, c1, c2, c3, c4, c5, c6⟩ := id hpW
          have gc0 := cell_regrown c0
          have gc1 := cell_regrown c1
          have gc2 := cell_regrown c2
          have gc3 := cell_regrown c3
          have gc4 := cell_regrown c4
          have gc5 := cell_regrown c5
          have gc6 := cell_regrown c6
          refine wp_region_mix (C := fun w' => ∃ p : Regrown, w' = Go.Sort.grow (redrawn W p.d) p.os) [true, false, true, true, true, true, true, true, true, true, true, true, true, true, true, true, true, true] (by kernel_rfl) (by kernel_rfl) (by kernel_rfl) (fun _ _ d _ _ h => by cases d <;> exact h) (regrown_of_below (Below.drew (Below.refl _ _))) ?_
          have hS0 : Below W.heap.size W W.drew := Below.drew (Below.refl _ _)
          refine wpMix_pure (by kernel_rfl) (fun K hK => ?_)
          go_big_quiet_op
          refine hK _ ?_; clear hK K
          refine wpMix_act (by kernel_rfl) (fun K hK => ?_)
          go_big_op
          refine (implValid_any xs[0] _ hok).mono ?_
          rintro e wr1 ⟨rfl, hbr1⟩
          have hbr1S : Below W.heap.size W wr1 := hS0.trans (hbr1.mono hS0.size)
          refine hK _ _ (regrown_of_below hbr1S) ?_
          clear hK K
          cases hq1 : groupB xs[0]
          · skip
            refine wpMix_pure (by kernel_rfl) (fun K hK => ?_)
            go_big_quiet_op
            refine hK _ ?_; clear hK K
            refine wpMix_pure (by kernel_rfl) (fun K hK => ?_)
            go_big_quiet_op
            refine hK _ ?_; clear hK K
            refine wpMix_skip (by kernel_rfl) (fun K hK => ?_)
            simp only [Act.put, List.setIfInBounds_toArray, List.set_cons_zero, List.set_cons_succ]
            refine hK _ ?_; clear hK K
            refine wpMix_skip (by kernel_rfl) (fun K hK => ?_)
            simp only [Act.put, List.setIfInBounds_toArray, List.set_cons_zero, List.set_cons_succ]
            refine hK _ ?_; clear hK K
            refine wpMix_skip (by kernel_rfl) (fun K hK => ?_)
            simp only [Act.put, List.setIfInBounds_toArray, List.set_cons_zero, List.set_cons_succ]
            refine hK _ ?_; clear hK K
            refine wpMix_skip (by kernel_rfl) (fun K hK => ?_)
            simp only [Act.put, List.setIfInBounds_toArray, List.set_cons_zero, List.set_cons_succ]
            refine hK _ ?_; clear hK K
            refine wpMix_skip (by kernel_rfl) (fun K hK => ?_)
            simp only [Act.put, List.setIfInBounds_toArray, List.set_cons_zero, List.set_cons_succ]
            refine hK _ ?_; clear hK K
            refine wpMix_skip (by kernel_rfl) (fun K hK => ?_)
            simp only [Act.put, List.setIfInBounds_toArray, List.set_cons_zero, List.set_cons_succ]
            refine hK _ ?_; clear hK K
            refine wpMix_skip (by kernel_rfl) (fun K hK => ?_)
            simp only [Act.put, List.setIfInBounds_toArray, List.set_cons_zero, List.set_cons_succ]
            refine hK _ ?_; clear hK K
            refine wpMix_skip (by kernel_rfl) (fun K hK => ?_)
            simp only [Act.put, List.setIfInBounds_toArray, List.set_cons_zero, List.set_cons_succ]
            refine hK _ ?_; clear hK K
            refine wpMix_skip (by kernel_rfl) (fun K hK => ?_)
            simp only [Act.put, List.setIfInBounds_toArray, List.set_cons_zero, List.set_cons_succ]
            refine hK _ ?_; clear hK K
            refine wpMix_skip (by kernel_rfl) (fun K hK => ?_)
            simp only [Act.put, List.setIfInBounds_toArray, List.set_cons_zero, List.set_cons_succ]
            refine hK _ ?_; clear hK K
            refine wpMix_skip (by kernel_rfl) (fun K hK => ?_)
            simp only [Act.put, List.setIfInBounds_toArray, List.set_cons_zero, List.set_cons_succ]
            refine hK _ ?_; clear hK K
            refine wpMix_skip (by kernel_rfl) (fun K hK => ?_)
            simp only [Act.put, List.setIfInBounds_toArray, List.set_cons_zero, List.set_cons_succ]
            refine hK _ ?_; clear hK K
            refine wpMix_skip (by kernel_rfl) (fun K hK => ?_)
            simp only [Act.put, List.setIfInBounds_toArray, List.set_cons_zero, List.set_cons_succ]
            refine hK _ ?_; clear hK K
            refine wpMix_pure (by kernel_rfl) (fun K hK => ?_)
            go_big_quiet_op
            refine hK _ ?_; clear hK K
            refine wpMix_nil ?_
            go_wp2
            go_ret
            exact ⟨ret_bool (by rw [groupsB_bad hlt (by rw [gOk_zero hlt]; simp [*])]), hb.trans (hW.trans (hbr1S.mono hW.size) |>.mono hb.size)⟩
          · skip
            refine wpMix_pure (by kernel_rfl) (fun K hK => ?_)
            go_big_quiet_op
            refine hK _ ?_; clear hK K
            refine wpMix_pure (by kernel_rfl) (fun K hK => ?_)
            go_big_quiet_op
            refine hK _ ?_; clear hK K
            refine wpMix_pure (by kernel_rfl) (fun K hK => ?_)
            go_big_quiet_op
            refine hK _ ?_; clear hK K
            refine wpMix_pure (by kernel_rfl) (fun K hK => ?_)
            go_big_quiet_op
            refine hK _ ?_; clear hK K
            refine wpMix_pure (by kernel_rfl) (fun K hK => ?_)
            go_big_quiet_op
            refine hK _ ?_; clear hK K
            refine wpMix_skip (by kernel_rfl) (fun K hK => ?_)
            simp only [Act.put, List.setIfInBounds_toArray, List.set_cons_zero, List.set_cons_succ]
            refine hK _ ?_; clear hK K
            refine wpMix_skip (by kernel_rfl) (fun K hK => ?_)
            simp only [Act.put, List.setIfInBounds_toArray, List.set_cons_zero, List.set_cons_succ]
            refine hK _ ?_; clear hK K
            refine wpMix_skip (by kernel_rfl) (fun K hK => ?_)
            simp only [Act.put, List.setIfInBounds_toArray, List.set_cons_zero, List.set_cons_succ]
            refine hK _ ?_; clear hK K
            refine wpMix_skip (by kernel_rfl) (fun K hK => ?_)
            simp only [Act.put, List.setIfInBounds_toArray, List.set_cons_zero, List.set_cons_succ]
            refine hK _ ?_; clear hK K
            refine wpMix_skip (by kernel_rfl) (fun K hK => ?_)
            simp only [Act.put, List.setIfInBounds_toArray, List.set_cons_zero, List.set_cons_succ]
            refine hK _ ?_; clear hK K
            refine wpMix_skip (by kernel_rfl) (fun K hK => ?_)
            simp only [Act.put, List.setIfInBounds_toArray, List.set_cons_zero, List.set_cons_succ]
            refine hK _ ?_; clear hK K
            refine wpMix_skip (by kernel_rfl) (fun K hK => ?_)
            simp only [Act.put, List.setIfInBounds_toArray, List.set_cons_zero, List.set_cons_succ]
            refine hK _ ?_; clear hK K
            refine wpMix_skip (by kernel_rfl) (fun K hK => ?_)
            simp only [Act.put, List.setIfInBounds_toArray, List.set_cons_zero, List.set_cons_succ]
            refine hK _ ?_; clear hK K
            refine wpMix_skip (by kernel_rfl) (fun K hK => ?_)
            simp only [Act.put, List.setIfInBounds_toArray, List.set_cons_zero, List.set_cons_succ]
            refine hK _ ?_; clear hK K
            refine wpMix_pure (by kernel_rfl) (fun K hK => ?_)
            go_big_quiet_op
            refine hK _ ?_; clear hK K
            refine wpMix_pure (by kernel_rfl) (fun K hK => ?_)
            go_big_quiet_op
            refine hK _ ?_; clear hK K
            refine wpMix_nil ?_
            go_wp2
            go_roundw
            case rel => exact ⟨0 + 1, by omega, by go_num, allIdx_step H0.out (by rw [gOk_zero hlt, hq1]), hb.trans (hW.trans (hbr1S.mono hW.size) |>.mono hb.size)⟩
            case measure => simp [intOf]; omega
        · obtain ⟨m, rfl⟩ : ∃ m, k = m + 1 := ⟨k - 1, by omega⟩
          have hm : m < xs.length := by omega
          obtain ⟨b, off, rfl, _, hok, hp⟩ := PGroup.elem (hx.below' hb) hlt
          skip
          obtain ⟨c0, c1, c2, c3, c4, c5, c6⟩ := id hp
          obtain ⟨b1, off1, hA1, _, hokm, hpm⟩ := PGroup.elem (hx.below' hb) hm
          injection hA1 with hA1
          injection hA1 with hA1 hA2 _
          subst hA1 hA2
          have d0 := hpm.c0
          go_wp2
          refine at_world (fun W => Below wr.heap.size wr W ∧ PGroup W wr.heap.size 0 xs[m + 1] ∧ W.cell? ⟨b, off + m * 7, none⟩ = some (.string xs[m].id)) ⟨(Below.refl _ _).alloc (Nat.le_refl _) _, PGroup.box wr xs[m + 1] _, (((Below.refl _ _).alloc (Nat.le_refl _) _).cell (block_lt_of_cell d0)).trans d0⟩ ?_
          clear c0 c1 c2 c3 c4 c5 c6 d0 hpm
          rintro W ⟨hW, hpW, d0⟩
          obtain ⟨c0, c1, c2, c3, c4, c5, c6⟩ := id hpW
          have gc0 := cell_regrown c0
          have gc1 := cell_regrown c1
          have gc2 := cell_regrown c2
          have gc3 := cell_regrown c3
          have gc4 := cell_regrown c4
          have gc5 := cell_regrown c5
          have gc6 := cell_regrown c6
          have gd0 := cell_regrown d0
          refine wp_region_mix (C := fun w' => ∃ p : Regrown, w' = Go.Sort.grow (redrawn W p.d) p.os) [true, false, true, true, true, true, true, true, true, true, true, true, true, true, true, true, true, true] (by kernel_rfl) (by kernel_rfl) (by kernel_rfl) (fun _ _ d _ _ h => by cases d <;> exact h) (regrown_of_below (Below.drew (Below.refl _ _))) ?_
          have hS0 : Below W.heap.size W W.drew := Below.drew (Below.refl _ _)
          refine wpMix_pure (by kernel_rfl) (fun K hK => ?_)
          go_big_quiet_op
          refine hK _ ?_; clear hK K
          refine wpMix_act (by kernel_rfl) (fun K hK => ?_)
          go_big_op
          refine (implValid_any xs[m + 1] _ hok).mono ?_
          rintro e wr1 ⟨rfl, hbr1⟩
          have hbr1S : Below W.heap.size W wr1 := hS0.trans (hbr1.mono hS0.size)
          refine hK _ _ (regrown_of_below hbr1S) ?_
          clear hK K
          cases hq1 : groupB xs[m + 1]
          · skip
            refine wpMix_pure (by kernel_rfl) (fun K hK => ?_)
            go_big_quiet_op
            refine hK _ ?_; clear hK K
            refine wpMix_pure (by kernel_rfl) (fun K hK => ?_)
            go_big_quiet_op
            refine hK _ ?_; clear hK K
            refine wpMix_skip (by kernel_rfl) (fun K hK => ?_)
            simp only [Act.put, List.setIfInBounds_toArray, List.set_cons_zero, List.set_cons_succ]
            refine hK _ ?_; clear hK K
            refine wpMix_skip (by kernel_rfl) (fun K hK => ?_)
            simp only [Act.put, List.setIfInBounds_toArray, List.set_cons_zero, List.set_cons_succ]
            refine hK _ ?_; clear hK K
            refine wpMix_skip (by kernel_rfl) (fun K hK => ?_)
            simp only [Act.put, List.setIfInBounds_toArray, List.set_cons_zero, List.set_cons_succ]
            refine hK _ ?_; clear hK K
            refine wpMix_skip (by kernel_rfl) (fun K hK => ?_)
            simp only [Act.put, List.setIfInBounds_toArray, List.set_cons_zero, List.set_cons_succ]
            refine hK _ ?_; clear hK K
            refine wpMix_skip (by kernel_rfl) (fun K hK => ?_)
            simp only [Act.put, List.setIfInBounds_toArray, List.set_cons_zero, List.set_cons_succ]
            refine hK _ ?_; clear hK K
            refine wpMix_skip (by kernel_rfl) (fun K hK => ?_)
            simp only [Act.put, List.setIfInBounds_toArray, List.set_cons_zero, List.set_cons_succ]
            refine hK _ ?_; clear hK K
            refine wpMix_skip (by kernel_rfl) (fun K hK => ?_)
            simp only [Act.put, List.setIfInBounds_toArray, List.set_cons_zero, List.set_cons_succ]
            refine hK _ ?_; clear hK K
            refine wpMix_skip (by kernel_rfl) (fun K hK => ?_)
            simp only [Act.put, List.setIfInBounds_toArray, List.set_cons_zero, List.set_cons_succ]
            refine hK _ ?_; clear hK K
            refine wpMix_skip (by kernel_rfl) (fun K hK => ?_)
            simp only [Act.put, List.setIfInBounds_toArray, List.set_cons_zero, List.set_cons_succ]
            refine hK _ ?_; clear hK K
            refine wpMix_skip (by kernel_rfl) (fun K hK => ?_)
            simp only [Act.put, List.setIfInBounds_toArray, List.set_cons_zero, List.set_cons_succ]
            refine hK _ ?_; clear hK K
            refine wpMix_skip (by kernel_rfl) (fun K hK => ?_)
            simp only [Act.put, List.setIfInBounds_toArray, List.set_cons_zero, List.set_cons_succ]
            refine hK _ ?_; clear hK K
            refine wpMix_skip (by kernel_rfl) (fun K hK => ?_)
            simp only [Act.put, List.setIfInBounds_toArray, List.set_cons_zero, List.set_cons_succ]
            refine hK _ ?_; clear hK K
            refine wpMix_skip (by kernel_rfl) (fun K hK => ?_)
            simp only [Act.put, List.setIfInBounds_toArray, List.set_cons_zero, List.set_cons_succ]
            refine hK _ ?_; clear hK K
            refine wpMix_pure (by kernel_rfl) (fun K hK => ?_)
            go_big_quiet_op
            refine hK _ ?_; clear hK K
            refine wpMix_nil ?_
            go_wp2
            go_ret
            exact ⟨ret_bool (by rw [groupsB_bad hlt (by rw [gOk_succ hlt]; simp [*])]), hb.trans (hW.trans (hbr1S.mono hW.size) |>.mono hb.size)⟩
          · skip
            refine wpMix_pure (by kernel_rfl) (fun K hK => ?_)
            go_big_quiet_op
            refine hK _ ?_; clear hK K
            refine wpMix_pure (by kernel_rfl) (fun K hK => ?_)
            go_big_quiet_op
            refine hK _ ?_; clear hK K
            refine wpMix_pure (by kernel_rfl) (fun K hK => ?_)
            go_big_quiet_op
            refine hK _ ?_; clear hK K
            refine wpMix_pure (by kernel_rfl) (fun K hK => ?_)
            go_big_quiet_op
            refine hK _ ?_; clear hK K
            refine wpMix_pure (by kernel_rfl) (fun K hK => ?_)
            go_big_quiet_op
            refine hK _ ?_; clear hK K
            refine wpMix_pure (by kernel_rfl) (fun K hK => ?_)
            go_big_quiet_op
            refine hK _ ?_; clear hK K
            refine wpMix_pure (by kernel_rfl) (fun K hK => ?_)
            go_big_quiet_op
            refine hK _ ?_; clear hK K
            refine wpMix_pure (by kernel_rfl) (fun K hK => ?_)
            go_big_quiet_op
            refine hK _ ?_; clear hK K
            refine wpMix_pure (by kernel_rfl) (fun K hK => ?_)
            go_big_quiet_op
            refine hK _ ?_; clear hK K
            refine wpMix_pure (by kernel_rfl) (fun K hK => ?_)
            go_big_quiet_op
            refine hK _ ?_; clear hK K
            refine wpMix_pure (by kernel_rfl) (fun K hK => ?_)
            go_big_quiet_op
            refine hK _ ?_; clear hK K
            refine wpMix_pure (by kernel_rfl) (fun K hK => ?_)
            go_big_quiet_op
            refine hK _ ?_; clear hK K
            refine wpMix_pure (by kernel_rfl) (fun K hK => ?_)
            go_big_quiet_op
            refine hK _ ?_; clear hK K
            by_cases hq15 : ltS xs[m].id xs[m + 1].id = true
            · skip
              have e15 : (Op.bytesLess xs[m + 1].id.toList xs[m].id.toList || xs[m + 1].id.toList == xs[m].id.toList) = false := by rw [leS_eq, hq15]; rfl
              refine wpMix_pure (by kernel_rfl) (fun K hK => ?_)
              go_big_quiet_op
              refine hK _ ?_; clear hK K
              refine wpMix_pure (by kernel_rfl) (fun K hK => ?_)
              go_big_quiet_op
              refine hK _ ?_; clear hK K
              refine wpMix_pure (by kernel_rfl) (fun K hK => ?_)
              go_big_quiet_op
              refine hK _ ?_; clear hK K
              refine wpMix_nil ?_
              go_wp2
              go_roundw
              case rel => exact ⟨m + 1 + 1, by omega, by go_num, allIdx_step H0.out (by rw [gOk_succ hlt, hq1]; simp [*]), hb.trans (hW.trans (hbr1S.mono hW.size) |>.mono hb.size)⟩
              case measure => simp [intOf]; omega
            · skip
              have e15 : (Op.bytesLess xs[m + 1].id.toList xs[m].id.toList || xs[m + 1].id.toList == xs[m].id.toList) = true := by rw [leS_eq]; simpa using hq15
              refine wpMix_pure (by kernel_rfl) (fun K hK => ?_)
              go_big_quiet_op
              refine hK _ ?_; clear hK K
              refine wpMix_pure (by kernel_rfl) (fun K hK => ?_)
              go_big_quiet_op
              refine hK _ ?_; clear hK K
              refine wpMix_pure (by kernel_rfl) (fun K hK => ?_)
              go_big_quiet_op
              refine hK _ ?_; clear hK K
              refine wpMix_nil ?_
              go_wp2
              go_ret
              exact ⟨ret_bool (by rw [groupsB_bad hlt (by rw [gOk_succ hlt]; simp [*])]), hb.trans (hW.trans (hbr1S.mono hW.size) |>.mono hb.size)⟩
      · have HF := Lib.hid (allIdx_full (by omega) hk H0.out)
        go_wp2
        go_ret
        exact ⟨ret_bool (by unfold groupsB; rw [HF.out]; simp [hle]), hb⟩
  · go_enter Tryz.func43, Tryz.ntmps43
    go_wp2
    go_ret
    exact ⟨ret_bool (by unfold groupsB; simp <;> omega), Below.refl _ _⟩

end Go.Proofs.YtgbgibobokchmaaGreat

namespace Go.Proofs.YtgbgibobokchmaaGreat
open Go.RowKit
set_option linter.unusedVariables false

/-- A pointer to a Incident that lies somewhere. -/
structure PIncident (w : World) (pb po : Nat) (x : DIncident) : Prop where
  c0 : w.cell? ⟨pb, po, none⟩ = some (.int .i64 x.day)
  c1 : w.cell? ⟨pb, po + 1, none⟩ = some (.string x.place)
  c2 : w.cell? ⟨pb, po + 2, none⟩ = some (.string x.cause)
  c3 : w.cell? ⟨pb, po + 3, none⟩ = some (.int .i64 x.level)
  c4 : w.cell? ⟨pb, po + 4, none⟩ = some (.int .i64 x.caught)
  c5 : w.cell? ⟨pb, po + 5, none⟩ = some (.int .i64 x.buried)
theorem PIncident.below {w w' : World} {pb po : Nat} {x : DIncident} {B : Nat} (h : PIncident w pb po x) (hb : Below B w w') (hB : pb < B) : PIncident w' pb po x :=
  ⟨(hb.cell (p := ⟨pb, _, none⟩) hB).trans h.c0, (hb.cell (p := ⟨pb, _, none⟩) hB).trans h.c1, (hb.cell (p := ⟨pb, _, none⟩) hB).trans h.c2, (hb.cell (p := ⟨pb, _, none⟩) hB).trans h.c3, (hb.cell (p := ⟨pb, _, none⟩) hB).trans h.c4, (hb.cell (p := ⟨pb, _, none⟩) hB).trans h.c5⟩
theorem PIncident.drewN {w : World} {pb po : Nat} {x : DIncident} (h : PIncident w pb po x) (n : Nat) : PIncident (w.drewN n) pb po x :=
  ⟨h.c0, h.c1, h.c2, h.c3, h.c4, h.c5⟩
theorem PIncident.lt {w : World} {pb po : Nat} {x : DIncident} (h : PIncident w pb po x) : pb < w.heap.size := block_lt_of_cell h.c0
theorem PIncident.below' {w w' : World} {pb po : Nat} {x : DIncident} (h : PIncident w pb po x) (hb : Below w.heap.size w w') : PIncident w' pb po x := h.below hb h.lt
theorem PIncident.box (w : World) (x : DIncident) (T : TypeId) : PIncident (w.alloc (.cells #[.int .i64 x.day, .string x.place, .string x.cause, .int .i64 x.level, .int .i64 x.caught, .int .i64 x.buried] T)) w.heap.size 0 x := by
  constructor <;> simp
theorem PIncident.elem {w : World} {A : Option Addr} {len cap : Nat} {xs : List DIncident} {fp : List Nat} (h : Sl fIncident.cod w (.slice A len cap) xs fp) {k : Nat} (hk : k < xs.length) :
    ∃ b off, A = some ⟨b, off, none⟩ ∧ b ∈ fp ∧ fIncident.ok xs[k] ∧ PIncident w b (off + k * 6) xs[k] := by
  obtain ⟨b, off, hA, hm, hok, hc, _⟩ := h.at_ hk
  exact ⟨b, off, hA, hm, hok, ⟨hc 0 (by decide), hc 1 (by decide), hc 2 (by decide), hc 3 (by decide), hc 4 (by decide), hc 5 (by decide)⟩⟩
end Go.Proofs.YtgbgibobokchmaaGreat

namespace Go.Proofs.YtgbgibobokchmaaGreat
open Go.RowKit
set_option linter.unusedVariables false

def incB (x : DIncident) : Bool := inB x.day 0 36524 && nameB x.place && nameB x.cause && inB x.level 1 5 && inB x.caught 0 20 && inB x.buried 0 x.caught
def n00 : DIncident := ⟨0, ⟨#[]⟩, ⟨#[]⟩, 0, 0, 0⟩
def iAg (x : DIncident) : Value := .agg #[.int .i64 x.day, .string x.place, .string x.cause, .int .i64 x.level, .int .i64 x.caught, .int .i64 x.buried]
theorem incV (x : DIncident) : incB x = (inB x.day 0 36524 && (nameB x.place && (nameB x.cause && (inB x.level 1 5 && (inB x.caught 0 20 && inB x.buried 0 x.caught))))) := by
  unfold incB; simp only [Bool.and_assoc]
set_option maxRecDepth 100000 in
set_option maxHeartbeats 4000000 in
theorem l28One_any (pb po : Nat) (x : DIncident) (w : World) (hp : PIncident w pb po x) (hok : fIncident.ok x) :
    Calls Tryz.prog 126 #[.pointer (some ⟨pb, po, none⟩)] w fun e w' => e = .returned (.bool (incB x)) ∧ Below w.heap.size w w' := by
  obtain ⟨c0, c1, c2, c3, c4, c5⟩ := id hp
  obtain ⟨_, k1, k2, _⟩ := id hok
  have k1' : x.place.size ≤ 9223372036854775807 := k1
  have k2' : x.cause.size ≤ 9223372036854775807 := k2
  clear k1 k2 hok hp
  go_enter Tryz.func126, Tryz.ntmps126
  go_wp2
  have gc0 := cell_regrown c0
  have gc1 := cell_regrown c1
  have gc2 := cell_regrown c2
  have gc3 := cell_regrown c3
  have gc4 := cell_regrown c4
  have gc5 := cell_regrown c5
  refine wp_region_mix (C := fun w' => ∃ p : Regrown, w' = Go.Sort.grow (redrawn w p.d) p.os) [true, true, true, true, false, true, true, true, true, true, false, true, true, true, true, true, true, false, true, true, true, true, true, true, false, true, true, true, true, true, true, false, true, true, true, true, true, true, true, true, true, true, false, true, true] (by kernel_rfl) (by kernel_rfl) (by kernel_rfl) (fun _ _ d _ _ h => by cases d <;> exact h) (regrown_of_below (Below.drew (Below.refl _ _))) ?_
  have hS0 : Below (w.heap.size) w w.drew := Below.drew (Below.refl _ _)
  refine wpMix_pure (by kernel_rfl) (fun K hK => ?_)
  go_big_quiet_op
  refine hK _ ?_; clear hK K
  refine wpMix_pure (by kernel_rfl) (fun K hK => ?_)
  go_big_quiet_op
  refine hK _ ?_; clear hK K
  refine wpMix_pure (by kernel_rfl) (fun K hK => ?_)
  go_big_quiet_op
  refine hK _ ?_; clear hK K
  refine wpMix_pure (by kernel_rfl) (fun K hK => ?_)
  go_big_quiet_op
  refine hK _ ?_; clear hK K
  refine wpMix_act (by kernel_rfl) (fun K hK => ?_)
  go_big_op
  refine (l02DayV_any _ _).mono ?_
  rintro e w' ⟨rfl, rfl⟩
  refine hK _ _ (regrown_of_below hS0) ?_
  clear hK K
  cases hq4 : inB x.day 0 36524
  · skip
    refine wpMix_pure (by kernel_rfl) (fun K hK => ?_)
    go_big_quiet_op
    refine hK _ ?_; clear hK K
    refine wpMix_skip (by kernel_rfl) (fun K hK => ?_)
    simp only [Act.put, List.setIfInBounds_toArray, List.set_cons_zero, List.set_cons_succ]
    refine hK _ ?_; clear hK K
    refine wpMix_skip (by kernel_rfl) (fun K hK => ?_)
    simp only [Act.put, List.setIfInBounds_toArray, List.set_cons_zero, List.set_cons_succ]
    refine hK _ ?_; clear hK K
    refine wpMix_skip (by kernel_rfl) (fun K hK => ?_)
    simp only [Act.put, List.setIfInBounds_toArray, List.set_cons_zero, List.set_cons_succ]
    refine hK _ ?_; clear hK K
    refine wpMix_skip (by kernel_rfl) (fun K hK => ?_)
    simp only [Act.put, List.setIfInBounds_toArray, List.set_cons_zero, List.set_cons_succ]
    refine hK _ ?_; clear hK K
    refine wpMix_skip (by kernel_rfl) (fun K hK => ?_)
    simp only [Act.put, List.setIfInBounds_toArray, List.set_cons_zero, List.set_cons_succ]
    refine hK _ ?_; clear hK K
    refine wpMix_pure (by kernel_rfl) (fun K hK => ?_)
    go_big_quiet_op
    refine hK _ ?_; clear hK K
    refine wpMix_pure (by kernel_rfl) (fun K hK => ?_)
    go_big_quiet_op
    refine hK _ ?_; clear hK K
    refine wpMix_skip (by kernel_rfl) (fun K hK => ?_)
    simp only [Act.put, List.setIfInBounds_toArray, List.set_cons_zero, List.set_cons_succ]
    refine hK _ ?_; clear hK K
    refine wpMix_skip (by kernel_rfl) (fun K hK => ?_)
    simp only [Act.put, List.setIfInBounds_toArray, List.set_cons_zero, List.set_cons_succ]
    refine hK _ ?_; clear hK K
    refine wpMix_skip (by kernel_rfl) (fun K hK => ?_)
    simp only [Act.put, List.setIfInBounds_toArray, List.set_cons_zero, List.set_cons_succ]
    refine hK _ ?_; clear hK K
    refine wpMix_skip (by kernel_rfl) (fun K hK => ?_)
    simp only [Act.put, List.setIfInBounds_toArray, List.set_cons_zero, List.set_cons_succ]
    refine hK _ ?_; clear hK K
    refine wpMix_skip (by kernel_rfl) (fun K hK => ?_)
    simp only [Act.put, List.setIfInBounds_toArray, List.set_cons_zero, List.set_cons_succ]
    refine hK _ ?_; clear hK K
    refine wpMix_pure (by kernel_rfl) (fun K hK => ?_)
    go_big_quiet_op
    refine hK _ ?_; clear hK K
    refine wpMix_pure (by kernel_rfl) (fun K hK => ?_)
    go_big_quiet_op
    refine hK _ ?_; clear hK K
    refine wpMix_skip (by kernel_rfl) (fun K hK => ?_)
    simp only [Act.put, List.setIfInBounds_toArray, List.set_cons_zero, List.set_cons_succ]
    refine hK _ ?_; clear hK K
    refine wpMix_skip (by kernel_rfl) (fun K hK => ?_)
    simp only [Act.put, List.setIfInBounds_toArray, List.set_cons_zero, List.set_cons_succ]
    refine hK _ ?_; clear hK K
    refine wpMix_skip (by kernel_rfl) (fun K hK => ?_)
    simp only [Act.put, List.setIfInBounds_toArray, List.set_cons_zero, List.set_cons_succ]
    refine hK _ ?_; clear hK K
    refine wpMix_skip (by kernel_rfl) (fun K hK => ?_)
    simp only [Act.put, List.setIfInBounds_toArray, List.set_cons_zero, List.set_cons_succ]
    refine hK _ ?_; clear hK K
    refine wpMix_skip (by kernel_rfl) (fun K hK => ?_)
    simp only [Act.put, List.setIfInBounds_toArray, List.set_cons_zero, List.set_cons_succ]
    refine hK _ ?_; clear hK K
    refine wpMix_pure (by kernel_rfl) (fun K hK => ?_)
    go_big_quiet_op
    refine hK _ ?_; clear hK K
    refine wpMix_pure (by kernel_rfl) (fun K hK => ?_)
    go_big_quiet_op
    refine hK _ ?_; clear hK K
    refine wpMix_skip (by kernel_rfl) (fun K hK => ?_)
    simp only [Act.put, List.setIfInBounds_toArray, List.set_cons_zero, List.set_cons_succ]
    refine hK _ ?_; clear hK K
    refine wpMix_skip (by kernel_rfl) (fun K hK => ?_)
    simp only [Act.put, List.setIfInBounds_toArray, List.set_cons_zero, List.set_cons_succ]
    refine hK _ ?_; clear hK K
    refine wpMix_skip (by kernel_rfl) (fun K hK => ?_)
    simp only [Act.put, List.setIfInBounds_toArray, List.set_cons_zero, List.set_cons_succ]
    refine hK _ ?_; clear hK K
    refine wpMix_skip (by kernel_rfl) (fun K hK => ?_)
    simp only [Act.put, List.setIfInBounds_toArray, List.set_cons_zero, List.set_cons_succ]
    refine hK _ ?_; clear hK K
    refine wpMix_skip (by kernel_rfl) (fun K hK => ?_)
    simp only [Act.put, List.setIfInBounds_toArray, List.set_cons_zero, List.set_cons_succ]
    refine hK _ ?_; clear hK K
    refine wpMix_pure (by kernel_rfl) (fun K hK => ?_)
    go_big_quiet_op
    refine hK _ ?_; clear hK K
    refine wpMix_pure (by kernel_rfl) (fun K hK => ?_)
    go_big_quiet_op
    refine hK _ ?_; clear hK K
    refine wpMix_skip (by kernel_rfl) (fun K hK => ?_)
    simp only [Act.put, List.setIfInBounds_toArray, List.set_cons_zero, List.set_cons_succ]
    refine hK _ ?_; clear hK K
    refine wpMix_skip (by kernel_rfl) (fun K hK => ?_)
    simp only [Act.put, List.setIfInBounds_toArray, List.set_cons_zero, List.set_cons_succ]
    refine hK _ ?_; clear hK K
    refine wpMix_skip (by kernel_rfl) (fun K hK => ?_)
    simp only [Act.put, List.setIfInBounds_toArray, List.set_cons_zero, List.set_cons_succ]
    refine hK _ ?_; clear hK K
    refine wpMix_skip (by kernel_rfl) (fun K hK => ?_)
    simp only [Act.put, List.setIfInBounds_toArray, List.set_cons_zero, List.set_cons_succ]
    refine hK _ ?_; clear hK K
    refine wpMix_skip (by kernel_rfl) (fun K hK => ?_)
    simp only [Act.put, List.setIfInBounds_toArray, List.set_cons_zero, List.set_cons_succ]
    refine hK _ ?_; clear hK K
    refine wpMix_skip (by kernel_rfl) (fun K hK => ?_)
    simp only [Act.put, List.setIfInBounds_toArray, List.set_cons_zero, List.set_cons_succ]
    refine hK _ ?_; clear hK K
    refine wpMix_skip (by kernel_rfl) (fun K hK => ?_)
    simp only [Act.put, List.setIfInBounds_toArray, List.set_cons_zero, List.set_cons_succ]
    refine hK _ ?_; clear hK K
    refine wpMix_skip (by kernel_rfl) (fun K hK => ?_)
    simp only [Act.put, List.setIfInBounds_toArray, List.set_cons_zero, List.set_cons_succ]
    refine hK _ ?_; clear hK K
    refine wpMix_skip (by kernel_rfl) (fun K hK => ?_)
    simp only [Act.put, List.setIfInBounds_toArray, List.set_cons_zero, List.set_cons_succ]
    refine hK _ ?_; clear hK K
    refine wpMix_pure (by kernel_rfl) (fun K hK => ?_)
    go_big_quiet_op
    refine hK _ ?_; clear hK K
    refine wpMix_pure (by kernel_rfl) (fun K hK => ?_)
    go_big_quiet_op
    refine hK _ ?_; clear hK K
    refine wpMix_nil ?_
    go_wp2
    go_ret
    exact ⟨ret_bool (by simp [incB, *]), hS0⟩
  · skip
    refine wpMix_pure (by kernel_rfl) (fun K hK => ?_)
    go_big_quiet_op
    refine hK _ ?_; clear hK K
    refine wpMix_pure (by kernel_rfl) (fun K hK => ?_)
    go_big_quiet_op
    refine hK _ ?_; clear hK K
    refine wpMix_pure (by kernel_rfl) (fun K hK => ?_)
    go_big_quiet_op
    refine hK _ ?_; clear hK K
    refine wpMix_pure (by kernel_rfl) (fun K hK => ?_)
    go_big_quiet_op
    refine hK _ ?_; clear hK K
    refine wpMix_pure (by kernel_rfl) (fun K hK => ?_)
    go_big_quiet_op
    refine hK _ ?_; clear hK K
    refine wpMix_act (by kernel_rfl) (fun K hK => ?_)
    go_big_op
    refine (l01Name_any _ _ k1').mono ?_
    rintro e w' ⟨rfl, rfl⟩
    refine hK _ _ (regrown_of_below hS0) ?_
    clear hK K
    cases hq10 : nameB x.place
    · skip
      refine wpMix_pure (by kernel_rfl) (fun K hK => ?_)
      go_big_quiet_op
      refine hK _ ?_; clear hK K
      refine wpMix_pure (by kernel_rfl) (fun K hK => ?_)
      go_big_quiet_op
      refine hK _ ?_; clear hK K
      refine wpMix_skip (by kernel_rfl) (fun K hK => ?_)
      simp only [Act.put, List.setIfInBounds_toArray, List.set_cons_zero, List.set_cons_succ]
      refine hK _ ?_; clear hK K
      refine wpMix_skip (by kernel_rfl) (fun K hK => ?_)
      simp only [Act.put, List.setIfInBounds_toArray, List.set_cons_zero, List.set_cons_succ]
      refine hK _ ?_; clear hK K
      refine wpMix_skip (by kernel_rfl) (fun K hK => ?_)
      simp only [Act.put, List.setIfInBounds_toArray, List.set_cons_zero, List.set_cons_succ]
      refine hK _ ?_; clear hK K
      refine wpMix_skip (by kernel_rfl) (fun K hK => ?_)
      simp only [Act.put, List.setIfInBounds_toArray, List.set_cons_zero, List.set_cons_succ]
      refine hK _ ?_; clear hK K
      refine wpMix_skip (by kernel_rfl) (fun K hK => ?_)
      simp only [Act.put, List.setIfInBounds_toArray, List.set_cons_zero, List.set_cons_succ]
      refine hK _ ?_; clear hK K
      refine wpMix_pure (by kernel_rfl) (fun K hK => ?_)
      go_big_quiet_op
      refine hK _ ?_; clear hK K
      refine wpMix_pure (by kernel_rfl) (fun K hK => ?_)
      go_big_quiet_op
      refine hK _ ?_; clear hK K
      refine wpMix_skip (by kernel_rfl) (fun K hK => ?_)
      simp only [Act.put, List.setIfInBounds_toArray, List.set_cons_zero, List.set_cons_succ]
      refine hK _ ?_; clear hK K
      refine wpMix_skip (by kernel_rfl) (fun K hK => ?_)
      simp only [Act.put, List.setIfInBounds_toArray, List.set_cons_zero, List.set_cons_succ]
      refine hK _ ?_; clear hK K
      refine wpMix_skip (by kernel_rfl) (fun K hK => ?_)
      simp only [Act.put, List.setIfInBounds_toArray, List.set_cons_zero, List.set_cons_succ]
      refine hK _ ?_; clear hK K
      refine wpMix_skip (by kernel_rfl) (fun K hK => ?_)
      simp only [Act.put, List.setIfInBounds_toArray, List.set_cons_zero, List.set_cons_succ]
      refine hK _ ?_; clear hK K
      refine wpMix_skip (by kernel_rfl) (fun K hK => ?_)
      simp only [Act.put, List.setIfInBounds_toArray, List.set_cons_zero, List.set_cons_succ]
      refine hK _ ?_; clear hK K
      refine wpMix_pure (by kernel_rfl) (fun K hK => ?_)
      go_big_quiet_op
      refine hK _ ?_; clear hK K
      refine wpMix_pure (by kernel_rfl) (fun K hK => ?_)
      go_big_quiet_op
      refine hK _ ?_; clear hK K
      refine wpMix_skip (by kernel_rfl) (fun K hK => ?_)
      simp only [Act.put, List.setIfInBounds_toArray, List.set_cons_zero, List.set_cons_succ]
      refine hK _ ?_; clear hK K
      refine wpMix_skip (by kernel_rfl) (fun K hK => ?_)
      simp only [Act.put, List.setIfInBounds_toArray, List.set_cons_zero, List.set_cons_succ]
      refine hK _ ?_; clear hK K
      refine wpMix_skip (by kernel_rfl) (fun K hK => ?_)
      simp only [Act.put, List.setIfInBounds_toArray, List.set_cons_zero, List.set_cons_succ]
      refine hK _ ?_; clear hK K
      refine wpMix_skip (by kernel_rfl) (fun K hK => ?_)
      simp only [Act.put, List.setIfInBounds_toArray, List.set_cons_zero, List.set_cons_succ]
      refine hK _ ?_; clear hK K
      refine wpMix_skip (by kernel_rfl) (fun K hK => ?_)
      simp only [Act.put, List.setIfInBounds_toArray, List.set_cons_zero, List.set_cons_succ]
      refine hK _ ?_; clear hK K
      refine wpMix_pure (by kernel_rfl) (fun K hK => ?_)
      go_big_quiet_op
      refine hK _ ?_; clear hK K
      refine wpMix_pure (by kernel_rfl) (fun K hK => ?_)
      go_big_quiet_op
      refine hK _ ?_; clear hK K
      refine wpMix_skip (by kernel_rfl) (fun K hK => ?_)
      simp only [Act.put, List.setIfInBounds_toArray, List.set_cons_zero, List.set_cons_succ]
      refine hK _ ?_; clear hK K
      refine wpMix_skip (by kernel_rfl) (fun K hK => ?_)
      simp only [Act.put, List.setIfInBounds_toArray, List.set_cons_zero, List.set_cons_succ]
      refine hK _ ?_; clear hK K
      refine wpMix_skip (by kernel_rfl) (fun K hK => ?_)
      simp only [Act.put, List.setIfInBounds_toArray, List.set_cons_zero, List.set_cons_succ]
      refine hK _ ?_; clear hK K
      refine wpMix_skip (by kernel_rfl) (fun K hK => ?_)
      simp only [Act.put, List.setIfInBounds_toArray, List.set_cons_zero, List.set_cons_succ]
      refine hK _ ?_; clear hK K
      refine wpMix_skip (by kernel_rfl) (fun K hK => ?_)
      simp only [Act.put, List.setIfInBounds_toArray, List.set_cons_zero, List.set_cons_succ]
      refine hK _ ?_; clear hK K
      refine wpMix_skip (by kernel_rfl) (fun K hK => ?_)
      simp only [Act.put, List.setIfInBounds_toArray, List.set_cons_zero, List.set_cons_succ]
      refine hK _ ?_; clear hK K
      refine wpMix_skip (by kernel_rfl) (fun K hK => ?_)
      simp only [Act.put, List.setIfInBounds_toArray, List.set_cons_zero, List.set_cons_succ]
      refine hK _ ?_; clear hK K
      refine wpMix_skip (by kernel_rfl) (fun K hK => ?_)
      simp only [Act.put, List.setIfInBounds_toArray, List.set_cons_zero, List.set_cons_succ]
      refine hK _ ?_; clear hK K
      refine wpMix_skip (by kernel_rfl) (fun K hK => ?_)
      simp only [Act.put, List.setIfInBounds_toArray, List.set_cons_zero, List.set_cons_succ]
      refine hK _ ?_; clear hK K
      refine wpMix_pure (by kernel_rfl) (fun K hK => ?_)
      go_big_quiet_op
      refine hK _ ?_; clear hK K
      refine wpMix_pure (by kernel_rfl) (fun K hK => ?_)
      go_big_quiet_op
      refine hK _ ?_; clear hK K
      refine wpMix_nil ?_
      go_wp2
      go_ret
      exact ⟨ret_bool (by simp [incB, *]), hS0⟩
    · skip
      refine wpMix_pure (by kernel_rfl) (fun K hK => ?_)
      go_big_quiet_op
      refine hK _ ?_; clear hK K
      refine wpMix_pure (by kernel_rfl) (fun K hK => ?_)
      go_big_quiet_op
      refine hK _ ?_; clear hK K
      refine wpMix_pure (by kernel_rfl) (fun K hK => ?_)
      go_big_quiet_op
      refine hK _ ?_; clear hK K
      refine wpMix_pure (by kernel_rfl) (fun K hK => ?_)
      go_big_quiet_op
      refine hK _ ?_; clear hK K
      refine wpMix_pure (by kernel_rfl) (fun K hK => ?_)
      go_big_quiet_op
      refine hK _ ?_; clear hK K
      refine wpMix_pure (by kernel_rfl) (fun K hK => ?_)
      go_big_quiet_op
      refine hK _ ?_; clear hK K
      refine wpMix_act (by kernel_rfl) (fun K hK => ?_)
      go_big_op
      refine (l01Name_any _ _ k2').mono ?_
      rintro e w' ⟨rfl, rfl⟩
      refine hK _ _ (regrown_of_below hS0) ?_
      clear hK K
      cases hq17 : nameB x.cause
      · skip
        refine wpMix_pure (by kernel_rfl) (fun K hK => ?_)
        go_big_quiet_op
        refine hK _ ?_; clear hK K
        refine wpMix_pure (by kernel_rfl) (fun K hK => ?_)
        go_big_quiet_op
        refine hK _ ?_; clear hK K
        refine wpMix_skip (by kernel_rfl) (fun K hK => ?_)
        simp only [Act.put, List.setIfInBounds_toArray, List.set_cons_zero, List.set_cons_succ]
        refine hK _ ?_; clear hK K
        refine wpMix_skip (by kernel_rfl) (fun K hK => ?_)
        simp only [Act.put, List.setIfInBounds_toArray, List.set_cons_zero, List.set_cons_succ]
        refine hK _ ?_; clear hK K
        refine wpMix_skip (by kernel_rfl) (fun K hK => ?_)
        simp only [Act.put, List.setIfInBounds_toArray, List.set_cons_zero, List.set_cons_succ]
        refine hK _ ?_; clear hK K
        refine wpMix_skip (by kernel_rfl) (fun K hK => ?_)
        simp only [Act.put, List.setIfInBounds_toArray, List.set_cons_zero, List.set_cons_succ]
        refine hK _ ?_; clear hK K
        refine wpMix_skip (by kernel_rfl) (fun K hK => ?_)
        simp only [Act.put, List.setIfInBounds_toArray, List.set_cons_zero, List.set_cons_succ]
        refine hK _ ?_; clear hK K
        refine wpMix_pure (by kernel_rfl) (fun K hK => ?_)
        go_big_quiet_op
        refine hK _ ?_; clear hK K
        refine wpMix_pure (by kernel_rfl) (fun K hK => ?_)
        go_big_quiet_op
        refine hK _ ?_; clear hK K
        refine wpMix_skip (by kernel_rfl) (fun K hK => ?_)
        simp only [Act.put, List.setIfInBounds_toArray, List.set_cons_zero, List.set_cons_succ]
        refine hK _ ?_; clear hK K
        refine wpMix_skip (by kernel_rfl) (fun K hK => ?_)
        simp only [Act.put, List.setIfInBounds_toArray, List.set_cons_zero, List.set_cons_succ]
        refine hK _ ?_; clear hK K
        refine wpMix_skip (by kernel_rfl) (fun K hK => ?_)
        simp only [Act.put, List.setIfInBounds_toArray, List.set_cons_zero, List.set_cons_succ]
        refine hK _ ?_; clear hK K
        refine wpMix_skip (by kernel_rfl) (fun K hK => ?_)
        simp only [Act.put, List.setIfInBounds_toArray, List.set_cons_zero, List.set_cons_succ]
        refine hK _ ?_; clear hK K
        refine wpMix_skip (by kernel_rfl) (fun K hK => ?_)
        simp only [Act.put, List.setIfInBounds_toArray, List.set_cons_zero, List.set_cons_succ]
        refine hK _ ?_; clear hK K
        refine wpMix_pure (by kernel_rfl) (fun K hK => ?_)
        go_big_quiet_op
        refine hK _ ?_; clear hK K
        refine wpMix_pure (by kernel_rfl) (fun K hK => ?_)
        go_big_quiet_op
        refine hK _ ?_; clear hK K
        refine wpMix_skip (by kernel_rfl) (fun K hK => ?_)
        simp only [Act.put, List.setIfInBounds_toArray, List.set_cons_zero, List.set_cons_succ]
        refine hK _ ?_; clear hK K
        refine wpMix_skip (by kernel_rfl) (fun K hK => ?_)
        simp only [Act.put, List.setIfInBounds_toArray, List.set_cons_zero, List.set_cons_succ]
        refine hK _ ?_; clear hK K
        refine wpMix_skip (by kernel_rfl) (fun K hK => ?_)
        simp only [Act.put, List.setIfInBounds_toArray, List.set_cons_zero, List.set_cons_succ]
        refine hK _ ?_; clear hK K
        refine wpMix_skip (by kernel_rfl) (fun K hK => ?_)
        simp only [Act.put, List.setIfInBounds_toArray, List.set_cons_zero, List.set_cons_succ]
        refine hK _ ?_; clear hK K
        refine wpMix_skip (by kernel_rfl) (fun K hK => ?_)
        simp only [Act.put, List.setIfInBounds_toArray, List.set_cons_zero, List.set_cons_succ]
        refine hK _ ?_; clear hK K
        refine wpMix_skip (by kernel_rfl) (fun K hK => ?_)
        simp only [Act.put, List.setIfInBounds_toArray, List.set_cons_zero, List.set_cons_succ]
        refine hK _ ?_; clear hK K
        refine wpMix_skip (by kernel_rfl) (fun K hK => ?_)
        simp only [Act.put, List.setIfInBounds_toArray, List.set_cons_zero, List.set_cons_succ]
        refine hK _ ?_; clear hK K
        refine wpMix_skip (by kernel_rfl) (fun K hK => ?_)
        simp only [Act.put, List.setIfInBounds_toArray, List.set_cons_zero, List.set_cons_succ]
        refine hK _ ?_; clear hK K
        refine wpMix_skip (by kernel_rfl) (fun K hK => ?_)
        simp only [Act.put, List.setIfInBounds_toArray, List.set_cons_zero, List.set_cons_succ]
        refine hK _ ?_; clear hK K
        refine wpMix_pure (by kernel_rfl) (fun K hK => ?_)
        go_big_quiet_op
        refine hK _ ?_; clear hK K
        refine wpMix_pure (by kernel_rfl) (fun K hK => ?_)
        go_big_quiet_op
        refine hK _ ?_; clear hK K
        refine wpMix_nil ?_
        go_wp2
        go_ret
        exact ⟨ret_bool (by simp [incB, *]), hS0⟩
      · skip
        refine wpMix_pure (by kernel_rfl) (fun K hK => ?_)
        go_big_quiet_op
        refine hK _ ?_; clear hK K
        refine wpMix_pure (by kernel_rfl) (fun K hK => ?_)
        go_big_quiet_op
        refine hK _ ?_; clear hK K
        refine wpMix_pure (by kernel_rfl) (fun K hK => ?_)
        go_big_quiet_op
        refine hK _ ?_; clear hK K
        refine wpMix_pure (by kernel_rfl) (fun K hK => ?_)
        go_big_quiet_op
        refine hK _ ?_; clear hK K
        refine wpMix_pure (by kernel_rfl) (fun K hK => ?_)
        go_big_quiet_op
        refine hK _ ?_; clear hK K
        refine wpMix_pure (by kernel_rfl) (fun K hK => ?_)
        go_big_quiet_op
        refine hK _ ?_; clear hK K
        refine wpMix_act (by kernel_rfl) (fun K hK => ?_)
        go_big_op
        refine (l17IsV_any _ _).mono ?_
        rintro e w' ⟨rfl, rfl⟩
        refine hK _ _ (regrown_of_below hS0) ?_
        clear hK K
        cases hq24 : inB x.level 1 5
        · skip
          refine wpMix_pure (by kernel_rfl) (fun K hK => ?_)
          go_big_quiet_op
          refine hK _ ?_; clear hK K
          refine wpMix_pure (by kernel_rfl) (fun K hK => ?_)
          go_big_quiet_op
          refine hK _ ?_; clear hK K
          refine wpMix_skip (by kernel_rfl) (fun K hK => ?_)
          simp only [Act.put, List.setIfInBounds_toArray, List.set_cons_zero, List.set_cons_succ]
          refine hK _ ?_; clear hK K
          refine wpMix_skip (by kernel_rfl) (fun K hK => ?_)
          simp only [Act.put, List.setIfInBounds_toArray, List.set_cons_zero, List.set_cons_succ]
          refine hK _ ?_; clear hK K
          refine wpMix_skip (by kernel_rfl) (fun K hK => ?_)
          simp only [Act.put, List.setIfInBounds_toArray, List.set_cons_zero, List.set_cons_succ]
          refine hK _ ?_; clear hK K
          refine wpMix_skip (by kernel_rfl) (fun K hK => ?_)
          simp only [Act.put, List.setIfInBounds_toArray, List.set_cons_zero, List.set_cons_succ]
          refine hK _ ?_; clear hK K
          refine wpMix_skip (by kernel_rfl) (fun K hK => ?_)
          simp only [Act.put, List.setIfInBounds_toArray, List.set_cons_zero, List.set_cons_succ]
          refine hK _ ?_; clear hK K
          refine wpMix_pure (by kernel_rfl) (fun K hK => ?_)
          go_big_quiet_op
          refine hK _ ?_; clear hK K
          refine wpMix_pure (by kernel_rfl) (fun K hK => ?_)
          go_big_quiet_op
          refine hK _ ?_; clear hK K
          refine wpMix_skip (by kernel_rfl) (fun K hK => ?_)
          simp only [Act.put, List.setIfInBounds_toArray, List.set_cons_zero, List.set_cons_succ]
          refine hK _ ?_; clear hK K
          refine wpMix_skip (by kernel_rfl) (fun K hK => ?_)
          simp only [Act.put, List.setIfInBounds_toArray, List.set_cons_zero, List.set_cons_succ]
          refine hK _ ?_; clear hK K
          refine wpMix_skip (by kernel_rfl) (fun K hK => ?_)
          simp only [Act.put, List.setIfInBounds_toArray, List.set_cons_zero, List.set_cons_succ]
          refine hK _ ?_; clear hK K
          refine wpMix_skip (by kernel_rfl) (fun K hK => ?_)
          simp only [Act.put, List.setIfInBounds_toArray, List.set_cons_zero, List.set_cons_succ]
          refine hK _ ?_; clear hK K
          refine wpMix_skip (by kernel_rfl) (fun K hK => ?_)
          simp only [Act.put, List.setIfInBounds_toArray, List.set_cons_zero, List.set_cons_succ]
          refine hK _ ?_; clear hK K
          refine wpMix_skip (by kernel_rfl) (fun K hK => ?_)
          simp only [Act.put, List.setIfInBounds_toArray, List.set_cons_zero, List.set_cons_succ]
          refine hK _ ?_; clear hK K
          refine wpMix_skip (by kernel_rfl) (fun K hK => ?_)
          simp only [Act.put, List.setIfInBounds_toArray, List.set_cons_zero, List.set_cons_succ]
          refine hK _ ?_; clear hK K
          refine wpMix_skip (by kernel_rfl) (fun K hK => ?_)
          simp only [Act.put, List.setIfInBounds_toArray, List.set_cons_zero, List.set_cons_succ]
          refine hK _ ?_; clear hK K
          refine wpMix_skip (by kernel_rfl) (fun K hK => ?_)
          simp only [Act.put, List.setIfInBounds_toArray, List.set_cons_zero, List.set_cons_succ]
          refine hK _ ?_; clear hK K
          refine wpMix_pure (by kernel_rfl) (fun K hK => ?_)
          go_big_quiet_op
          refine hK _ ?_; clear hK K
          refine wpMix_pure (by kernel_rfl) (fun K hK => ?_)
          go_big_quiet_op
          refine hK _ ?_; clear hK K
          refine wpMix_nil ?_
          go_wp2
          go_ret
          exact ⟨ret_bool (by simp [incB, *]), hS0⟩
        · skip
          refine wpMix_pure (by kernel_rfl) (fun K hK => ?_)
          go_big_quiet_op
          refine hK _ ?_; clear hK K
          refine wpMix_pure (by kernel_rfl) (fun K hK => ?_)
          go_big_quiet_op
          refine hK _ ?_; clear hK K
          refine wpMix_pure (by kernel_rfl) (fun K hK => ?_)
          go_big_quiet_op
          refine hK _ ?_; clear hK K
          refine wpMix_pure (by kernel_rfl) (fun K hK => ?_)
          go_big_quiet_op
          refine hK _ ?_; clear hK K
          refine wpMix_pure (by kernel_rfl) (fun K hK => ?_)
          go_big_quiet_op
          refine hK _ ?_; clear hK K
          refine wpMix_pure (by kernel_rfl) (fun K hK => ?_)
          go_big_quiet_op
          refine hK _ ?_; clear hK K
          refine wpMix_act (by kernel_rfl) (fun K hK => ?_)
          go_big_op
          refine (l00InB_any _ _ _ _).mono ?_
          rintro e w' ⟨rfl, rfl⟩
          refine hK _ _ (regrown_of_below hS0) ?_
          clear hK K
          cases hq31 : inB x.caught 0 20
          · skip
            refine wpMix_pure (by kernel_rfl) (fun K hK => ?_)
            go_big_quiet_op
            refine hK _ ?_; clear hK K
            refine wpMix_pure (by kernel_rfl) (fun K hK => ?_)
            go_big_quiet_op
            refine hK _ ?_; clear hK K
            refine wpMix_skip (by kernel_rfl) (fun K hK => ?_)
            simp only [Act.put, List.setIfInBounds_toArray, List.set_cons_zero, List.set_cons_succ]
            refine hK _ ?_; clear hK K
            refine wpMix_skip (by kernel_rfl) (fun K hK => ?_)
            simp only [Act.put, List.setIfInBounds_toArray, List.set_cons_zero, List.set_cons_succ]
            refine hK _ ?_; clear hK K
            refine wpMix_skip (by kernel_rfl) (fun K hK => ?_)
            simp only [Act.put, List.setIfInBounds_toArray, List.set_cons_zero, List.set_cons_succ]
            refine hK _ ?_; clear hK K
            refine wpMix_skip (by kernel_rfl) (fun K hK => ?_)
            simp only [Act.put, List.setIfInBounds_toArray, List.set_cons_zero, List.set_cons_succ]
            refine hK _ ?_; clear hK K
            refine wpMix_skip (by kernel_rfl) (fun K hK => ?_)
            simp only [Act.put, List.setIfInBounds_toArray, List.set_cons_zero, List.set_cons_succ]
            refine hK _ ?_; clear hK K
            refine wpMix_skip (by kernel_rfl) (fun K hK => ?_)
            simp only [Act.put, List.setIfInBounds_toArray, List.set_cons_zero, List.set_cons_succ]
            refine hK _ ?_; clear hK K
            refine wpMix_skip (by kernel_rfl) (fun K hK => ?_)
            simp only [Act.put, List.setIfInBounds_toArray, List.set_cons_zero, List.set_cons_succ]
            refine hK _ ?_; clear hK K
            refine wpMix_skip (by kernel_rfl) (fun K hK => ?_)
            simp only [Act.put, List.setIfInBounds_toArray, List.set_cons_zero, List.set_cons_succ]
            refine hK _ ?_; clear hK K
            refine wpMix_skip (by kernel_rfl) (fun K hK => ?_)
            simp only [Act.put, List.setIfInBounds_toArray, List.set_cons_zero, List.set_cons_succ]
            refine hK _ ?_; clear hK K
            refine wpMix_pure (by kernel_rfl) (fun K hK => ?_)
            go_big_quiet_op
            refine hK _ ?_; clear hK K
            refine wpMix_pure (by kernel_rfl) (fun K hK => ?_)
            go_big_quiet_op
            refine hK _ ?_; clear hK K
            refine wpMix_nil ?_
            go_wp2
            go_ret
            exact ⟨ret_bool (by simp [incB, *]), hS0⟩
          · skip
            refine wpMix_pure (by kernel_rfl) (fun K hK => ?_)
            go_big_quiet_op
            refine hK _ ?_; clear hK K
            refine wpMix_pure (by kernel_rfl) (fun K hK => ?_)
            go_big_quiet_op
            refine hK _ ?_; clear hK K
            refine wpMix_pure (by kernel_rfl) (fun K hK => ?_)
            go_big_quiet_op
            refine hK _ ?_; clear hK K
            refine wpMix_pure (by kernel_rfl) (fun K hK => ?_)
            go_big_quiet_op
            refine hK _ ?_; clear hK K
            refine wpMix_pure (by kernel_rfl) (fun K hK => ?_)
            go_big_quiet_op
            refine hK _ ?_; clear hK K
            refine wpMix_pure (by kernel_rfl) (fun K hK => ?_)
            go_big_quiet_op
            refine hK _ ?_; clear hK K
            refine wpMix_pure (by kernel_rfl) (fun K hK => ?_)
            go_big_quiet_op
            refine hK _ ?_; clear hK K
            refine wpMix_pure (by kernel_rfl) (fun K hK => ?_)
            go_big_quiet_op
            refine hK _ ?_; clear hK K
            refine wpMix_pure (by kernel_rfl) (fun K hK => ?_)
            go_big_quiet_op
            refine hK _ ?_; clear hK K
            refine wpMix_pure (by kernel_rfl) (fun K hK => ?_)
            go_big_quiet_op
            refine hK _ ?_; clear hK K
            refine wpMix_act (by kernel_rfl) (fun K hK => ?_)
            go_big_op
            refine (l00InB_any _ _ _ _).mono ?_
            rintro e w' ⟨rfl, rfl⟩
            refine hK _ _ (regrown_of_below hS0) ?_
            clear hK K
            cases hq42 : inB x.buried 0 x.caught
            · skip
              refine wpMix_pure (by kernel_rfl) (fun K hK => ?_)
              go_big_quiet_op
              refine hK _ ?_; clear hK K
              refine wpMix_pure (by kernel_rfl) (fun K hK => ?_)
              go_big_quiet_op
              refine hK _ ?_; clear hK K
              refine wpMix_nil ?_
              go_wp2
              go_ret
              exact ⟨ret_bool (by simp [incB, *]), hS0⟩
            · skip
              refine wpMix_pure (by kernel_rfl) (fun K hK => ?_)
              go_big_quiet_op
              refine hK _ ?_; clear hK K
              refine wpMix_pure (by kernel_rfl) (fun K hK => ?_)
              go_big_quiet_op
              refine hK _ ?_; clear hK K
              refine wpMix_nil ?_
              go_wp2
              go_ret
              exact ⟨ret_bool (by simp [incB, *]), hS0⟩
set_option maxRecDepth 100000 in
set_option maxHeartbeats 4000000 in
theorem incValid_any (x : DIncident) (w : World) (hok : fIncident.ok x) :
    Calls Tryz.prog 100 #[.agg #[.int .i64 x.day, .string x.place, .string x.cause, .int .i64 x.level, .int .i64 x.caught, .int .i64 x.buried]] w fun e w' => e = .returned (.bool (incB x)) ∧ Below w.heap.size w w' := by
  obtain ⟨_, k1, k2, _⟩ := id hok
  have k1' : x.place.size ≤ 9223372036854775807 := k1
  have k2' : x.cause.size ≤ 9223372036854775807 := k2
  clear k1 k2 hok
  have HV := Lib.hid (incV x)
  go_enter Tryz.func100, Tryz.ntmps100
  go_wp2_with fail
  refine (dayValid_any _ _).mono ?_
  rintro e w' ⟨rfl, rfl⟩
  cases hq0 : inB x.day 0 36524
  · have HX : Hid (incB x = false) := by show _ = _; rw [HV.out, hq0]; rfl
    go_wp2
    go_ret
    exact ⟨ret_bool HX.out.symm, (Below.refl _ _).alloc (Nat.le_refl _) _⟩
  · have HX : Hid (incB x = (nameB x.place && (nameB x.cause && (inB x.level 1 5 && (inB x.caught 0 20 && (inB x.buried 0 x.caught)))))) := by show _ = _; rw [HV.out, hq0]; rfl
    go_wp2_with fail
    refine (implIsName_any _ _ k1').mono ?_
    rintro e w' ⟨rfl, rfl⟩
    cases hq1 : nameB x.place
    · have HX : Hid (incB x = false) := by show _ = _; rw [HV.out, hq0, hq1]; rfl
      go_wp2
      go_ret
      exact ⟨ret_bool HX.out.symm, (Below.refl _ _).alloc (Nat.le_refl _) _⟩
    · have HX : Hid (incB x = (nameB x.cause && (inB x.level 1 5 && (inB x.caught 0 20 && (inB x.buried 0 x.caught))))) := by show _ = _; rw [HV.out, hq0, hq1]; rfl
      go_wp2_with fail
      refine (implIsName_any _ _ k2').mono ?_
      rintro e w' ⟨rfl, rfl⟩
      cases hq2 : nameB x.cause
      · have HX : Hid (incB x = false) := by show _ = _; rw [HV.out, hq0, hq1, hq2]; rfl
        go_wp2
        go_ret
        exact ⟨ret_bool HX.out.symm, (Below.refl _ _).alloc (Nat.le_refl _) _⟩
      · have HX : Hid (incB x = (inB x.level 1 5 && (inB x.caught 0 20 && (inB x.buried 0 x.caught)))) := by show _ = _; rw [HV.out, hq0, hq1, hq2]; rfl
        go_wp2_with fail
        refine (levelOkV_any _ _).mono ?_
        rintro e w' ⟨rfl, rfl⟩
        cases hq3 : inB x.level 1 5
        · have HX : Hid (incB x = false) := by show _ = _; rw [HV.out, hq0, hq1, hq2, hq3]; rfl
          go_wp2
          go_ret
          exact ⟨ret_bool HX.out.symm, (Below.refl _ _).alloc (Nat.le_refl _) _⟩
        · have HX : Hid (incB x = (inB x.caught 0 20 && (inB x.buried 0 x.caught))) := by show _ = _; rw [HV.out, hq0, hq1, hq2, hq3]; rfl
          go_wp2_with fail
          refine (withinB_any _ _ _ _).mono ?_
          rintro e w' ⟨rfl, rfl⟩
          cases hq4 : inB x.caught 0 20
          · have HX : Hid (incB x = false) := by show _ = _; rw [HV.out, hq0, hq1, hq2, hq3, hq4]; rfl
            go_wp2
            go_ret
            exact ⟨ret_bool HX.out.symm, (Below.refl _ _).alloc (Nat.le_refl _) _⟩
          · have HX : Hid (incB x = (inB x.buried 0 x.caught)) := by show _ = _; rw [HV.out, hq0, hq1, hq2, hq3, hq4]; rfl
            go_wp2_with fail
            refine (withinB_any _ _ _ _).mono ?_
            rintro e w' ⟨rfl, rfl⟩
            rw [← HX.out]
            go_wp2
            go_ret
            exact ⟨rfl, (Below.refl _ _).alloc (Nat.le_refl _) _⟩
end Go.Proofs.YtgbgibobokchmaaGreat

namespace Go.Proofs.YtgbgibobokchmaaGreat
open Go.RowKit
set_option linter.unusedVariables false

def befI (a b : DIncident) : Bool := if a.day = b.day then (if a.place = b.place then ltS a.cause b.cause else ltS a.place b.place) else decide (a.day < b.day)
def cmpInc (a b : DIncident) : Int := orI [cmI a.day b.day, cmT a.place b.place, cmT a.cause b.cause]
theorem cmpInc_lt (a b : DIncident) : decide (cmpInc a b < 0) = befI a b := by
  unfold cmpInc befI
  rw [orI_three]
  by_cases h : a.day = b.day
  · rw [if_pos (cmI_zero.2 h), if_pos h]
    by_cases h2 : a.place = b.place
    · rw [if_pos (cmT_zero.2 h2), if_pos h2]
      rw [Bool.eq_iff_iff]; simp [cmT_lt]
    · rw [if_neg (fun e => h2 (cmT_zero.1 e)), if_neg h2]
      rw [Bool.eq_iff_iff]; simp [cmT_lt]
  · rw [if_neg (fun e => h (cmI_zero.1 e)), if_neg h]
    rw [Bool.eq_iff_iff]; simp [cmI_lt]

def incOk (xs : List DIncident) (i : Nat) : Bool := incB (xs.getD i n00) && (decide (i = 0) || befI (xs.getD (i - 1) n00) (xs.getD i n00))
def incsB (xs : List DIncident) : Bool := allIdx (incOk xs) xs.length && decide (xs.length ≤ 48)
theorem incOk_zero {xs : List DIncident} (h : 0 < xs.length) : incOk xs 0 = incB xs[0] := by simp [incOk, h]
theorem incOk_succ {xs : List DIncident} {m : Nat} (h : m + 1 < xs.length) : incOk xs (m + 1) = (incB xs[m + 1] && befI xs[m] xs[m + 1]) := by
  have h1 : m < xs.length := by omega
  simp [incOk, h, h1]
theorem incsB_bad {xs : List DIncident} {k : Nat} (h : k < xs.length) (h1 : incOk xs k = false) : incsB xs = false := by
  unfold incsB; rw [allIdx_bad h h1]; rfl
theorem incsB_len {xs : List DIncident} (h : incsB xs = true) : xs.length ≤ 48 := by
  unfold incsB at h; simp at h; exact h.2
theorem incsB_one {xs : List DIncident} (h : incsB xs = true) {k : Nat} (hk : k < xs.length) : incB xs[k] = true := by
  unfold incsB at h
  rw [Bool.and_eq_true] at h
  have := allIdx_true.1 h.1 k hk
  unfold incOk at this
  rw [Bool.and_eq_true] at this
  simpa [hk] using this.1
theorem incsB_two {xs : List DIncident} (h : incsB xs = true) {m : Nat} (hm : m + 1 < xs.length) : befI xs[m] xs[m + 1] = true := by
  unfold incsB at h
  rw [Bool.and_eq_true] at h
  have := allIdx_true.1 h.1 (m + 1) hm
  rw [incOk_succ hm, Bool.and_eq_true] at this
  exact this.2

set_option maxRecDepth 100000 in
set_option maxHeartbeats 4000000 in
theorem l28Before_any (pa oa pb ob : Nat) (a b : DIncident) (w : World) (hpa : PIncident w pa oa a) (hpb : PIncident w pb ob b) :
    Calls Tryz.prog 127 #[.pointer (some ⟨pa, oa, none⟩), .pointer (some ⟨pb, ob, none⟩)] w fun e w' => e = .returned (.bool (befI a b)) ∧ Below w.heap.size w w' := by
  obtain ⟨c0, c1, c2, c3, c4, c5⟩ := id hpa
  obtain ⟨d0, d1, d2, d3, d4, d5⟩ := id hpb
  by_cases hd : a.day = b.day
  · have e1 : (a.day == b.day) = true := by rw [beq_iff_eq]; exact hd
    have e2 : (a.day != b.day) = false := by unfold bne; rw [e1]; rfl
    by_cases hp : a.place = b.place
    · have e3 : (a.place.toList == b.place.toList) = true := eqS_true.2 hp
      have e4 : (a.place.toList != b.place.toList) = false := by unfold bne; rw [e3]; rfl
      have HX : Hid (befI a b = Op.bytesLess a.cause.toList b.cause.toList) := by show _ = _; unfold befI; rw [if_pos hd, if_pos hp]; rfl
      clear hd hp
      go_enter Tryz.func127, Tryz.ntmps127
      go_wp2
      go_quiet (fail)
      go_wp2
      go_quiet (fail)
      go_wp2
      go_quiet (fail)
      go_wp2
      go_ret
      exact ⟨ret_bool HX.out.symm, (by repeat (first | exact Below.refl _ _ | assumption | refine Below.alloc ?_ (by first | omega | (simp <;> omega)) _ | refine Below.setCell ?_ (by first | (show _ ≤ _; omega) | (simp <;> omega)) _ | refine Below.drew ?_ | refine below_drewN ?_ _))⟩
    · have e3 : (a.place.toList == b.place.toList) = false := bytes_beq_false hp
      have e4 : (a.place.toList != b.place.toList) = true := by unfold bne; rw [e3]; rfl
      have HX : Hid (befI a b = Op.bytesLess a.place.toList b.place.toList) := by show _ = _; unfold befI; rw [if_pos hd, if_neg hp]; rfl
      clear hd hp
      go_enter Tryz.func127, Tryz.ntmps127
      go_wp2
      go_quiet (fail)
      go_wp2
      go_quiet (fail)
      go_wp2
      go_quiet (fail)
      go_wp2
      go_ret
      exact ⟨ret_bool HX.out.symm, (by repeat (first | exact Below.refl _ _ | assumption | refine Below.alloc ?_ (by first | omega | (simp <;> omega)) _ | refine Below.setCell ?_ (by first | (show _ ≤ _; omega) | (simp <;> omega)) _ | refine Below.drew ?_ | refine below_drewN ?_ _))⟩
  · have e1 : (a.day == b.day) = false := by rw [beq_eq_false_iff_ne]; exact hd
    have e2 : (a.day != b.day) = true := by unfold bne; rw [e1]; rfl
    have HX : Hid (befI a b = decide (a.day < b.day)) := by show _ = _; unfold befI; rw [if_neg hd]
    clear hd
    go_enter Tryz.func127, Tryz.ntmps127
    go_wp2
    go_quiet (fail)
    go_wp2
    go_quiet (fail)
    go_wp2
    go_ret
    exact ⟨ret_bool HX.out.symm, (by repeat (first | exact Below.refl _ _ | assumption | refine Below.alloc ?_ (by first | omega | (simp <;> omega)) _ | refine Below.setCell ?_ (by first | (show _ ≤ _; omega) | (simp <;> omega)) _ | refine Below.drew ?_ | refine below_drewN ?_ _))⟩
set_option maxRecDepth 100000 in
set_option maxHeartbeats 4000000 in
theorem compareIncidents_any (a b : DIncident) (w : World) :
    Calls Tryz.prog 101 #[.agg #[.int .i64 a.day, .string a.place, .string a.cause, .int .i64 a.level, .int .i64 a.caught, .int .i64 a.buried], .agg #[.int .i64 b.day, .string b.place, .string b.cause, .int .i64 b.level, .int .i64 b.caught, .int .i64 b.buried]] w fun e w' => e = .returned (.int .i64 (cmpInc a b)) ∧ Below w.heap.size w w' := by
  have hpa := PIncident.box w a 152
  have hpb := PIncident.box (w.alloc (.cells #[.int .i64 a.day, .string a.place, .string a.cause, .int .i64 a.level, .int .i64 a.caught, .int .i64 a.buried] 152)) b 152
  rw [World.size_alloc] at hpb
  have hpa2 := hpa.below' ((Below.refl _ _).alloc (Nat.le_refl _) (.cells #[.int .i64 b.day, .string b.place, .string b.cause, .int .i64 b.level, .int .i64 b.caught, .int .i64 b.buried] 152))
  go_enter Tryz.func101, Tryz.ntmps101
  go_wp2
  refine at_world (fun W => Below w.heap.size w W ∧ PIncident W w.heap.size 0 a ∧ PIncident W (w.heap.size + 1) 0 b) ⟨(by repeat (first | exact Below.refl _ _ | assumption | refine Below.alloc ?_ (by first | omega | (simp <;> omega)) _ | refine Below.setCell ?_ (by first | (show _ ≤ _; omega) | (simp <;> omega)) _ | refine Below.drew ?_ | refine below_drewN ?_ _)), hpa2, hpb⟩ ?_
  clear hpa hpb hpa2
  rintro W ⟨hW, ⟨c0, c1, c2, c3, c4, c5⟩, ⟨d0, d1, d2, d3, d4, d5⟩⟩
  have gc0 := cell_regrown c0
  have gc1 := cell_regrown c1
  have gc2 := cell_regrown c2
  have gd0 := cell_regrown d0
  have gd1 := cell_regrown d1
  have gd2 := cell_regrown d2
  refine wp_region_mixed [0, 1, 2, 3, 5, 6, 7, 8, 10, 11, 12, 13, 4, 9, 14, 15, 16, 17] (C := fun w' => ∃ p : Regrown, w' = Go.Sort.grow (redrawn W p.d) p.os) [true, true, true, true, true, true, true, true, true, true, true, true, false, false, false, false, false, true] (by kernel_rfl) (by kernel_rfl) (by kernel_rfl) (fun _ _ d _ _ h => by cases d <;> exact h) (regrown_of_below (Below.drew (Below.refl _ _))) ?_
  simp only [List.map_cons, List.map_nil, List.getD_cons_zero, List.getD_cons_succ]
  have hS0 : Below (W.heap.size) W W.drew := Below.drew (Below.refl _ _)
  refine wpMix_pure (by kernel_rfl) (fun K hK => ?_)
  go_big_quiet_op
  refine hK _ ?_; clear hK K
  refine wpMix_pure (by kernel_rfl) (fun K hK => ?_)
  go_big_quiet_op
  refine hK _ ?_; clear hK K
  refine wpMix_pure (by kernel_rfl) (fun K hK => ?_)
  go_big_quiet_op
  refine hK _ ?_; clear hK K
  refine wpMix_pure (by kernel_rfl) (fun K hK => ?_)
  go_big_quiet_op
  refine hK _ ?_; clear hK K
  refine wpMix_pure (by kernel_rfl) (fun K hK => ?_)
  go_big_quiet_op
  refine hK _ ?_; clear hK K
  refine wpMix_pure (by kernel_rfl) (fun K hK => ?_)
  go_big_quiet_op
  refine hK _ ?_; clear hK K
  refine wpMix_pure (by kernel_rfl) (fun K hK => ?_)
  go_big_quiet_op
  refine hK _ ?_; clear hK K
  refine wpMix_pure (by kernel_rfl) (fun K hK => ?_)
  go_big_quiet_op
  refine hK _ ?_; clear hK K
  refine wpMix_pure (by kernel_rfl) (fun K hK => ?_)
  go_big_quiet_op
  refine hK _ ?_; clear hK K
  refine wpMix_pure (by kernel_rfl) (fun K hK => ?_)
  go_big_quiet_op
  refine hK _ ?_; clear hK K
  refine wpMix_pure (by kernel_rfl) (fun K hK => ?_)
  go_big_quiet_op
  refine hK _ ?_; clear hK K
  refine wpMix_pure (by kernel_rfl) (fun K hK => ?_)
  go_big_quiet_op
  refine hK _ ?_; clear hK K
  refine wpMix_act (by kernel_rfl) (fun K hK => ?_)
  go_big_op
  refine (compareI_any _ _ _).mono ?_
  rintro e w' ⟨rfl, rfl⟩
  refine hK _ _ (regrown_of_below hS0) ?_
  clear hK K
  refine wpMix_act (by kernel_rfl) (fun K hK => ?_)
  go_big_op
  refine (compareT_any _ _ _).mono ?_
  rintro e w' ⟨rfl, rfl⟩
  refine hK _ _ (regrown_of_below hS0) ?_
  clear hK K
  refine wpMix_act (by kernel_rfl) (fun K hK => ?_)
  go_big_op
  refine (compareT_any _ _ _).mono ?_
  rintro e w' ⟨rfl, rfl⟩
  refine hK _ _ (regrown_of_below hS0) ?_
  clear hK K
  refine wpMix_act (by kernel_rfl) (fun K hK => ?_)
  go_big_op
  refine hK _ _ (regrown_of_below (hS0.alloc hS0.size _)) ?_
  clear hK K
  refine mix_world (fun N => Below (W.heap.size) W N ∧ Sl fInt.cod N (.slice (some ⟨W.drew.heap.size, 0, none⟩) 3 3) [cmI a.day b.day, cmT a.place b.place, cmT a.cause b.cause] [W.drew.heap.size]) ⟨hS0.alloc hS0.size _, Sl.lit2 (E := fInt) W.drew [cmI a.day b.day, cmT a.place b.place, cmT a.cause b.cause] _ _ rfl (by intro x hx; simp at hx; rcases hx with rfl | rfl | rfl; exact cmI_ok _ _; exact cmT_ok _ _; exact cmT_ok _ _) (by simp) (by simp)⟩ ?_
  rintro wr4 ⟨hbr4S, hbr4F⟩
  refine wpMix_act (by kernel_rfl) (fun K hK => ?_)
  go_big_op
  refine (orJ_any _ _ _ _ hbr4F).mono ?_
  rintro e w' ⟨rfl, rfl⟩
  refine hK _ _ (regrown_of_below hbr4S) ?_
  clear hK K
  refine wpMix_pure (by kernel_rfl) (fun K hK => ?_)
  go_big_quiet_op
  refine hK _ ?_; clear hK K
  refine wpMix_nil ?_
  go_wp2
  go_ret
  exact ⟨rfl, hW.trans (hbr4S.mono hW.size)⟩
set_option maxRecDepth 100000 in
set_option maxHeartbeats 4000000 in
theorem l28Ok_any (v : Value) (xs : List DIncident) (fp : List Nat) (w : World) (hx : Sl fIncident.cod w v xs fp) :
    Calls Tryz.prog 75 #[v] w fun e w' => e = .returned (.bool (incsB xs)) ∧ Below w.heap.size w w' := by
  obtain ⟨A, cap, rfl, hlen, hcap⟩ := hx.form
  go_enter Tryz.func75, Tryz.ntmps75
  go_wp2
  go_loopw [3] (fun i wr => ∃ k : Nat, k ≤ xs.length ∧ i = .int .i64 k ∧ Hid (allIdx (incOk xs) k = true) ∧ Below w.heap.size w wr) (fun i _ => xs.length - (intOf i).toNat)
  case atStart => exact ⟨0, Nat.zero_le _, rfl, rfl, Below.refl _ _⟩
  case round =>
    obtain ⟨k, hk, rfl, H0, hb⟩ := hrel
    by_cases hlt : k < xs.length
    · rcases Nat.eq_zero_or_pos k with rfl | hpos
      · obtain ⟨b, off, rfl, _, hok, hp⟩ := PIncident.elem (hx.below' hb) hlt
        have hplt := hp.lt
        go_wp2
        refine wp_region_mix (C := fun w' => ∃ p : Regrown, w' = Go.Sort.grow (redrawn wr p.d) p.os) [true, true, true, false, true, true, true, true, true, true, true, true, true, true, true, true, false, true, true, true] (by kernel_rfl) (by kernel_rfl) (by kernel_rfl) (fun _ _ d _ _ h => by cases d <;> exact h) (regrown_of_below (Below.drew (Below.refl _ _))) ?_
        have hS0 : Below (wr.heap.size) wr wr.drew := Below.drew (Below.refl _ _)
        refine wpMix_pure (by kernel_rfl) (fun K hK => ?_)
        go_big_quiet_op
        refine hK _ ?_; clear hK K
        refine wpMix_pure (by kernel_rfl) (fun K hK => ?_)
        go_big_quiet_op
        refine hK _ ?_; clear hK K
        refine wpMix_pure (by kernel_rfl) (fun K hK => ?_)
        go_big_quiet_op
        refine hK _ ?_; clear hK K
        refine wpMix_act (by kernel_rfl) (fun K hK => ?_)
        go_big_op
        refine (l28One_any _ _ _ _ (hp.below hS0 hplt) hok).mono ?_
        rintro e wr1 ⟨rfl, hbr1⟩
        have hbr1S : Below (wr.heap.size) wr wr1 := hS0.trans (hbr1.mono hS0.size)
        refine hK _ _ (regrown_of_below hbr1S) ?_
        clear hK K
        cases hq3 : incB xs[0]
        · skip
          refine wpMix_pure (by kernel_rfl) (fun K hK => ?_)
          go_big_quiet_op
          refine hK _ ?_; clear hK K
          refine wpMix_pure (by kernel_rfl) (fun K hK => ?_)
          go_big_quiet_op
          refine hK _ ?_; clear hK K
          refine wpMix_skip (by kernel_rfl) (fun K hK => ?_)
          simp only [Act.put, List.setIfInBounds_toArray, List.set_cons_zero, List.set_cons_succ]
          refine hK _ ?_; clear hK K
          refine wpMix_skip (by kernel_rfl) (fun K hK => ?_)
          simp only [Act.put, List.setIfInBounds_toArray, List.set_cons_zero, List.set_cons_succ]
          refine hK _ ?_; clear hK K
          refine wpMix_skip (by kernel_rfl) (fun K hK => ?_)
          simp only [Act.put, List.setIfInBounds_toArray, List.set_cons_zero, List.set_cons_succ]
          refine hK _ ?_; clear hK K
          refine wpMix_skip (by kernel_rfl) (fun K hK => ?_)
          simp only [Act.put, List.setIfInBounds_toArray, List.set_cons_zero, List.set_cons_succ]
          refine hK _ ?_; clear hK K
          refine wpMix_skip (by kernel_rfl) (fun K hK => ?_)
          simp only [Act.put, List.setIfInBounds_toArray, List.set_cons_zero, List.set_cons_succ]
          refine hK _ ?_; clear hK K
          refine wpMix_skip (by kernel_rfl) (fun K hK => ?_)
          simp only [Act.put, List.setIfInBounds_toArray, List.set_cons_zero, List.set_cons_succ]
          refine hK _ ?_; clear hK K
          refine wpMix_skip (by kernel_rfl) (fun K hK => ?_)
          simp only [Act.put, List.setIfInBounds_toArray, List.set_cons_zero, List.set_cons_succ]
          refine hK _ ?_; clear hK K
          refine wpMix_skip (by kernel_rfl) (fun K hK => ?_)
          simp only [Act.put, List.setIfInBounds_toArray, List.set_cons_zero, List.set_cons_succ]
          refine hK _ ?_; clear hK K
          refine wpMix_skip (by kernel_rfl) (fun K hK => ?_)
          simp only [Act.put, List.setIfInBounds_toArray, List.set_cons_zero, List.set_cons_succ]
          refine hK _ ?_; clear hK K
          refine wpMix_skip (by kernel_rfl) (fun K hK => ?_)
          simp only [Act.put, List.setIfInBounds_toArray, List.set_cons_zero, List.set_cons_succ]
          refine hK _ ?_; clear hK K
          refine wpMix_skip (by kernel_rfl) (fun K hK => ?_)
          simp only [Act.put, List.setIfInBounds_toArray, List.set_cons_zero, List.set_cons_succ]
          refine hK _ ?_; clear hK K
          refine wpMix_skip (by kernel_rfl) (fun K hK => ?_)
          simp only [Act.put, List.setIfInBounds_toArray, List.set_cons_zero, List.set_cons_succ]
          refine hK _ ?_; clear hK K
          refine wpMix_skip (by kernel_rfl) (fun K hK => ?_)
          simp only [Act.put, List.setIfInBounds_toArray, List.set_cons_zero, List.set_cons_succ]
          refine hK _ ?_; clear hK K
          refine wpMix_pure (by kernel_rfl) (fun K hK => ?_)
          go_big_quiet_op
          refine hK _ ?_; clear hK K
          refine wpMix_nil ?_
          go_wp2
          go_ret
          exact ⟨ret_bool (by rw [incsB_bad hlt (by rw [incOk_zero hlt]; simp [*])]), hb.trans (hbr1S.mono hb.size)⟩
        · skip
          refine wpMix_pure (by kernel_rfl) (fun K hK => ?_)
          go_big_quiet_op
          refine hK _ ?_; clear hK K
          refine wpMix_pure (by kernel_rfl) (fun K hK => ?_)
          go_big_quiet_op
          refine hK _ ?_; clear hK K
          refine wpMix_pure (by kernel_rfl) (fun K hK => ?_)
          go_big_quiet_op
          refine hK _ ?_; clear hK K
          refine wpMix_pure (by kernel_rfl) (fun K hK => ?_)
          go_big_quiet_op
          refine hK _ ?_; clear hK K
          refine wpMix_pure (by kernel_rfl) (fun K hK => ?_)
          go_big_quiet_op
          refine hK _ ?_; clear hK K
          refine wpMix_skip (by kernel_rfl) (fun K hK => ?_)
          simp only [Act.put, List.setIfInBounds_toArray, List.set_cons_zero, List.set_cons_succ]
          refine hK _ ?_; clear hK K
          refine wpMix_skip (by kernel_rfl) (fun K hK => ?_)
          simp only [Act.put, List.setIfInBounds_toArray, List.set_cons_zero, List.set_cons_succ]
          refine hK _ ?_; clear hK K
          refine wpMix_skip (by kernel_rfl) (fun K hK => ?_)
          simp only [Act.put, List.setIfInBounds_toArray, List.set_cons_zero, List.set_cons_succ]
          refine hK _ ?_; clear hK K
          refine wpMix_skip (by kernel_rfl) (fun K hK => ?_)
          simp only [Act.put, List.setIfInBounds_toArray, List.set_cons_zero, List.set_cons_succ]
          refine hK _ ?_; clear hK K
          refine wpMix_skip (by kernel_rfl) (fun K hK => ?_)
          simp only [Act.put, List.setIfInBounds_toArray, List.set_cons_zero, List.set_cons_succ]
          refine hK _ ?_; clear hK K
          refine wpMix_skip (by kernel_rfl) (fun K hK => ?_)
          simp only [Act.put, List.setIfInBounds_toArray, List.set_cons_zero, List.set_cons_succ]
          refine hK _ ?_; clear hK K
          refine wpMix_skip (by kernel_rfl) (fun K hK => ?_)
          simp only [Act.put, List.setIfInBounds_toArray, List.set_cons_zero, List.set_cons_succ]
          refine hK _ ?_; clear hK K
          refine wpMix_skip (by kernel_rfl) (fun K hK => ?_)
          simp only [Act.put, List.setIfInBounds_toArray, List.set_cons_zero, List.set_cons_succ]
          refine hK _ ?_; clear hK K
          refine wpMix_skip (by kernel_rfl) (fun K hK => ?_)
          simp only [Act.put, List.setIfInBounds_toArray, List.set_cons_zero, List.set_cons_succ]
          refine hK _ ?_; clear hK K
          refine wpMix_pure (by kernel_rfl) (fun K hK => ?_)
          go_big_quiet_op
          refine hK _ ?_; clear hK K
          refine wpMix_pure (by kernel_rfl) (fun K hK => ?_)
          go_big_quiet_op
          refine hK _ ?_; clear hK K
          refine wpMix_nil ?_
          go_wp2
          go_roundw
          case rel => exact ⟨0 + 1, by omega, by go_num, allIdx_step H0.out (by rw [incOk_zero hlt]; simp [*]), hb.trans (hbr1S.mono hb.size)⟩
          case measure => simp [intOf]; omega
      · obtain ⟨m, rfl⟩ : ∃ m, k = m + 1 := ⟨k - 1, by omega⟩
        have hm : m < xs.length := by omega
        obtain ⟨b, off, rfl, _, hok, hp⟩ := PIncident.elem (hx.below' hb) hlt
        have hplt := hp.lt
        obtain ⟨b1, off1, hA1, _, hokm, hpm⟩ := PIncident.elem (hx.below' hb) hm
        injection hA1 with hA1
        injection hA1 with hA1 hA2 _
        subst hA1 hA2
        go_wp2
        refine wp_region_mix (C := fun w' => ∃ p : Regrown, w' = Go.Sort.grow (redrawn wr p.d) p.os) [true, true, true, false, true, true, true, true, true, true, true, true, true, true, true, true, false, true, true, true] (by kernel_rfl) (by kernel_rfl) (by kernel_rfl) (fun _ _ d _ _ h => by cases d <;> exact h) (regrown_of_below (Below.drew (Below.refl _ _))) ?_
        have hS0 : Below (wr.heap.size) wr wr.drew := Below.drew (Below.refl _ _)
        refine wpMix_pure (by kernel_rfl) (fun K hK => ?_)
        go_big_quiet_op
        refine hK _ ?_; clear hK K
        refine wpMix_pure (by kernel_rfl) (fun K hK => ?_)
        go_big_quiet_op
        refine hK _ ?_; clear hK K
        refine wpMix_pure (by kernel_rfl) (fun K hK => ?_)
        go_big_quiet_op
        refine hK _ ?_; clear hK K
        refine wpMix_act (by kernel_rfl) (fun K hK => ?_)
        go_big_op
        refine (l28One_any _ _ _ _ (hp.below hS0 hplt) hok).mono ?_
        rintro e wr1 ⟨rfl, hbr1⟩
        have hbr1S : Below (wr.heap.size) wr wr1 := hS0.trans (hbr1.mono hS0.size)
        refine hK _ _ (regrown_of_below hbr1S) ?_
        clear hK K
        cases hq3 : incB xs[m + 1]
        · skip
          refine wpMix_pure (by kernel_rfl) (fun K hK => ?_)
          go_big_quiet_op
          refine hK _ ?_; clear hK K
          refine wpMix_pure (by kernel_rfl) (fun K hK => ?_)
          go_big_quiet_op
          refine hK _ ?_; clear hK K
          refine wpMix_skip (by kernel_rfl) (fun K hK => ?_)
          simp only [Act.put, List.setIfInBounds_toArray, List.set_cons_zero, List.set_cons_succ]
          refine hK _ ?_; clear hK K
          refine wpMix_skip (by kernel_rfl) (fun K hK => ?_)
          simp only [Act.put, List.setIfInBounds_toArray, List.set_cons_zero, List.set_cons_succ]
          refine hK _ ?_; clear hK K
          refine wpMix_skip (by kernel_rfl) (fun K hK => ?_)
          simp only [Act.put, List.setIfInBounds_toArray, List.set_cons_zero, List.set_cons_succ]
          refine hK _ ?_; clear hK K
          refine wpMix_skip (by kernel_rfl) (fun K hK => ?_)
          simp only [Act.put, List.setIfInBounds_toArray, List.set_cons_zero, List.set_cons_succ]
          refine hK _ ?_; clear hK K
          refine wpMix_skip (by kernel_rfl) (fun K hK => ?_)
          simp only [Act.put, List.setIfInBounds_toArray, List.set_cons_zero, List.set_cons_succ]
          refine hK _ ?_; clear hK K
          refine wpMix_skip (by kernel_rfl) (fun K hK => ?_)
          simp only [Act.put, List.setIfInBounds_toArray, List.set_cons_zero, List.set_cons_succ]
          refine hK _ ?_; clear hK K
          refine wpMix_skip (by kernel_rfl) (fun K hK => ?_)
          simp only [Act.put, List.setIfInBounds_toArray, List.set_cons_zero, List.set_cons_succ]
          refine hK _ ?_; clear hK K
          refine wpMix_skip (by kernel_rfl) (fun K hK => ?_)
          simp only [Act.put, List.setIfInBounds_toArray, List.set_cons_zero, List.set_cons_succ]
          refine hK _ ?_; clear hK K
          refine wpMix_skip (by kernel_rfl) (fun K hK => ?_)
          simp only [Act.put, List.setIfInBounds_toArray, List.set_cons_zero, List.set_cons_succ]
          refine hK _ ?_; clear hK K
          refine wpMix_skip (by kernel_rfl) (fun K hK => ?_)
          simp only [Act.put, List.setIfInBounds_toArray, List.set_cons_zero, List.set_cons_succ]
          refine hK _ ?_; clear hK K
          refine wpMix_skip (by kernel_rfl) (fun K hK => ?_)
          simp only [Act.put, List.setIfInBounds_toArray, List.set_cons_zero, List.set_cons_succ]
          refine hK _ ?_; clear hK K
          refine wpMix_skip (by kernel_rfl) (fun K hK => ?_)
          simp only [Act.put, List.setIfInBounds_toArray, List.set_cons_zero, List.set_cons_succ]
          refine hK _ ?_; clear hK K
          refine wpMix_skip (by kernel_rfl) (fun K hK => ?_)
          simp only [Act.put, List.setIfInBounds_toArray, List.set_cons_zero, List.set_cons_succ]
          refine hK _ ?_; clear hK K
          refine wpMix_pure (by kernel_rfl) (fun K hK => ?_)
          go_big_quiet_op
          refine hK _ ?_; clear hK K
          refine wpMix_nil ?_
          go_wp2
          go_ret
          exact ⟨ret_bool (by rw [incsB_bad hlt (by rw [incOk_succ hlt]; simp [*])]), hb.trans (hbr1S.mono hb.size)⟩
        · skip
          refine wpMix_pure (by kernel_rfl) (fun K hK => ?_)
          go_big_quiet_op
          refine hK _ ?_; clear hK K
          refine wpMix_pure (by kernel_rfl) (fun K hK => ?_)
          go_big_quiet_op
          refine hK _ ?_; clear hK K
          refine wpMix_pure (by kernel_rfl) (fun K hK => ?_)
          go_big_quiet_op
          refine hK _ ?_; clear hK K
          refine wpMix_pure (by kernel_rfl) (fun K hK => ?_)
          go_big_quiet_op
          refine hK _ ?_; clear hK K
          refine wpMix_pure (by kernel_rfl) (fun K hK => ?_)
          go_big_quiet_op
          refine hK _ ?_; clear hK K
          refine wpMix_pure (by kernel_rfl) (fun K hK => ?_)
          go_big_quiet_op
          refine hK _ ?_; clear hK K
          refine wpMix_pure (by kernel_rfl) (fun K hK => ?_)
          go_big_quiet_op
          refine hK _ ?_; clear hK K
          refine wpMix_pure (by kernel_rfl) (fun K hK => ?_)
          go_big_quiet_op
          refine hK _ ?_; clear hK K
          refine wpMix_pure (by kernel_rfl) (fun K hK => ?_)
          go_big_quiet_op
          refine hK _ ?_; clear hK K
          refine wpMix_pure (by kernel_rfl) (fun K hK => ?_)
          go_big_quiet_op
          refine hK _ ?_; clear hK K
          refine wpMix_pure (by kernel_rfl) (fun K hK => ?_)
          go_big_quiet_op
          refine hK _ ?_; clear hK K
          refine wpMix_pure (by kernel_rfl) (fun K hK => ?_)
          go_big_quiet_op
          refine hK _ ?_; clear hK K
          refine wpMix_act (by kernel_rfl) (fun K hK => ?_)
          go_big_op
          refine (l28Before_any _ _ _ _ _ _ _ (hpm.below hbr1S hplt) (hp.below hbr1S hplt)).mono ?_
          rintro e wr2 ⟨rfl, hbr2⟩
          have hbr2S : Below (wr.heap.size) wr wr2 := hbr1S.trans (hbr2.mono hbr1S.size)
          refine hK _ _ (regrown_of_below hbr2S) ?_
          clear hK K
          cases hq16 : befI xs[m] xs[m + 1]
          · skip
            refine wpMix_pure (by kernel_rfl) (fun K hK => ?_)
            go_big_quiet_op
            refine hK _ ?_; clear hK K
            refine wpMix_pure (by kernel_rfl) (fun K hK => ?_)
            go_big_quiet_op
            refine hK _ ?_; clear hK K
            refine wpMix_pure (by kernel_rfl) (fun K hK => ?_)
            go_big_quiet_op
            refine hK _ ?_; clear hK K
            refine wpMix_nil ?_
            go_wp2
            go_ret
            exact ⟨ret_bool (by rw [incsB_bad hlt (by rw [incOk_succ hlt]; simp [*])]), hb.trans (hbr2S.mono hb.size)⟩
          · skip
            refine wpMix_pure (by kernel_rfl) (fun K hK => ?_)
            go_big_quiet_op
            refine hK _ ?_; clear hK K
            refine wpMix_pure (by kernel_rfl) (fun K hK => ?_)
            go_big_quiet_op
            refine hK _ ?_; clear hK K
            refine wpMix_pure (by kernel_rfl) (fun K hK => ?_)
            go_big_quiet_op
            refine hK _ ?_; clear hK K
            refine wpMix_nil ?_
            go_wp2
            go_roundw
            case rel => exact ⟨m + 1 + 1, by omega, by go_num, allIdx_step H0.out (by rw [incOk_succ hlt]; simp [*]), hb.trans (hbr2S.mono hb.size)⟩
            case measure => simp [intOf]; omega
    · have HF := Lib.hid (allIdx_full (by omega) hk H0.out)
      by_cases hle : xs.length ≤ 48
      all_goals
        go_wp2
        go_ret
        exact ⟨ret_bool (by unfold incsB; rw [HF.out]; simp [hle] <;> omega), hb⟩
set_option maxRecDepth 100000 in
set_option maxHeartbeats 4000000 in
theorem ValidIncidents_any (v : Value) (xs : List DIncident) (fp : List Nat) (w : World) (hx : Sl fIncident.cod w v xs fp) :
    Calls Tryz.prog 45 #[v] w fun e w' => e = .returned (.bool (incsB xs)) ∧ Below w.heap.size w w' := by
  obtain ⟨A, cap, rfl, hlen, hcap⟩ := hx.form
  by_cases hle : xs.length ≤ 48
  · go_enter Tryz.func45, Tryz.ntmps45
    go_wp2
    go_loopw [10] (fun i wr => ∃ k : Nat, k ≤ xs.length ∧ i = .int .i64 k ∧ Hid (allIdx (incOk xs) k = true) ∧ Below w.heap.size w wr) (fun i _ => xs.length - (intOf i).toNat)
    case atStart => exact ⟨0, Nat.zero_le _, rfl, rfl, Below.refl _ _⟩
    case round =>
      obtain ⟨k, hk, rfl, H0, hb⟩ := hrel
      by_cases hlt : k < xs.length
      · rcases Nat.eq_zero_or_pos k with rfl | hpos
        · skip
          obtain ⟨b, off, rfl, _, hok, hp⟩ := PIncident.elem (hx.below' hb) hlt
          rw [Nat.zero_mul, Nat.add_zero] at hp
          obtain ⟨c0, c1, c2, c3, c4, c5⟩ := id hp
          go_wp2
          refine at_world (fun W => Below wr.heap.size wr W ∧ PIncident W wr.heap.size 0 xs[0]) ⟨(Below.refl _ _).alloc (Nat.le_refl _) _, PIncident.box wr xs[0] _⟩ ?_
          clear c0 c1 c2 c3 c4 c5
          rintro W ⟨hW, hpW⟩
          obtain ⟨c0, c1, c2, c3, c4, c5⟩ := id hpW
          have gc0 := cell_regrown c0
          have gc1 := cell_regrown c1
          have gc2 := cell_regrown c2
          have gc3 := cell_regrown c3
          have gc4 := cell_regrown c4
          have gc5 := cell_regrown c5
          refine wp_region_mix (C := fun w' => ∃ p : Regrown, w' = Go.Sort.grow (redrawn W p.d) p.os) [true, false, true, true, true, true, true, true, true, true, true, true, true, false, true, true, true] (by kernel_rfl) (by kernel_rfl) (by kernel_rfl) (fun _ _ d _ _ h => by cases d <;> exact h) (regrown_of_below (Below.drew (Below.refl _ _))) ?_
          have hS0 : Below (W.heap.size) W W.drew := Below.drew (Below.refl _ _)
          refine wpMix_pure (by kernel_rfl) (fun K hK => ?_)
          go_big_quiet_op
          refine hK _ ?_; clear hK K
          refine wpMix_act (by kernel_rfl) (fun K hK => ?_)
          go_big_op
          refine (incValid_any xs[0] _ hok).mono ?_
          rintro e wr1 ⟨rfl, hbr1⟩
          have hbr1S : Below (W.heap.size) W wr1 := hS0.trans (hbr1.mono hS0.size)
          refine hK _ _ (regrown_of_below hbr1S) ?_
          clear hK K
          cases hq1 : incB xs[0]
          · skip
            refine wpMix_pure (by kernel_rfl) (fun K hK => ?_)
            go_big_quiet_op
            refine hK _ ?_; clear hK K
            refine wpMix_pure (by kernel_rfl) (fun K hK => ?_)
            go_big_quiet_op
            refine hK _ ?_; clear hK K
            refine wpMix_skip (by kernel_rfl) (fun K hK => ?_)
            simp only [Act.put, List.setIfInBounds_toArray, List.set_cons_zero, List.set_cons_succ]
            refine hK _ ?_; clear hK K
            refine wpMix_skip (by kernel_rfl) (fun K hK => ?_)
            simp only [Act.put, List.setIfInBounds_toArray, List.set_cons_zero, List.set_cons_succ]
            refine hK _ ?_; clear hK K
            refine wpMix_skip (by kernel_rfl) (fun K hK => ?_)
            simp only [Act.put, List.setIfInBounds_toArray, List.set_cons_zero, List.set_cons_succ]
            refine hK _ ?_; clear hK K
            refine wpMix_skip (by kernel_rfl) (fun K hK => ?_)
            simp only [Act.put, List.setIfInBounds_toArray, List.set_cons_zero, List.set_cons_succ]
            refine hK _ ?_; clear hK K
            refine wpMix_skip (by kernel_rfl) (fun K hK => ?_)
            simp only [Act.put, List.setIfInBounds_toArray, List.set_cons_zero, List.set_cons_succ]
            refine hK _ ?_; clear hK K
            refine wpMix_skip (by kernel_rfl) (fun K hK => ?_)
            simp only [Act.put, List.setIfInBounds_toArray, List.set_cons_zero, List.set_cons_succ]
            refine hK _ ?_; clear hK K
            refine wpMix_skip (by kernel_rfl) (fun K hK => ?_)
            simp only [Act.put, List.setIfInBounds_toArray, List.set_cons_zero, List.set_cons_succ]
            refine hK _ ?_; clear hK K
            refine wpMix_skip (by kernel_rfl) (fun K hK => ?_)
            simp only [Act.put, List.setIfInBounds_toArray, List.set_cons_zero, List.set_cons_succ]
            refine hK _ ?_; clear hK K
            refine wpMix_skip (by kernel_rfl) (fun K hK => ?_)
            simp only [Act.put, List.setIfInBounds_toArray, List.set_cons_zero, List.set_cons_succ]
            refine hK _ ?_; clear hK K
            refine wpMix_skip (by kernel_rfl) (fun K hK => ?_)
            simp only [Act.put, List.setIfInBounds_toArray, List.set_cons_zero, List.set_cons_succ]
            refine hK _ ?_; clear hK K
            refine wpMix_skip (by kernel_rfl) (fun K hK => ?_)
            simp only [Act.put, List.setIfInBounds_toArray, List.set_cons_zero, List.set_cons_succ]
            refine hK _ ?_; clear hK K
            refine wpMix_skip (by kernel_rfl) (fun K hK => ?_)
            simp only [Act.put, List.setIfInBounds_toArray, List.set_cons_zero, List.set_cons_succ]
            refine hK _ ?_; clear hK K
            refine wpMix_pure (by kernel_rfl) (fun K hK => ?_)
            go_big_quiet_op
            refine hK _ ?_; clear hK K
            refine wpMix_nil ?_
            go_wp2
            go_ret
            exact ⟨ret_bool (by rw [incsB_bad hlt (by rw [incOk_zero hlt]; simp [*])]), hb.trans (hW.trans (hbr1S.mono hW.size) |>.mono hb.size)⟩
          · skip
            refine wpMix_pure (by kernel_rfl) (fun K hK => ?_)
            go_big_quiet_op
            refine hK _ ?_; clear hK K
            refine wpMix_pure (by kernel_rfl) (fun K hK => ?_)
            go_big_quiet_op
            refine hK _ ?_; clear hK K
            refine wpMix_pure (by kernel_rfl) (fun K hK => ?_)
            go_big_quiet_op
            refine hK _ ?_; clear hK K
            refine wpMix_pure (by kernel_rfl) (fun K hK => ?_)
            go_big_quiet_op
            refine hK _ ?_; clear hK K
            refine wpMix_pure (by kernel_rfl) (fun K hK => ?_)
            go_big_quiet_op
            refine hK _ ?_; clear hK K
            refine wpMix_skip (by kernel_rfl) (fun K hK => ?_)
            simp only [Act.put, List.setIfInBounds_toArray, List.set_cons_zero, List.set_cons_succ]
            refine hK _ ?_; clear hK K
            refine wpMix_skip (by kernel_rfl) (fun K hK => ?_)
            simp only [Act.put, List.setIfInBounds_toArray, List.set_cons_zero, List.set_cons_succ]
            refine hK _ ?_; clear hK K
            refine wpMix_skip (by kernel_rfl) (fun K hK => ?_)
            simp only [Act.put, List.setIfInBounds_toArray, List.set_cons_zero, List.set_cons_succ]
            refine hK _ ?_; clear hK K
            refine wpMix_skip (by kernel_rfl) (fun K hK => ?_)
            simp only [Act.put, List.setIfInBounds_toArray, List.set_cons_zero, List.set_cons_succ]
            refine hK _ ?_; clear hK K
            refine wpMix_skip (by kernel_rfl) (fun K hK => ?_)
            simp only [Act.put, List.setIfInBounds_toArray, List.set_cons_zero, List.set_cons_succ]
            refine hK _ ?_; clear hK K
            refine wpMix_skip (by kernel_rfl) (fun K hK => ?_)
            simp only [Act.put, List.setIfInBounds_toArray, List.set_cons_zero, List.set_cons_succ]
            refine hK _ ?_; clear hK K
            refine wpMix_skip (by kernel_rfl) (fun K hK => ?_)
            simp only [Act.put, List.setIfInBounds_toArray, List.set_cons_zero, List.set_cons_succ]
            refine hK _ ?_; clear hK K
            refine wpMix_skip (by kernel_rfl) (fun K hK => ?_)
            simp only [Act.put, List.setIfInBounds_toArray, List.set_cons_zero, List.set_cons_succ]
            refine hK _ ?_; clear hK K
            refine wpMix_pure (by kernel_rfl) (fun K hK => ?_)
            go_big_quiet_op
            refine hK _ ?_; clear hK K
            refine wpMix_pure (by kernel_rfl) (fun K hK => ?_)
            go_big_quiet_op
            refine hK _ ?_; clear hK K
            refine wpMix_nil ?_
            go_wp2
            go_roundw
            case rel => exact ⟨0 + 1, by omega, by go_num, allIdx_step H0.out (by rw [incOk_zero hlt]; simp [*]), hb.trans (hW.trans (hbr1S.mono hW.size) |>.mono hb.size)⟩
            case measure => simp [intOf]; omega
        · obtain ⟨m, rfl⟩ : ∃ m, k = m + 1 := ⟨k - 1, by omega⟩
          have hm : m < xs.length := by omega
          obtain ⟨b, off, rfl, _, hok, hp⟩ := PIncident.elem (hx.below' hb) hlt
          skip
          obtain ⟨c0, c1, c2, c3, c4, c5⟩ := id hp
          obtain ⟨b1, off1, hA1, _, hokm, hpm⟩ := PIncident.elem (hx.below' hb) hm
          injection hA1 with hA1
          injection hA1 with hA1 hA2 _
          subst hA1 hA2
          go_wp2
          refine at_world (fun W => Below wr.heap.size wr W ∧ PIncident W wr.heap.size 0 xs[m + 1] ∧ PIncident W b (off + m * 6) xs[m]) ⟨(Below.refl _ _).alloc (Nat.le_refl _) _, PIncident.box wr xs[m + 1] _, hpm.below' ((Below.refl _ _).alloc (Nat.le_refl _) _)⟩ ?_
          clear c0 c1 c2 c3 c4 c5 hpm
          rintro W ⟨hW, hpW, hpm⟩
          obtain ⟨c0, c1, c2, c3, c4, c5⟩ := id hpW
          obtain ⟨d0, d1, d2, d3, d4, d5⟩ := id hpm
          have gc0 := cell_regrown c0
          have gc1 := cell_regrown c1
          have gc2 := cell_regrown c2
          have gc3 := cell_regrown c3
          have gc4 := cell_regrown c4
          have gc5 := cell_regrown c5
          have gd0 := cell_regrown d0
          have gd1 := cell_regrown d1
          have gd2 := cell_regrown d2
          have gd3 := cell_regrown d3
          have gd4 := cell_regrown d4
          have gd5 := cell_regrown d5
          refine wp_region_mix (C := fun w' => ∃ p : Regrown, w' = Go.Sort.grow (redrawn W p.d) p.os) [true, false, true, true, true, true, true, true, true, true, true, true, true, false, true, true, true] (by kernel_rfl) (by kernel_rfl) (by kernel_rfl) (fun _ _ d _ _ h => by cases d <;> exact h) (regrown_of_below (Below.drew (Below.refl _ _))) ?_
          have hS0 : Below (W.heap.size) W W.drew := Below.drew (Below.refl _ _)
          refine wpMix_pure (by kernel_rfl) (fun K hK => ?_)
          go_big_quiet_op
          refine hK _ ?_; clear hK K
          refine wpMix_act (by kernel_rfl) (fun K hK => ?_)
          go_big_op
          refine (incValid_any xs[m + 1] _ hok).mono ?_
          rintro e wr1 ⟨rfl, hbr1⟩
          have hbr1S : Below (W.heap.size) W wr1 := hS0.trans (hbr1.mono hS0.size)
          refine hK _ _ (regrown_of_below hbr1S) ?_
          clear hK K
          cases hq1 : incB xs[m + 1]
          · skip
            refine wpMix_pure (by kernel_rfl) (fun K hK => ?_)
            go_big_quiet_op
            refine hK _ ?_; clear hK K
            refine wpMix_pure (by kernel_rfl) (fun K hK => ?_)
            go_big_quiet_op
            refine hK _ ?_; clear hK K
            refine wpMix_skip (by kernel_rfl) (fun K hK => ?_)
            simp only [Act.put, List.setIfInBounds_toArray, List.set_cons_zero, List.set_cons_succ]
            refine hK _ ?_; clear hK K
            refine wpMix_skip (by kernel_rfl) (fun K hK => ?_)
            simp only [Act.put, List.setIfInBounds_toArray, List.set_cons_zero, List.set_cons_succ]
            refine hK _ ?_; clear hK K
            refine wpMix_skip (by kernel_rfl) (fun K hK => ?_)
            simp only [Act.put, List.setIfInBounds_toArray, List.set_cons_zero, List.set_cons_succ]
            refine hK _ ?_; clear hK K
            refine wpMix_skip (by kernel_rfl) (fun K hK => ?_)
            simp only [Act.put, List.setIfInBounds_toArray, List.set_cons_zero, List.set_cons_succ]
            refine hK _ ?_; clear hK K
            refine wpMix_skip (by kernel_rfl) (fun K hK => ?_)
            simp only [Act.put, List.setIfInBounds_toArray, List.set_cons_zero, List.set_cons_succ]
            refine hK _ ?_; clear hK K
            refine wpMix_skip (by kernel_rfl) (fun K hK => ?_)
            simp only [Act.put, List.setIfInBounds_toArray, List.set_cons_zero, List.set_cons_succ]
            refine hK _ ?_; clear hK K
            refine wpMix_skip (by kernel_rfl) (fun K hK => ?_)
            simp only [Act.put, List.setIfInBounds_toArray, List.set_cons_zero, List.set_cons_succ]
            refine hK _ ?_; clear hK K
            refine wpMix_skip (by kernel_rfl) (fun K hK => ?_)
            simp only [Act.put, List.setIfInBounds_toArray, List.set_cons_zero, List.set_cons_succ]
            refine hK _ ?_; clear hK K
            refine wpMix_skip (by kernel_rfl) (fun K hK => ?_)
            simp only [Act.put, List.setIfInBounds_toArray, List.set_cons_zero, List.set_cons_succ]
            refine hK _ ?_; clear hK K
            refine wpMix_skip (by kernel_rfl) (fun K hK => ?_)
            simp only [Act.put, List.setIfInBounds_toArray, List.set_cons_zero, List.set_cons_succ]
            refine hK _ ?_; clear hK K
            refine wpMix_skip (by kernel_rfl) (fun K hK => ?_)
            simp only [Act.put, List.setIfInBounds_toArray, List.set_cons_zero, List.set_cons_succ]
            refine hK _ ?_; clear hK K
            refine wpMix_skip (by kernel_rfl) (fun K hK => ?_)
            simp only [Act.put, List.setIfInBounds_toArray, List.set_cons_zero, List.set_cons_succ]
            refine hK _ ?_; clear hK K
            refine wpMix_pure (by kernel_rfl) (fun K hK => ?_)
            go_big_quiet_op
            refine hK _ ?_; clear hK K
            refine wpMix_nil ?_
            go_wp2
            go_ret
            exact ⟨ret_bool (by rw [incsB_bad hlt (by rw [incOk_succ hlt]; simp [*])]), hb.trans (hW.trans (hbr1S.mono hW.size) |>.mono hb.size)⟩
          · skip
            refine wpMix_pure (by kernel_rfl) (fun K hK => ?_)
            go_big_quiet_op
            refine hK _ ?_; clear hK K
            refine wpMix_pure (by kernel_rfl) (fun K hK => ?_)
            go_big_quiet_op
            refine hK _ ?_; clear hK K
            refine wpMix_pure (by kernel_rfl) (fun K hK => ?_)
            go_big_quiet_op
            refine hK _ ?_; clear hK K
            refine wpMix_pure (by kernel_rfl) (fun K hK => ?_)
            go_big_quiet_op
            refine hK _ ?_; clear hK K
            refine wpMix_pure (by kernel_rfl) (fun K hK => ?_)
            go_big_quiet_op
            refine hK _ ?_; clear hK K
            refine wpMix_pure (by kernel_rfl) (fun K hK => ?_)
            go_big_quiet_op
            refine hK _ ?_; clear hK K
            refine wpMix_pure (by kernel_rfl) (fun K hK => ?_)
            go_big_quiet_op
            refine hK _ ?_; clear hK K
            refine wpMix_pure (by kernel_rfl) (fun K hK => ?_)
            go_big_quiet_op
            refine hK _ ?_; clear hK K
            refine wpMix_pure (by kernel_rfl) (fun K hK => ?_)
            go_big_quiet_op
            refine hK _ ?_; clear hK K
            refine wpMix_pure (by kernel_rfl) (fun K hK => ?_)
            go_big_quiet_op
            refine hK _ ?_; clear hK K
            refine wpMix_pure (by kernel_rfl) (fun K hK => ?_)
            go_big_quiet_op
            refine hK _ ?_; clear hK K
            refine wpMix_act (by kernel_rfl) (fun K hK => ?_)
            go_big_op
            refine (compareIncidents_any _ _ _).mono ?_
            rintro e wr2 ⟨rfl, hbr2⟩
            have hbr2S : Below (W.heap.size) W wr2 := hbr1S.trans (hbr2.mono hbr1S.size)
            refine hK _ _ (regrown_of_below hbr2S) ?_
            clear hK K
            by_cases hq14 : befI xs[m] xs[m + 1] = true
            · skip
              have hcm : cmpInc xs[m] xs[m + 1] < 0 := by have := cmpInc_lt xs[m] xs[m + 1]; rw [hq14] at this; simpa using this
              have e14 : decide (0 ≤ cmpInc xs[m] xs[m + 1]) = false := by simp; omega
              refine wpMix_pure (by kernel_rfl) (fun K hK => ?_)
              go_big_quiet_op
              refine hK _ ?_; clear hK K
              refine wpMix_pure (by kernel_rfl) (fun K hK => ?_)
              go_big_quiet_op
              refine hK _ ?_; clear hK K
              refine wpMix_pure (by kernel_rfl) (fun K hK => ?_)
              go_big_quiet_op
              refine hK _ ?_; clear hK K
              refine wpMix_nil ?_
              go_wp2
              go_roundw
              case rel => exact ⟨m + 1 + 1, by omega, by go_num, allIdx_step H0.out (by rw [incOk_succ hlt]; simp [*]), hb.trans (hW.trans (hbr2S.mono hW.size) |>.mono hb.size)⟩
              case measure => simp [intOf]; omega
            · skip
              have hbf : befI xs[m] xs[m + 1] = false := by simpa using hq14
              have hcm : 0 ≤ cmpInc xs[m] xs[m + 1] := by have := cmpInc_lt xs[m] xs[m + 1]; rw [hbf] at this; simpa using this
              have e14 : decide (0 ≤ cmpInc xs[m] xs[m + 1]) = true := by simpa using hcm
              refine wpMix_pure (by kernel_rfl) (fun K hK => ?_)
              go_big_quiet_op
              refine hK _ ?_; clear hK K
              refine wpMix_pure (by kernel_rfl) (fun K hK => ?_)
              go_big_quiet_op
              refine hK _ ?_; clear hK K
              refine wpMix_pure (by kernel_rfl) (fun K hK => ?_)
              go_big_quiet_op
              refine hK _ ?_; clear hK K
              refine wpMix_nil ?_
              go_wp2
              go_ret
              exact ⟨ret_bool (by rw [incsB_bad hlt (by rw [incOk_succ hlt]; simp [*])]), hb.trans (hW.trans (hbr2S.mono hW.size) |>.mono hb.size)⟩
      · have HF := Lib.hid (allIdx_full (by omega) hk H0.out)
        go_wp2
        go_ret
        exact ⟨ret_bool (by unfold incsB; rw [HF.out]; simp [hle]), hb⟩
  · go_enter Tryz.func45, Tryz.ntmps45
    go_wp2
    go_ret
    exact ⟨ret_bool (by unfold incsB; simp <;> omega), Below.refl _ _⟩

end Go.Proofs.YtgbgibobokchmaaGreat

namespace Go.Proofs.YtgbgibobokchmaaGreat
open Go.RowKit
set_option linter.unusedVariables false

def deskB (x : DDesk) : Bool := obssB x.ob && (fieldB x.rows x.columns x.ma && (testsB x.te && (standsB x.st && (pathB x.pa && (zonesB x.zo && (regionsB x.re && (versB x.ve && (shotsB x.sh && (groupsB x.gr && (watchsB x.wa && (incsB x.in_)))))))))))
theorem deskB_eq (x : DDesk) : deskB x = (obssB x.ob && (fieldB x.rows x.columns x.ma && (testsB x.te && (standsB x.st && (pathB x.pa && (zonesB x.zo && (regionsB x.re && (versB x.ve && (shotsB x.sh && (groupsB x.gr && (watchsB x.wa && (incsB x.in_)))))))))))) := rfl
set_option maxRecDepth 100000 in
set_option maxHeartbeats 4000000 in
theorem l32Ok_any (g : Nat) (x : DDesk) (v : DVals) (F : Nat → List Nat) (w : World) (hp : DBox w g v x) (hd : DeskRd w v x F) :
    Calls Tryz.prog 21 #[.pointer (some ⟨g, 0, none⟩)] w fun e w' => e = .returned (.bool (deskB x)) ∧ Below w.heap.size w w' := by
  have hB := Below.refl w.heap.size w
  have HX := Lib.hid (deskB_eq x)
  go_enter Tryz.func21, Tryz.ntmps21
  try simp only [List.append_eq, List.cons_append, List.nil_append]
  have qc0 := hp.c0
  go_wp2_with fail
  refine (l04Ok_any _ _ _ _ hd.ob).mono ?_
  rintro e w1 ⟨rfl, hbn⟩
  clear qc0
  replace hd := hd.below' hbn
  replace hp := hp.below' hbn
  replace hB := hB.trans (hbn.mono hB.size)
  clear hbn
  rcases Bool.eq_false_or_eq_true (obssB x.ob) with h | h
  rotate_left
  · have HF : Hid (deskB x = false) := by show _ = _; rw [HX.out, h]; rfl
    rw [h]
    clear h
    go_wp2
    go_ret
    exact ⟨ret_bool HF.out.symm, hB⟩
  replace HX : Hid (deskB x = (fieldB x.rows x.columns x.ma && (testsB x.te && (standsB x.st && (pathB x.pa && (zonesB x.zo && (regionsB x.re && (versB x.ve && (shotsB x.sh && (groupsB x.gr && (watchsB x.wa && (incsB x.in_)))))))))))) := by show _ = _; rw [HX.out, h]; rfl
  rw [h]
  clear h
  go_wp2_with fail
  refine (l06Ok_any g 1 _ _ _ _ _ _ hp.c1 hp.c2 hp.c3 hd.ma).mono ?_
  rintro e w1 ⟨rfl, hbn⟩
  replace hd := hd.below' hbn
  replace hp := hp.below' hbn
  replace hB := hB.trans (hbn.mono hB.size)
  clear hbn
  rcases Bool.eq_false_or_eq_true (fieldB x.rows x.columns x.ma) with h | h
  rotate_left
  · have HF : Hid (deskB x = false) := by show _ = _; rw [HX.out, h]; rfl
    rw [h]
    clear h
    go_wp2
    go_ret
    exact ⟨ret_bool HF.out.symm, hB⟩
  replace HX : Hid (deskB x = (testsB x.te && (standsB x.st && (pathB x.pa && (zonesB x.zo && (regionsB x.re && (versB x.ve && (shotsB x.sh && (groupsB x.gr && (watchsB x.wa && (incsB x.in_))))))))))) := by show _ = _; rw [HX.out, h]; rfl
  rw [h]
  clear h
  have qc4 := hp.c4
  go_wp2_with fail
  refine (l08Ok_any _ _ _ _ hd.te).mono ?_
  rintro e w1 ⟨rfl, hbn⟩
  clear qc4
  replace hd := hd.below' hbn
  replace hp := hp.below' hbn
  replace hB := hB.trans (hbn.mono hB.size)
  clear hbn
  rcases Bool.eq_false_or_eq_true (testsB x.te) with h | h
  rotate_left
  · have HF : Hid (deskB x = false) := by show _ = _; rw [HX.out, h]; rfl
    rw [h]
    clear h
    go_wp2
    go_ret
    exact ⟨ret_bool HF.out.symm, hB⟩
  replace HX : Hid (deskB x = (standsB x.st && (pathB x.pa && (zonesB x.zo && (regionsB x.re && (versB x.ve && (shotsB x.sh && (groupsB x.gr && (watchsB x.wa && (incsB x.in_)))))))))) := by show _ = _; rw [HX.out, h]; rfl
  rw [h]
  clear h
  have qc5 := hp.c5
  go_wp2_with fail
  refine (l10Ok_any _ _ _ _ hd.st).mono ?_
  rintro e w1 ⟨rfl, hbn⟩
  clear qc5
  replace hd := hd.below' hbn
  replace hp := hp.below' hbn
  replace hB := hB.trans (hbn.mono hB.size)
  clear hbn
  rcases Bool.eq_false_or_eq_true (standsB x.st) with h | h
  rotate_left
  · have HF : Hid (deskB x = false) := by show _ = _; rw [HX.out, h]; rfl
    rw [h]
    clear h
    go_wp2
    go_ret
    exact ⟨ret_bool HF.out.symm, hB⟩
  replace HX : Hid (deskB x = (pathB x.pa && (zonesB x.zo && (regionsB x.re && (versB x.ve && (shotsB x.sh && (groupsB x.gr && (watchsB x.wa && (incsB x.in_))))))))) := by show _ = _; rw [HX.out, h]; rfl
  rw [h]
  clear h
  have qc6 := hp.c6
  go_wp2_with fail
  refine (l14Ok_any _ _ _ _ hd.pa).mono ?_
  rintro e w1 ⟨rfl, hbn⟩
  clear qc6
  replace hd := hd.below' hbn
  replace hp := hp.below' hbn
  replace hB := hB.trans (hbn.mono hB.size)
  clear hbn
  rcases Bool.eq_false_or_eq_true (pathB x.pa) with h | h
  rotate_left
  · have HF : Hid (deskB x = false) := by show _ = _; rw [HX.out, h]; rfl
    rw [h]
    clear h
    go_wp2
    go_ret
    exact ⟨ret_bool HF.out.symm, hB⟩
  replace HX : Hid (deskB x = (zonesB x.zo && (regionsB x.re && (versB x.ve && (shotsB x.sh && (groupsB x.gr && (watchsB x.wa && (incsB x.in_)))))))) := by show _ = _; rw [HX.out, h]; rfl
  rw [h]
  clear h
  have qc7 := hp.c7
  go_wp2_with fail
  refine (l16Line_any _ _ _ _ hd.zo).mono ?_
  rintro e w1 ⟨rfl, rfl⟩
  clear qc7
  rcases Bool.eq_false_or_eq_true (zonesB x.zo) with h | h
  rotate_left
  · have HF : Hid (deskB x = false) := by show _ = _; rw [HX.out, h]; rfl
    rw [h]
    clear h
    go_wp2
    go_ret
    exact ⟨ret_bool HF.out.symm, hB⟩
  replace HX : Hid (deskB x = (regionsB x.re && (versB x.ve && (shotsB x.sh && (groupsB x.gr && (watchsB x.wa && (incsB x.in_))))))) := by show _ = _; rw [HX.out, h]; rfl
  rw [h]
  clear h
  have qc8 := hp.c8
  go_wp2_with fail
  refine (l18Ok_any _ _ _ _ hd.re).mono ?_
  rintro e w1 ⟨rfl, hbn⟩
  clear qc8
  replace hd := hd.below' hbn
  replace hp := hp.below' hbn
  replace hB := hB.trans (hbn.mono hB.size)
  clear hbn
  rcases Bool.eq_false_or_eq_true (regionsB x.re) with h | h
  rotate_left
  · have HF : Hid (deskB x = false) := by show _ = _; rw [HX.out, h]; rfl
    rw [h]
    clear h
    go_wp2
    go_ret
    exact ⟨ret_bool HF.out.symm, hB⟩
  replace HX : Hid (deskB x = (versB x.ve && (shotsB x.sh && (groupsB x.gr && (watchsB x.wa && (incsB x.in_)))))) := by show _ = _; rw [HX.out, h]; rfl
  rw [h]
  clear h
  have qc9 := hp.c9
  go_wp2_with fail
  refine (l20Ok_any _ _ _ _ hd.ve).mono ?_
  rintro e w1 ⟨rfl, hbn⟩
  clear qc9
  replace hd := hd.below' hbn
  replace hp := hp.below' hbn
  replace hB := hB.trans (hbn.mono hB.size)
  clear hbn
  rcases Bool.eq_false_or_eq_true (versB x.ve) with h | h
  rotate_left
  · have HF : Hid (deskB x = false) := by show _ = _; rw [HX.out, h]; rfl
    rw [h]
    clear h
    go_wp2
    go_ret
    exact ⟨ret_bool HF.out.symm, hB⟩
  replace HX : Hid (deskB x = (shotsB x.sh && (groupsB x.gr && (watchsB x.wa && (incsB x.in_))))) := by show _ = _; rw [HX.out, h]; rfl
  rw [h]
  clear h
  have qc10 := hp.c10
  go_wp2_with fail
  refine (l22Ok_any _ _ _ _ hd.sh).mono ?_
  rintro e w1 ⟨rfl, hbn⟩
  clear qc10
  replace hd := hd.below' hbn
  replace hp := hp.below' hbn
  replace hB := hB.trans (hbn.mono hB.size)
  clear hbn
  rcases Bool.eq_false_or_eq_true (shotsB x.sh) with h | h
  rotate_left
  · have HF : Hid (deskB x = false) := by show _ = _; rw [HX.out, h]; rfl
    rw [h]
    clear h
    go_wp2
    go_ret
    exact ⟨ret_bool HF.out.symm, hB⟩
  replace HX : Hid (deskB x = (groupsB x.gr && (watchsB x.wa && (incsB x.in_)))) := by show _ = _; rw [HX.out, h]; rfl
  rw [h]
  clear h
  have qc11 := hp.c11
  go_wp2_with fail
  refine (l24Ok_any _ _ _ _ hd.gr).mono ?_
  rintro e w1 ⟨rfl, hbn⟩
  clear qc11
  replace hd := hd.below' hbn
  replace hp := hp.below' hbn
  replace hB := hB.trans (hbn.mono hB.size)
  clear hbn
  rcases Bool.eq_false_or_eq_true (groupsB x.gr) with h | h
  rotate_left
  · have HF : Hid (deskB x = false) := by show _ = _; rw [HX.out, h]; rfl
    rw [h]
    clear h
    go_wp2
    go_ret
    exact ⟨ret_bool HF.out.symm, hB⟩
  replace HX : Hid (deskB x = (watchsB x.wa && (incsB x.in_))) := by show _ = _; rw [HX.out, h]; rfl
  rw [h]
  clear h
  have qc12 := hp.c12
  go_wp2_with fail
  refine (l26Ok_any _ _ _ _ hd.wa).mono ?_
  rintro e w1 ⟨rfl, hbn⟩
  clear qc12
  replace hd := hd.below' hbn
  replace hp := hp.below' hbn
  replace hB := hB.trans (hbn.mono hB.size)
  clear hbn
  rcases Bool.eq_false_or_eq_true (watchsB x.wa) with h | h
  rotate_left
  · have HF : Hid (deskB x = false) := by show _ = _; rw [HX.out, h]; rfl
    rw [h]
    clear h
    go_wp2
    go_ret
    exact ⟨ret_bool HF.out.symm, hB⟩
  replace HX : Hid (deskB x = (incsB x.in_)) := by show _ = _; rw [HX.out, h]; rfl
  rw [h]
  clear h
  have qc13 := hp.c13
  go_wp2_with fail
  refine (l28Ok_any _ _ _ _ hd.in_).mono ?_
  rintro e w1 ⟨rfl, hbn⟩
  clear qc13
  replace hd := hd.below' hbn
  replace hp := hp.below' hbn
  replace hB := hB.trans (hbn.mono hB.size)
  clear hbn
  go_wp2
  go_ret
  exact ⟨ret_bool HX.out.symm, hB⟩
set_option maxRecDepth 100000 in
set_option maxHeartbeats 4000000 in
theorem implValidDesk_any (x : DDesk) (v : DVals) (F : Nat → List Nat) (w : World) (hd : DeskRd w v x F) :
    Calls Tryz.prog 7 #[deskA v x] w fun e w' => e = .returned (.bool (deskB x)) ∧ Below w.heap.size w w' := by
  have hB : Below w.heap.size w (w.alloc (.cells #[v.ob, .int .i64 x.rows, .int .i64 x.columns, v.ma, v.te, v.st, v.pa, v.zo, v.re, v.ve, v.sh, v.gr, v.wa, v.in_] 51)) := (Below.refl _ _).alloc (Nat.le_refl _) _
  have hp := DBox.new w v x 51
  replace hd := hd.below' hB
  have HX := Lib.hid (deskB_eq x)
  unfold deskA
  go_enter Tryz.func7, Tryz.ntmps7
  try simp only [List.append_eq, List.cons_append, List.nil_append]
  have qc0 := hp.c0
  go_wp2_with fail
  refine (ValidObserved_any _ _ _ _ hd.ob).mono ?_
  rintro e w1 ⟨rfl, hbn⟩
  clear qc0
  replace hd := hd.below' hbn
  replace hp := hp.below' hbn
  replace hB := hB.trans (hbn.mono hB.size)
  clear hbn
  rcases Bool.eq_false_or_eq_true (obssB x.ob) with h | h
  rotate_left
  · have HF : Hid (deskB x = false) := by show _ = _; rw [HX.out, h]; rfl
    rw [h]
    clear h
    go_wp2
    go_ret
    exact ⟨ret_bool HF.out.symm, hB⟩
  replace HX : Hid (deskB x = (fieldB x.rows x.columns x.ma && (testsB x.te && (standsB x.st && (pathB x.pa && (zonesB x.zo && (regionsB x.re && (versB x.ve && (shotsB x.sh && (groupsB x.gr && (watchsB x.wa && (incsB x.in_)))))))))))) := by show _ = _; rw [HX.out, h]; rfl
  rw [h]
  clear h
  have qc1 := hp.c1
  have qc2 := hp.c2
  have qc3 := hp.c3
  go_wp2_with fail
  refine (ValidField_any _ _ _ _ _ _ hd.ma).mono ?_
  rintro e w1 ⟨rfl, hbn⟩
  clear qc1 qc2 qc3
  replace hd := hd.below' hbn
  replace hp := hp.below' hbn
  replace hB := hB.trans (hbn.mono hB.size)
  clear hbn
  rcases Bool.eq_false_or_eq_true (fieldB x.rows x.columns x.ma) with h | h
  rotate_left
  · have HF : Hid (deskB x = false) := by show _ = _; rw [HX.out, h]; rfl
    rw [h]
    clear h
    go_wp2
    go_ret
    exact ⟨ret_bool HF.out.symm, hB⟩
  replace HX : Hid (deskB x = (testsB x.te && (standsB x.st && (pathB x.pa && (zonesB x.zo && (regionsB x.re && (versB x.ve && (shotsB x.sh && (groupsB x.gr && (watchsB x.wa && (incsB x.in_))))))))))) := by show _ = _; rw [HX.out, h]; rfl
  rw [h]
  clear h
  have qc4 := hp.c4
  go_wp2_with fail
  refine (ValidTests_any _ _ _ _ hd.te).mono ?_
  rintro e w1 ⟨rfl, hbn⟩
  clear qc4
  replace hd := hd.below' hbn
  replace hp := hp.below' hbn
  replace hB := hB.trans (hbn.mono hB.size)
  clear hbn
  rcases Bool.eq_false_or_eq_true (testsB x.te) with h | h
  rotate_left
  · have HF : Hid (deskB x = false) := by show _ = _; rw [HX.out, h]; rfl
    rw [h]
    clear h
    go_wp2
    go_ret
    exact ⟨ret_bool HF.out.symm, hB⟩
  replace HX : Hid (deskB x = (standsB x.st && (pathB x.pa && (zonesB x.zo && (regionsB x.re && (versB x.ve && (shotsB x.sh && (groupsB x.gr && (watchsB x.wa && (incsB x.in_)))))))))) := by show _ = _; rw [HX.out, h]; rfl
  rw [h]
  clear h
  have qc5 := hp.c5
  go_wp2_with fail
  refine (ValidStands_any _ _ _ _ hd.st).mono ?_
  rintro e w1 ⟨rfl, hbn⟩
  clear qc5
  replace hd := hd.below' hbn
  replace hp := hp.below' hbn
  replace hB := hB.trans (hbn.mono hB.size)
  clear hbn
  rcases Bool.eq_false_or_eq_true (standsB x.st) with h | h
  rotate_left
  · have HF : Hid (deskB x = false) := by show _ = _; rw [HX.out, h]; rfl
    rw [h]
    clear h
    go_wp2
    go_ret
    exact ⟨ret_bool HF.out.symm, hB⟩
  replace HX : Hid (deskB x = (pathB x.pa && (zonesB x.zo && (regionsB x.re && (versB x.ve && (shotsB x.sh && (groupsB x.gr && (watchsB x.wa && (incsB x.in_))))))))) := by show _ = _; rw [HX.out, h]; rfl
  rw [h]
  clear h
  have qc6 := hp.c6
  go_wp2_with fail
  refine (ValidPath_any _ _ _ _ hd.pa).mono ?_
  rintro e w1 ⟨rfl, hbn⟩
  clear qc6
  replace hd := hd.below' hbn
  replace hp := hp.below' hbn
  replace hB := hB.trans (hbn.mono hB.size)
  clear hbn
  rcases Bool.eq_false_or_eq_true (pathB x.pa) with h | h
  rotate_left
  · have HF : Hid (deskB x = false) := by show _ = _; rw [HX.out, h]; rfl
    rw [h]
    clear h
    go_wp2
    go_ret
    exact ⟨ret_bool HF.out.symm, hB⟩
  replace HX : Hid (deskB x = (zonesB x.zo && (regionsB x.re && (versB x.ve && (shotsB x.sh && (groupsB x.gr && (watchsB x.wa && (incsB x.in_)))))))) := by show _ = _; rw [HX.out, h]; rfl
  rw [h]
  clear h
  have qc7 := hp.c7
  go_wp2_with fail
  refine (zonesOk_any _ _ _ _ hd.zo).mono ?_
  rintro e w1 ⟨rfl, hbn⟩
  clear qc7
  replace hd := hd.below' hbn
  replace hp := hp.below' hbn
  replace hB := hB.trans (hbn.mono hB.size)
  clear hbn
  rcases Bool.eq_false_or_eq_true (zonesB x.zo) with h | h
  rotate_left
  · have HF : Hid (deskB x = false) := by show _ = _; rw [HX.out, h]; rfl
    rw [h]
    clear h
    go_wp2
    go_ret
    exact ⟨ret_bool HF.out.symm, hB⟩
  replace HX : Hid (deskB x = (regionsB x.re && (versB x.ve && (shotsB x.sh && (groupsB x.gr && (watchsB x.wa && (incsB x.in_))))))) := by show _ = _; rw [HX.out, h]; rfl
  rw [h]
  clear h
  have qc8 := hp.c8
  go_wp2_with fail
  refine (ValidRegions_any _ _ _ _ hd.re).mono ?_
  rintro e w1 ⟨rfl, hbn⟩
  clear qc8
  replace hd := hd.below' hbn
  replace hp := hp.below' hbn
  replace hB := hB.trans (hbn.mono hB.size)
  clear hbn
  rcases Bool.eq_false_or_eq_true (regionsB x.re) with h | h
  rotate_left
  · have HF : Hid (deskB x = false) := by show _ = _; rw [HX.out, h]; rfl
    rw [h]
    clear h
    go_wp2
    go_ret
    exact ⟨ret_bool HF.out.symm, hB⟩
  replace HX : Hid (deskB x = (versB x.ve && (shotsB x.sh && (groupsB x.gr && (watchsB x.wa && (incsB x.in_)))))) := by show _ = _; rw [HX.out, h]; rfl
  rw [h]
  clear h
  have qc9 := hp.c9
  go_wp2_with fail
  refine (ValidVerified_any _ _ _ _ hd.ve).mono ?_
  rintro e w1 ⟨rfl, hbn⟩
  clear qc9
  replace hd := hd.below' hbn
  replace hp := hp.below' hbn
  replace hB := hB.trans (hbn.mono hB.size)
  clear hbn
  rcases Bool.eq_false_or_eq_true (versB x.ve) with h | h
  rotate_left
  · have HF : Hid (deskB x = false) := by show _ = _; rw [HX.out, h]; rfl
    rw [h]
    clear h
    go_wp2
    go_ret
    exact ⟨ret_bool HF.out.symm, hB⟩
  replace HX : Hid (deskB x = (shotsB x.sh && (groupsB x.gr && (watchsB x.wa && (incsB x.in_))))) := by show _ = _; rw [HX.out, h]; rfl
  rw [h]
  clear h
  have qc10 := hp.c10
  go_wp2_with fail
  refine (ValidShots_any _ _ _ _ hd.sh).mono ?_
  rintro e w1 ⟨rfl, hbn⟩
  clear qc10
  replace hd := hd.below' hbn
  replace hp := hp.below' hbn
  replace hB := hB.trans (hbn.mono hB.size)
  clear hbn
  rcases Bool.eq_false_or_eq_true (shotsB x.sh) with h | h
  rotate_left
  · have HF : Hid (deskB x = false) := by show _ = _; rw [HX.out, h]; rfl
    rw [h]
    clear h
    go_wp2
    go_ret
    exact ⟨ret_bool HF.out.symm, hB⟩
  replace HX : Hid (deskB x = (groupsB x.gr && (watchsB x.wa && (incsB x.in_)))) := by show _ = _; rw [HX.out, h]; rfl
  rw [h]
  clear h
  have qc11 := hp.c11
  go_wp2_with fail
  refine (validGroups_any _ _ _ _ hd.gr).mono ?_
  rintro e w1 ⟨rfl, hbn⟩
  clear qc11
  replace hd := hd.below' hbn
  replace hp := hp.below' hbn
  replace hB := hB.trans (hbn.mono hB.size)
  clear hbn
  rcases Bool.eq_false_or_eq_true (groupsB x.gr) with h | h
  rotate_left
  · have HF : Hid (deskB x = false) := by show _ = _; rw [HX.out, h]; rfl
    rw [h]
    clear h
    go_wp2
    go_ret
    exact ⟨ret_bool HF.out.symm, hB⟩
  replace HX : Hid (deskB x = (watchsB x.wa && (incsB x.in_))) := by show _ = _; rw [HX.out, h]; rfl
  rw [h]
  clear h
  have qc12 := hp.c12
  go_wp2_with fail
  refine (ValidWatches_any _ _ _ _ hd.wa).mono ?_
  rintro e w1 ⟨rfl, hbn⟩
  clear qc12
  replace hd := hd.below' hbn
  replace hp := hp.below' hbn
  replace hB := hB.trans (hbn.mono hB.size)
  clear hbn
  rcases Bool.eq_false_or_eq_true (watchsB x.wa) with h | h
  rotate_left
  · have HF : Hid (deskB x = false) := by show _ = _; rw [HX.out, h]; rfl
    rw [h]
    clear h
    go_wp2
    go_ret
    exact ⟨ret_bool HF.out.symm, hB⟩
  replace HX : Hid (deskB x = (incsB x.in_)) := by show _ = _; rw [HX.out, h]; rfl
  rw [h]
  clear h
  have qc13 := hp.c13
  go_wp2_with fail
  refine (ValidIncidents_any _ _ _ _ hd.in_).mono ?_
  rintro e w1 ⟨rfl, hbn⟩
  clear qc13
  replace hd := hd.below' hbn
  replace hp := hp.below' hbn
  replace hB := hB.trans (hbn.mono hB.size)
  clear hbn
  go_wp2
  go_ret
  exact ⟨ret_bool HX.out.symm, hB⟩
set_option maxRecDepth 100000 in
set_option maxHeartbeats 2000000 in
theorem specValidDesk_any (x : DDesk) (v : DVals) (F : Nat → List Nat) (w : World) (hd : DeskRd w v x F) :
    Calls Tryz.prog 5 #[deskA v x] w fun e w' => e = .returned (.bool (deskB x)) ∧ Below w.heap.size w w' := by
  have hB : Below w.heap.size w (w.alloc (.cells #[v.ob, .int .i64 x.rows, .int .i64 x.columns, v.ma, v.te, v.st, v.pa, v.zo, v.re, v.ve, v.sh, v.gr, v.wa, v.in_] 51)) := (Below.refl _ _).alloc (Nat.le_refl _) _
  have hp := DBox.new w v x 51
  replace hd := hd.below' hB
  unfold deskA
  go_enter Tryz.func5, Tryz.ntmps5
  go_wp2_with fail
  refine (l32Ok_any _ x v F _ hp hd).mono ?_
  rintro e w1 ⟨rfl, hb⟩
  go_wp2
  go_ret
  exact ⟨rfl, hB.trans (hb.mono hB.size)⟩
end Go.Proofs.YtgbgibobokchmaaGreat

namespace Go.Proofs.YtgbgibobokchmaaGreat
open Go.RowKit
set_option linter.unusedVariables false

set_option maxRecDepth 100000 in
set_option maxHeartbeats 8000000 in
theorem walkValidDesk (x : DDesk) (va : DVals) (Fa : Nat → List Nat) (w : World) (ha : DeskRd w va x Fa) :
    Calls Tryz.prog 3 #[deskA va x] w fun e w' => YesR w e w' := by
  have hB : Below w.heap.size w (w.alloc (.cells #[va.ob, .int .i64 x.rows, .int .i64 x.columns, va.ma, va.te, va.st, va.pa, va.zo, va.re, va.ve, va.sh, va.gr, va.wa, va.in_] 36)) := (Below.refl _ _).alloc (Nat.le_refl _) _
  have pa := DBox.new w va x 36
  replace ha := ha.below' hB
  unfold deskA
  go_enter Tryz.func3, Tryz.ntmps3
  have ca0 := pa.c0
  have ca1 := pa.c1
  have ca2 := pa.c2
  have ca3 := pa.c3
  have ca4 := pa.c4
  have ca5 := pa.c5
  have ca6 := pa.c6
  have ca7 := pa.c7
  have ca8 := pa.c8
  have ca9 := pa.c9
  have ca10 := pa.c10
  have ca11 := pa.c11
  have ca12 := pa.c12
  have ca13 := pa.c13
  go_wp2_with fail
  generalize w.alloc (.cells #[va.ob, .int .i64 x.rows, .int .i64 x.columns, va.ma, va.te, va.st, va.pa, va.zo, va.re, va.ve, va.sh, va.gr, va.wa, va.in_] 36) = w0 at *
  refine (szDesk_any x va _ 1048576 _ ha (by omega) (by omega)).mono ?_
  rintro e w1 ⟨r0, rfl, hr0_, hbn⟩
  replace ha := ha.below' hbn
  replace pa := pa.below' hbn
  replace hB := hB.trans (hbn.mono hB.size)
  clear hbn
  clear ca0 ca1 ca2 ca3 ca4 ca5 ca6 ca7 ca8 ca9 ca10 ca11 ca12 ca13
  by_cases hneg : r0 < 0
  · go_wp2
    go_ret
    exact ⟨rfl, hB⟩
  have hr0 : 0 ≤ r0 ∧ r0 + (totDesk x : Nat) = 1048576 := by
    rcases hr0_ with h | h
    · omega
    · exact h
  clear hr0_ hneg
  have ht0 : totDesk x ≤ 1048576 := by omega
  have hr0b : r0 ≤ 1048576 := by omega
  have hr0a : 0 ≤ r0 := hr0.1
  clear hr0
  have ca0 := pa.c0
  have ca1 := pa.c1
  have ca2 := pa.c2
  have ca3 := pa.c3
  have ca4 := pa.c4
  have ca5 := pa.c5
  have ca6 := pa.c6
  have ca7 := pa.c7
  have ca8 := pa.c8
  have ca9 := pa.c9
  have ca10 := pa.c10
  have ca11 := pa.c11
  have ca12 := pa.c12
  have ca13 := pa.c13
  go_wp2_with fail
  refine (toDesk_any x va _ _ ha ht0).mono ?_
  rintro e w4 ⟨v4, F4, he, ⟨hr4, _, _, _, hbn⟩⟩
  unfold deskA at he
  subst he
  replace ha := ha.below' hbn
  replace pa := pa.below' hbn
  replace hB := hB.trans (hbn.mono hB.size)
  clear hbn
  clear ca0 ca1 ca2 ca3 ca4 ca5 ca6 ca7 ca8 ca9 ca10 ca11 ca12 ca13
  have hsh := hr4.shape
  obtain ⟨q0, q1, q2, q3, q4, q5, q6, q7, q8, q9, q10, q11⟩ := v4
  obtain ⟨⟨a4_0, n4_0, k4_0, h0⟩, ⟨a4_1, n4_1, k4_1, h1⟩, ⟨a4_2, n4_2, k4_2, h2⟩, ⟨a4_3, n4_3, k4_3, h3⟩, ⟨a4_4, n4_4, k4_4, h4⟩, ⟨a4_5, n4_5, k4_5, h5⟩, ⟨a4_6, n4_6, k4_6, h6⟩, ⟨a4_7, n4_7, k4_7, h7⟩, ⟨a4_8, n4_8, k4_8, h8⟩, ⟨a4_9, n4_9, k4_9, h9⟩, ⟨a4_10, n4_10, k4_10, h10⟩, ⟨a4_11, n4_11, k4_11, h11⟩⟩ := hsh
  simp only at h0 h1 h2 h3 h4 h5 h6 h7 h8 h9 h10 h11
  subst h0 h1 h2 h3 h4 h5 h6 h7 h8 h9 h10 h11
  go_wp2_with fail
  refine (specValidDesk_any x _ F4 _ hr4).mono ?_
  rintro e w5 ⟨rfl, hbn⟩
  replace ha := ha.below' hbn
  replace pa := pa.below' hbn
  replace hB := hB.trans (hbn.mono hB.size)
  clear hbn
  clear hr4
  have ca0 := pa.c0
  have ca1 := pa.c1
  have ca2 := pa.c2
  have ca3 := pa.c3
  have ca4 := pa.c4
  have ca5 := pa.c5
  have ca6 := pa.c6
  have ca7 := pa.c7
  have ca8 := pa.c8
  have ca9 := pa.c9
  have ca10 := pa.c10
  have ca11 := pa.c11
  have ca12 := pa.c12
  have ca13 := pa.c13
  go_wp2_with fail
  refine (toDesk_any x va _ _ ha ht0).mono ?_
  rintro e w6 ⟨v6, F6, he, ⟨hr6, _, _, _, hbn⟩⟩
  unfold deskA at he
  subst he
  replace ha := ha.below' hbn
  replace pa := pa.below' hbn
  replace hB := hB.trans (hbn.mono hB.size)
  clear hbn
  clear ca0 ca1 ca2 ca3 ca4 ca5 ca6 ca7 ca8 ca9 ca10 ca11 ca12 ca13
  have hsh := hr6.shape
  obtain ⟨q0, q1, q2, q3, q4, q5, q6, q7, q8, q9, q10, q11⟩ := v6
  obtain ⟨⟨a6_0, n6_0, k6_0, h0⟩, ⟨a6_1, n6_1, k6_1, h1⟩, ⟨a6_2, n6_2, k6_2, h2⟩, ⟨a6_3, n6_3, k6_3, h3⟩, ⟨a6_4, n6_4, k6_4, h4⟩, ⟨a6_5, n6_5, k6_5, h5⟩, ⟨a6_6, n6_6, k6_6, h6⟩, ⟨a6_7, n6_7, k6_7, h7⟩, ⟨a6_8, n6_8, k6_8, h8⟩, ⟨a6_9, n6_9, k6_9, h9⟩, ⟨a6_10, n6_10, k6_10, h10⟩, ⟨a6_11, n6_11, k6_11, h11⟩⟩ := hsh
  simp only at h0 h1 h2 h3 h4 h5 h6 h7 h8 h9 h10 h11
  subst h0 h1 h2 h3 h4 h5 h6 h7 h8 h9 h10 h11
  have p6 := DBox.new w6 ⟨.slice a6_0 n6_0 k6_0, .slice a6_1 n6_1 k6_1, .slice a6_2 n6_2 k6_2, .slice a6_3 n6_3 k6_3, .slice a6_4 n6_4 k6_4, .slice a6_5 n6_5 k6_5, .slice a6_6 n6_6 k6_6, .slice a6_7 n6_7 k6_7, .slice a6_8 n6_8 k6_8, .slice a6_9 n6_9 k6_9, .slice a6_10 n6_10 k6_10, .slice a6_11 n6_11 k6_11⟩ x 51
  have hbn := (Below.refl w6.heap.size w6).alloc (Nat.le_refl _) (.cells #[.slice a6_0 n6_0 k6_0, .int .i64 x.rows, .int .i64 x.columns, .slice a6_1 n6_1 k6_1, .slice a6_2 n6_2 k6_2, .slice a6_3 n6_3 k6_3, .slice a6_4 n6_4 k6_4, .slice a6_5 n6_5 k6_5, .slice a6_6 n6_6 k6_6, .slice a6_7 n6_7 k6_7, .slice a6_8 n6_8 k6_8, .slice a6_9 n6_9 k6_9, .slice a6_10 n6_10 k6_10, .slice a6_11 n6_11 k6_11] 51)
  replace ha := ha.below' hbn
  replace pa := pa.below' hbn
  replace hr6 := hr6.below' hbn
  replace hB := hB.trans (hbn.mono hB.size)
  clear hbn
  have c60 := p6.c0
  have c61 := p6.c1
  have c62 := p6.c2
  have c63 := p6.c3
  have c64 := p6.c4
  have c65 := p6.c5
  have c66 := p6.c6
  have c67 := p6.c7
  have c68 := p6.c8
  have c69 := p6.c9
  have c610 := p6.c10
  have c611 := p6.c11
  have c612 := p6.c12
  have c613 := p6.c13
  go_wp2_with fail
  generalize w6.alloc (.cells #[.slice a6_0 n6_0 k6_0, .int .i64 x.rows, .int .i64 x.columns, .slice a6_1 n6_1 k6_1, .slice a6_2 n6_2 k6_2, .slice a6_3 n6_3 k6_3, .slice a6_4 n6_4 k6_4, .slice a6_5 n6_5 k6_5, .slice a6_6 n6_6 k6_6, .slice a6_7 n6_7 k6_7, .slice a6_8 n6_8 k6_8, .slice a6_9 n6_9 k6_9, .slice a6_10 n6_10 k6_10, .slice a6_11 n6_11 k6_11] 51) = w7 at *
  generalize w6.heap.size = g6 at p6 c60 c61 c62 c63 c64 c65 c66 c67 c68 c69 c610 c611 c612 c613 ⊢
  refine (implValidDesk_any x _ F6 _ hr6).mono ?_
  rintro e w8 ⟨rfl, hbn⟩
  replace ha := ha.below' hbn
  replace pa := pa.below' hbn
  replace hr6 := hr6.below' hbn
  replace p6 := p6.below' hbn
  replace hB := hB.trans (hbn.mono hB.size)
  clear hbn
  clear c60 c61 c62 c63 c64 c65 c66 c67 c68 c69 c610 c611 c612 c613
  have e8 : (deskB x != deskB x) = false := by simp
  have c60 := p6.c0
  have c61 := p6.c1
  have c62 := p6.c2
  have c63 := p6.c3
  have c64 := p6.c4
  have c65 := p6.c5
  have c66 := p6.c6
  have c67 := p6.c7
  have c68 := p6.c8
  have c69 := p6.c9
  have c610 := p6.c10
  have c611 := p6.c11
  have c612 := p6.c12
  have c613 := p6.c13
  have ca0 := pa.c0
  have ca1 := pa.c1
  have ca2 := pa.c2
  have ca3 := pa.c3
  have ca4 := pa.c4
  have ca5 := pa.c5
  have ca6 := pa.c6
  have ca7 := pa.c7
  have ca8 := pa.c8
  have ca9 := pa.c9
  have ca10 := pa.c10
  have ca11 := pa.c11
  have ca12 := pa.c12
  have ca13 := pa.c13
  go_wp2
  have gc60 := cell_regrown c60
  have gc61 := cell_regrown c61
  have gc62 := cell_regrown c62
  have gc63 := cell_regrown c63
  have gc64 := cell_regrown c64
  have gc65 := cell_regrown c65
  have gc66 := cell_regrown c66
  have gc67 := cell_regrown c67
  have gc68 := cell_regrown c68
  have gc69 := cell_regrown c69
  have gc610 := cell_regrown c610
  have gc611 := cell_regrown c611
  have gc612 := cell_regrown c612
  have gc613 := cell_regrown c613
  have gca0 := cell_regrown ca0
  have gca1 := cell_regrown ca1
  have gca2 := cell_regrown ca2
  have gca3 := cell_regrown ca3
  have gca4 := cell_regrown ca4
  have gca5 := cell_regrown ca5
  have gca6 := cell_regrown ca6
  have gca7 := cell_regrown ca7
  have gca8 := cell_regrown ca8
  have gca9 := cell_regrown ca9
  have gca10 := cell_regrown ca10
  have gca11 := cell_regrown ca11
  have gca12 := cell_regrown ca12
  have gca13 := cell_regrown ca13
  refine wp_region_mix (C := fun w' => ∃ p : Regrown, w' = Go.Sort.grow (redrawn w8 p.d) p.os) [true, true, false, false, true] (by kernel_rfl) (by kernel_rfl) (by kernel_rfl) (fun _ _ d _ _ h => by cases d <;> exact h) (regrown_of_below (Below.drew (Below.refl _ _))) ?_
  have hS0 : Below (w8.heap.size) w8 w8.drew := Below.drew (Below.refl _ _)
  refine wpMix_pure (by kernel_rfl) (fun K hK => ?_)
  go_big_quiet_op
  refine hK _ ?_; clear hK K
  refine wpMix_pure (by kernel_rfl) (fun K hK => ?_)
  go_big_quiet_op
  refine hK _ ?_; clear hK K
  refine wpMix_act (by kernel_rfl) (fun K hK => ?_)
  go_big_op
  refine (toDesk_any x va _ w8.drew (ha.below' hS0) ht0).mono ?_
  rintro e wr1 ⟨v9, F9, rfl, ⟨hr9, _, _, _, hbr1⟩⟩
  have hbr1S : Below (w8.heap.size) w8 wr1 := hS0.trans (hbr1.mono hS0.size)
  refine hK _ _ (regrown_of_below hbr1S) ?_
  clear hK K
  refine wpMix_act (by kernel_rfl) (fun K hK => ?_)
  go_big_op
  refine (eqDesk_any x _ v9 F6 F9 wr1 (hr6.below' hbr1S) hr9).mono ?_
  rintro e wr2 ⟨rfl, hbr2⟩
  have hbr2S : Below (w8.heap.size) w8 wr2 := hbr1S.trans (hbr2.mono hbr1S.size)
  refine hK _ _ (regrown_of_below hbr2S) ?_
  clear hK K
  refine wpMix_pure (by kernel_rfl) (fun K hK => ?_)
  go_big_quiet_op
  refine hK _ ?_; clear hK K
  refine wpMix_nil ?_
  replace ha := ha.below' hbr2S
  replace pa := pa.below' hbr2S
  replace hr6 := hr6.below' hbr2S
  replace p6 := p6.below' hbr2S
  replace hB := hB.trans (hbr2S.mono hB.size)
  clear gc60 gca0 c60 ca0 gc61 gca1 c61 ca1 gc62 gca2 c62 ca2 gc63 gca3 c63 ca3 gc64 gca4 c64 ca4 gc65 gca5 c65 ca5 gc66 gca6 c66 ca6 gc67 gca7 c67 ca7 gc68 gca8 c68 ca8 gc69 gca9 c69 ca9 gc610 gca10 c610 ca10 gc611 gca11 c611 ca11 gc612 gca12 c612 ca12 gc613 gca13 c613 ca13 hbr1 hbr2 hbr1S hbr2S hS0 hr9
  generalize wr2 = w9 at *
  go_wp2
  go_ret
  exact ⟨rfl, hB⟩
end Go.Proofs.YtgbgibobokchmaaGreat

namespace Go.Proofs.YtgbgibobokchmaaGreat
open Go.RowKit Go.WideShapes Go.ChangeShapes Go.ChangeAt

theorem Tryz.own : ownKnob Tryz.prog.godebug = none := by kernel_rfl
theorem Tryz.laidOut : laidOutB Tryz.prog = true := by kernel_rfl

section
variable {H : Type} {enc : TypeId × Value → H} {P : Program}
theorem post_of_below {f : Func} {s : ChangeSpec} {apart fresh handsOn again : Bool} {W W' : World} {args : Array Value} {v : Value} {ds gs : List (DataW H)} {before pa pv : List MemPlace}
    (hW : DataW.Whole enc P f.params.toList s.vars apart W args.toList ds gs before)
    (hres : ∀ (b : Nat) (sp : Nat → Bool) (hd : Bool), DataW.TrodAll enc P W' b sp hd f.resultTypes.toList (v.resultList f.resultTypes.size) (s.fn H (ds ++ gs)).results [])
    (hargs : ∀ sp : Nat → Bool, (∀ p ∈ before, sp p.block = true) → DataW.TrodAll enc P W' 0 sp true f.params.toList args.toList (s.fn H (ds ++ gs)).args pa)
    (hvars : ∀ sp : Nat → Bool, (∀ p ∈ before, sp p.block = true) → DataW.TrodVars enc P W' sp s.vars (s.fn H (ds ++ gs)).vars pv)
    (hps : before = pa ++ pv) (hb : Below W.heap.size W W')
    (hok : ∀ (j : Nat) (t : TypeId) (r : Value), f.resultTypes[j]? = some t → (v.resultList f.resultTypes.size)[j]? = some r → Value.okWide P W' .any 0 t r) :
    s.post enc P f apart fresh handsOn again W args v W' := by
  have hlt : ∀ p ∈ before, p.block < W.heap.size := fun p hp => hW.lt p hp
  have hold : ∀ p ∈ before, (fun b => decide (b < W.heap.size)) p.block = true := fun p hp => by simpa using hlt p hp
  refine ⟨ds, gs, before, [], pa, pv, hW, hres _ _ _, hargs _ hold, hvars _ hold, World.keptBut_mono (fun p hp => ⟨hp, ?_⟩) (hb.frame (· ∈ before)), fun _ => ?_⟩
  · rw [hps, List.mem_append] at hp
    exact Or.inr hp
  · obtain ⟨_, _, _, _, _, hz, hn⟩ := hW
    refine ⟨hok, _, _, ([] ++ pa) ++ pv, ⟨[] ++ pa, pv, trodAll_append (hargs _ (fun _ _ => rfl)) (hres _ _ _), hvars _ (fun _ _ => rfl), rfl, ?_, ?_⟩, ?_⟩
    · intro b off hp
      have hin : MemPlace.cell b off ∈ before := by rw [hps]; simpa using hp
      rw [hb.frozen (hlt _ hin)]
      exact hz b off hin
    · intro ha
      have := hn ha
      rw [hps] at this
      simpa using this
    · intro p hp _
      rw [hps]
      simpa using hp
end

theorem trodAll_below {H : Type} {enc : TypeId × Value → H} {P : Program} (hl : laidOutB P = true) {W W' : World} (hb : Below W.heap.size W W') {sp : Nat → Bool} :
    ∀ (ts : List TypeId) (vs : List Value) (ds : List (DataW H)) (ps : List MemPlace), (∀ t ∈ ts, P.readableRec t = true ∧ t < P.types.size) → DataW.TrodAll enc P W 0 (fun _ => true) true ts vs ds ps → (∀ x ∈ ps, x.block < W.heap.size) → (∀ x ∈ ps, sp x.block = true) → DataW.TrodAll enc P W' 0 sp true ts vs ds ps
  | [], [], [], ps, _, h, _, _ => h
  | t :: ts, v :: vs, d :: ds, ps, hr, h, hlt, hsp => by
    obtain ⟨p, q, h1, h2, rfl⟩ := h
    obtain ⟨r1, r2⟩ := hr t (by simp)
    exact ⟨p, q, WideElems.Trod_stays hl r1 r2 h1 (fun x hx => hb.same (hlt x (by simp [hx]))) (fun x hx => hsp x (by simp [hx])), trodAll_below hl hb ts vs ds q (fun t ht => hr t (by simp [ht])) h2 (fun x hx => hlt x (by simp [hx])) (fun x hx => hsp x (by simp [hx])), rfl⟩
  | [], _ :: _, _, _, _, h, _, _ => by cases h
  | [], [], _ :: _, _, _, h, _, _ => by cases h
  | _ :: _, [], _, _, _, h, _, _ => by cases h
  | _ :: _, _ :: _, [], _, _, h, _, _ => by cases h

theorem trodAll_len {H : Type} {enc : TypeId × Value → H} {P : Program} {W : World} {b : Nat} {sp : Nat → Bool} {hd : Bool} : ∀ (ts : List TypeId) (vs : List Value) (ds : List (DataW H)) (ps : List MemPlace), DataW.TrodAll enc P W b sp hd ts vs ds ps → ds.length = ts.length
  | [], [], [], _, _ => rfl
  | _ :: ts, _ :: vs, _ :: ds, _, h => by obtain ⟨p, q, h1, h2, rfl⟩ := h; simp [trodAll_len ts vs ds q h2]
  | [], _ :: _, _, _, h => by cases h
  | [], [], _ :: _, _, h => by cases h
  | _ :: _, [], _, _, h => by cases h
  | _ :: _, _ :: _, [], _, h => by cases h

set_option maxRecDepth 100000 in
theorem law_lifted {F : FuncId} {fn : Func} {s : ChangeSpec} (os : Os) (started : os.Started) (H : Type) (enc : TypeId × Value → H)
    (hfn : Tryz.checked.prog.funcs[F]? = some fn) (noInit : Tryz.checked.prog.inits.idxOf? F = none)
    (witness : ∃ (w : World) (tape : Tape) (i : Input), w.os = os ∧ (w.forCall tape i).Shaped Tryz.checked.prog ∧ i.vars = [] ∧ Input.okWide Tryz.checked.prog (w.forCall tape i) .any w.heap.size F i ∧
      s.pre6 enc Tryz.checked.prog fn [] false (w.forCall tape i).memory i.args ∧ ({} : Assume).holds Tryz.checked.prog (lone (Frame.enter Tryz.checked.prog F i.args .normal) [] (w.forCall tape i)))
    (hs : s.vars = []) (hres : fn.resultTypes = #[4]) (hread : ∀ t ∈ fn.params.toList, Tryz.prog.readableRec t = true ∧ t < Tryz.prog.types.size)
    (hspec : ∀ ds : List (DataW H), ds.length = fn.params.toList.length → s.fn H ds = { results := [.lit (.bool true)], args := ds })
    (walk : ∀ (W : World) (args : Array Value) (ds : List (DataW H)) (p : List MemPlace), (∀ (j : Nat) t v, fn.params[j]? = some t → args[j]? = some v → ∃ base, Value.okWide Tryz.prog W .any base t v) →
      DataW.TrodAll enc Tryz.prog W 0 (fun _ => true) true fn.params.toList args.toList ds p → W.noneFrozen p → Calls Tryz.prog F args W fun e W' => e = .returned (.bool true) ∧ Below W.heap.size W W') :
    ReturnsInHanded {} Tryz.checked os F .any (s.pre6 enc Tryz.checked.prog fn [] false) (s.post enc Tryz.checked.prog fn false true false false) := by
  refine returnsInHanded_of_change (C := Tryz.checked) Tryz.own started noInit hfn witness ?_
  intro W base args ds gs before hval hW hcnd _
  have hW' := hW
  obtain ⟨p, q, hA, hV, hpq, hfz, hnd⟩ := hW
  rw [hs] at hV
  obtain ⟨rfl, rfl⟩ := trodVars_none hV
  rw [List.append_nil] at hpq
  subst hpq
  refine (walk W args ds _ (fun j t v h1 h2 => ⟨base, hval j t v h1 h2⟩) hA hfz).mono fun e W' ⟨he, hb⟩ => ?_
  subst he
  have hsp : s.fn H (ds ++ []) = { results := [.lit (.bool true)], args := ds } := by
    rw [List.append_nil]; exact hspec ds (trodAll_len _ _ _ _ hA)
  have hlt := fun x hx => hW'.lt x hx
  refine ⟨_, rfl, post_of_below (pa := before) (pv := []) hW' (fun b sp hd => ?_) (fun sp h => ?_) (fun sp h => ?_) (by simp) hb ?_⟩
  · rw [hsp, hres]; exact trodAll_mk1 (shut_bool Tryz.underlying4 _)
  · rw [hsp]; exact trodAll_below Tryz.laidOut hb _ _ _ _ hread hA hlt h
  · rw [hsp, hs]; rfl
  · rw [hres]; exact fun j t r h1 h2 => ok_one (f := fn) hres rfl (okWide_bool_mk Tryz.underlying4 _) j t r (by rw [hres]; exact h1) (by rw [hres]; exact h2)

end Go.Proofs.YtgbgibobokchmaaGreat

namespace Go.Proofs.YtgbgibobokchmaaGreat
open Go.RowKit Go.WideShapes Go.ChangeShapes Go.ChangeAt Go.Deep

/-- Whatever the form's reader reads at type t reads by E. -/
def Opens {α : Type} (t : TypeId) (E : Cod α) : Prop :=
  ∀ {H : Type} {enc : TypeId × Value → H} {w : World} {n : Nat} {cs : List Value} {x : DataW H × List MemPlace},
    DataW.trod enc Tryz.prog w 0 (fun _ => true) true n t cs = some x → w.noneFrozen x.2 → ∃ y fp, E.rd w cs y fp

theorem opens_int {t : TypeId} (ht : Tryz.prog.underlying t = some (.int .i64)) : Opens t fInt.cod := by
  intro H enc w n cs x h _
  obtain ⟨k, rfl, rfl, wk⟩ := DataW.trod_int ht h
  refine ⟨k, [], rfl, ?_, rfl⟩
  exact bounds_i64 wk
theorem opens_str {t : TypeId} (ht : Tryz.prog.underlying t = some .string) : Opens t fStr.cod := by
  intro H enc w n cs x h _
  obtain ⟨s, rfl, rfl, hs⟩ := DataW.trod_string ht h
  exact ⟨s, [], rfl, by unfold maxLen at hs; exact hs, rfl⟩
theorem opens_bool {t : TypeId} (ht : Tryz.prog.underlying t = some .bool) : Opens t fBool.cod := by
  intro H enc w n cs x h _
  obtain ⟨s, rfl, rfl⟩ := DataW.trod_bool ht h
  exact ⟨s, [], rfl, trivial, rfl⟩

theorem add_none (b off x y : Nat) : ((⟨b, off, none⟩ : Addr).add x).add y = ⟨b, off + x + y, none⟩ := by
  unfold Addr.add
  by_cases hx : x = 0 <;> by_cases hy : y = 0 <;> simp [hx, hy]

theorem opens_slice {α : Type} {E : Cod α} {t e : TypeId} (ht : Tryz.prog.underlying t = some (.slice e)) (hn : Tryz.prog.cellsOf e = E.n) (he : Opens e E) : Opens t E.slice := by
  intro H enc w n cs x h hfz
  rcases open_slice ht h with ⟨rfl, rfl⟩ | ⟨a, len, cap, m, n', D, Pl, rfl, hb, hl, hm, hmm, hx, hi⟩
  · exact ⟨[], [], _, rfl, none, 0, rfl, by simp, by simp [maxLen], .inl ⟨rfl, rfl⟩⟩
  · simp only [if_true] at hmm
    subst hmm
    rcases Nat.eq_zero_or_pos len with h0 | h0
    · subst h0
      exact ⟨[], [], _, rfl, some a, m, rfl, by simp, hm, .inl ⟨rfl, rfl⟩⟩
    · rw [hn] at hi
      have hspot : a = ⟨a.block, a.off, none⟩ := by
        obtain ⟨cs', hc, _⟩ := hi 0 (by omega)
        obtain ⟨_, hcl, hat⟩ := World.cells?_some hc
        have h1 := hat 0 E.pos
        have hps := E.pos
        rw [List.getElem?_eq_getElem (by omega)] at h1
        have h2 : w.cell? a = some cs'[0] := by simpa [Addr.add] using h1
        have := World.cell?_spot h2
        cases a; simp_all
      have hel : ∀ i : Fin len, ∃ p : α × List Nat × List Value, (∀ j, j < E.n → w.cell? ⟨a.block, a.off + i.1 * E.n + j, none⟩ = p.2.2[j]?) ∧ (∀ j, j < E.n → w.frozen? ⟨a.block, a.off + i.1 * E.n + j, none⟩ = false) ∧ E.rd w p.2.2 p.1 p.2.1 := by
        intro ⟨i, hil⟩
        obtain ⟨cs', hc, htr⟩ := hi i (by omega)
        obtain ⟨_, hcl, hat⟩ := World.cells?_some hc
        have hsub : ∀ pl ∈ Pl i, pl ∈ x.2 := by
          intro pl hpl
          rw [hx]
          exact List.mem_append_right _ (List.mem_flatMap.2 ⟨i, by simp; omega, hpl⟩)
        obtain ⟨y, fp, hy⟩ := he htr (fun b off hmem => hfz b off (hsub _ hmem))
        refine ⟨⟨y, fp, cs'⟩, fun j hj => ?_, fun j hj => ?_, hy⟩
        · have := hat j hj
          rw [hspot, add_none] at this
          exact this
        · refine hfz _ _ ?_
          rw [hx]
          refine List.mem_append_left _ ?_
          unfold MemPlace.row
          refine List.mem_map.2 ⟨i * E.n + j, ?_, by rw [Nat.add_assoc]⟩
          rw [List.mem_range, hn]
          have : (i + 1) * E.n ≤ m * E.n := Nat.mul_le_mul_right _ (by omega)
          rw [Nat.succ_mul] at this
          omega
      obtain ⟨f, hf⟩ := Classical.axiomOfChoice hel
      have hblk : a.block < w.heap.size := by
        obtain ⟨h1, _, h3⟩ := hf ⟨0, h0⟩
        have h1 := h1 0 E.pos
        have h4 := E.len h3
        have hps := E.pos
        rw [List.getElem?_eq_getElem (by omega)] at h1
        exact block_lt_of_cell (a := ⟨a.block, _, none⟩) h1
      refine ⟨List.ofFn fun i => (f i).1, a.block :: (List.range len).flatMap fun i => if h : i < len then (f ⟨i, h⟩).2.1 else [], _, rfl, some a, m, by simp, by simpa using hl, hm,
        .inr ⟨a.block, a.off, _, by rw [← hspot], hblk, by rw [List.length_ofFn], fun i hil => ?_⟩⟩
      rw [List.length_ofFn] at hil
      obtain ⟨h1, h2, h3⟩ := hf ⟨i, hil⟩
      refine ⟨(f ⟨i, hil⟩).2.2, h1, h2, ?_⟩
      simpa [hil] using h3

/-- A struct of fields of one cell each. -/
theorem opens_fields {t : TypeId} {fs : Array Field} (ht : Tryz.prog.underlying t = some (.struct fs)) (hone : oneCellFields Tryz.prog fs = true) (hC : Tryz.prog.cellsOf t = fs.size)
    {H : Type} {enc : TypeId × Value → H} {w : World} {n : Nat} {cs : List Value} {x : DataW H × List MemPlace} (h : DataW.trod enc Tryz.prog w 0 (fun _ => true) true n t cs = some x) (hfz : w.noneFrozen x.2) :
    cs.length = fs.size ∧ ∀ (j : Nat) (f : Field), fs[j]? = some f → ∃ (v : Value) (m : Nat) (y : DataW H × List MemPlace), cs[j]? = some v ∧ DataW.trod enc Tryz.prog w 0 (fun _ => true) true m f.type [v] = some y ∧ w.noneFrozen y.2 := by
  obtain ⟨xs, n', rfl, hx, hl, hxl, hf⟩ := DataW.trod_struct ht h
  refine ⟨hl.trans hC, fun j f hj => ?_⟩
  have hjl : j < fs.size := (Array.getElem?_eq_some_iff.1 hj).1
  obtain ⟨ho, hk⟩ := hone_of hone j f hj
  have h1 := hf j f hj
  rw [ho, hk] at h1
  have hcl : j < cs.length := by rw [hl, hC]; exact hjl
  have e1 : (cs.drop j).take 1 = [cs[j]] := by
    rw [List.drop_eq_getElem_cons hcl]; rfl
  rw [e1, List.getElem?_eq_getElem (by omega)] at h1
  refine ⟨cs[j], n', xs[j], List.getElem?_eq_getElem hcl, h1, fun b off hm => hfz b off ?_⟩
  rw [hx]
  exact List.mem_flatMap.2 ⟨xs[j], List.getElem_mem _, hm⟩

/-- An argument that came in: its value reads. -/
theorem Opens.arg {α : Type} {t : TypeId} {E : Cod α} (ho : Opens t E) {H : Type} {enc : TypeId × Value → H} {w : World} {v : Value} {d : DataW H} {ps : List MemPlace}
    (h : DataW.Trod enc Tryz.prog w 0 (fun _ => true) true t v d ps) (hfz : w.noneFrozen ps) : ∃ y fp, E.rd w v.cells.toList y fp := by
  obtain ⟨n, hn⟩ := h
  exact ho hn hfz
theorem Opens.sl {α : Type} {t : TypeId} {E : Cod α} (ho : Opens t E.slice) {H : Type} {enc : TypeId × Value → H} {w : World} {v : Value} {d : DataW H} {ps : List MemPlace}
    (h : DataW.Trod enc Tryz.prog w 0 (fun _ => true) true t v d ps) (hfz : w.noneFrozen ps) {A : Option Addr} {len cap : Nat} (hv : v = .slice A len cap) : ∃ y fp, Sl E w v y fp := by
  obtain ⟨y, fp, u, hu, hs⟩ := ho.arg h hfz
  subst hv
  simp [Value.cells] at hu
  subst hu
  exact ⟨y, fp, hs⟩

end Go.Proofs.YtgbgibobokchmaaGreat

namespace Go.Proofs.YtgbgibobokchmaaGreat
open Go.RowKit
theorem opensObserved : Opens 129 fObserved.cod := by
  intro H enc w m cs x h hfz
  obtain ⟨hl, hf⟩ := opens_fields Tryz.underlying129 (by kernel_rfl) (by kernel_rfl) h hfz
  obtain ⟨v0, m0, y0, c0, t0, z0⟩ := hf 0 _ rfl
  obtain ⟨a0, _, e0, ok0, _⟩ := opens_int Tryz.underlying2 t0 z0
  obtain rfl : v0 = _ := by injection e0
  obtain ⟨v1, m1, y1, c1, t1, z1⟩ := hf 1 _ rfl
  obtain ⟨a1, _, e1, ok1, _⟩ := opens_int Tryz.underlying2 t1 z1
  obtain rfl : v1 = _ := by injection e1
  obtain ⟨v2, m2, y2, c2, t2, z2⟩ := hf 2 _ rfl
  obtain ⟨a2, _, e2, ok2, _⟩ := opens_int Tryz.underlying2 t2 z2
  obtain rfl : v2 = _ := by injection e2
  obtain ⟨v3, m3, y3, c3, t3, z3⟩ := hf 3 _ rfl
  obtain ⟨a3, _, e3, ok3, _⟩ := opens_int Tryz.underlying2 t3 z3
  obtain rfl : v3 = _ := by injection e3
  have hl' : cs.length = 4 := hl
  match cs, hl' with
  | [u0, u1, u2, u3], _ =>
    obtain rfl : u0 = _ := by simpa using c0
    obtain rfl : u1 = _ := by simpa using c1
    obtain rfl : u2 = _ := by simpa using c2
    obtain rfl : u3 = _ := by simpa using c3
    exact ⟨⟨a0, a1, a2, a3⟩, [], rfl, ⟨ok0, ok1, ok2, ok3⟩, rfl⟩
end Go.Proofs.YtgbgibobokchmaaGreat

namespace Go.Proofs.YtgbgibobokchmaaGreat
open Go.RowKit
theorem opensTest : Opens 133 fTest.cod := by
  intro H enc w m cs x h hfz
  obtain ⟨hl, hf⟩ := opens_fields Tryz.underlying133 (by kernel_rfl) (by kernel_rfl) h hfz
  obtain ⟨v0, m0, y0, c0, t0, z0⟩ := hf 0 _ rfl
  obtain ⟨a0, _, e0, ok0, _⟩ := opens_int Tryz.underlying2 t0 z0
  obtain rfl : v0 = _ := by injection e0
  obtain ⟨v1, m1, y1, c1, t1, z1⟩ := hf 1 _ rfl
  obtain ⟨a1, _, e1, ok1, _⟩ := opens_int Tryz.underlying2 t1 z1
  obtain rfl : v1 = _ := by injection e1
  obtain ⟨v2, m2, y2, c2, t2, z2⟩ := hf 2 _ rfl
  obtain ⟨a2, _, e2, ok2, _⟩ := opens_int Tryz.underlying2 t2 z2
  obtain rfl : v2 = _ := by injection e2
  obtain ⟨v3, m3, y3, c3, t3, z3⟩ := hf 3 _ rfl
  obtain ⟨a3, _, e3, ok3, _⟩ := opens_int Tryz.underlying2 t3 z3
  obtain rfl : v3 = _ := by injection e3
  obtain ⟨v4, m4, y4, c4, t4, z4⟩ := hf 4 _ rfl
  obtain ⟨a4, _, e4, ok4, _⟩ := opens_int Tryz.underlying2 t4 z4
  obtain rfl : v4 = _ := by injection e4
  have hl' : cs.length = 5 := hl
  match cs, hl' with
  | [u0, u1, u2, u3, u4], _ =>
    obtain rfl : u0 = _ := by simpa using c0
    obtain rfl : u1 = _ := by simpa using c1
    obtain rfl : u2 = _ := by simpa using c2
    obtain rfl : u3 = _ := by simpa using c3
    obtain rfl : u4 = _ := by simpa using c4
    exact ⟨⟨a0, a1, a2, a3, a4⟩, [], rfl, ⟨ok0, ok1, ok2, ok3, ok4⟩, rfl⟩
end Go.Proofs.YtgbgibobokchmaaGreat

namespace Go.Proofs.YtgbgibobokchmaaGreat
open Go.RowKit
theorem opensStand : Opens 107 fStand.cod := by
  intro H enc w m cs x h hfz
  obtain ⟨hl, hf⟩ := opens_fields Tryz.underlying107 (by kernel_rfl) (by kernel_rfl) h hfz
  obtain ⟨v0, m0, y0, c0, t0, z0⟩ := hf 0 _ rfl
  obtain ⟨a0, _, e0, ok0, _⟩ := opens_str Tryz.underlying9 t0 z0
  obtain rfl : v0 = _ := by injection e0
  obtain ⟨v1, m1, y1, c1, t1, z1⟩ := hf 1 _ rfl
  obtain ⟨a1, _, e1, ok1, _⟩ := opens_int Tryz.underlying2 t1 z1
  obtain rfl : v1 = _ := by injection e1
  obtain ⟨v2, m2, y2, c2, t2, z2⟩ := hf 2 _ rfl
  obtain ⟨a2, _, e2, ok2, _⟩ := opens_int Tryz.underlying2 t2 z2
  obtain rfl : v2 = _ := by injection e2
  obtain ⟨v3, m3, y3, c3, t3, z3⟩ := hf 3 _ rfl
  obtain ⟨a3, _, e3, ok3, _⟩ := opens_int Tryz.underlying2 t3 z3
  obtain rfl : v3 = _ := by injection e3
  obtain ⟨v4, m4, y4, c4, t4, z4⟩ := hf 4 _ rfl
  obtain ⟨a4, _, e4, ok4, _⟩ := opens_int Tryz.underlying2 t4 z4
  obtain rfl : v4 = _ := by injection e4
  have hl' : cs.length = 5 := hl
  match cs, hl' with
  | [u0, u1, u2, u3, u4], _ =>
    obtain rfl : u0 = _ := by simpa using c0
    obtain rfl : u1 = _ := by simpa using c1
    obtain rfl : u2 = _ := by simpa using c2
    obtain rfl : u3 = _ := by simpa using c3
    obtain rfl : u4 = _ := by simpa using c4
    exact ⟨⟨a0, a1, a2, a3, a4⟩, [], rfl, ⟨ok0, ok1, ok2, ok3, ok4⟩, rfl⟩
end Go.Proofs.YtgbgibobokchmaaGreat

namespace Go.Proofs.YtgbgibobokchmaaGreat
open Go.RowKit
theorem opensPathPoint : Opens 139 fPathPoint.cod := by
  intro H enc w m cs x h hfz
  obtain ⟨hl, hf⟩ := opens_fields Tryz.underlying139 (by kernel_rfl) (by kernel_rfl) h hfz
  obtain ⟨v0, m0, y0, c0, t0, z0⟩ := hf 0 _ rfl
  obtain ⟨a0, _, e0, ok0, _⟩ := opens_int Tryz.underlying2 t0 z0
  obtain rfl : v0 = _ := by injection e0
  obtain ⟨v1, m1, y1, c1, t1, z1⟩ := hf 1 _ rfl
  obtain ⟨a1, _, e1, ok1, _⟩ := opens_int Tryz.underlying2 t1 z1
  obtain rfl : v1 = _ := by injection e1
  have hl' : cs.length = 2 := hl
  match cs, hl' with
  | [u0, u1], _ =>
    obtain rfl : u0 = _ := by simpa using c0
    obtain rfl : u1 = _ := by simpa using c1
    exact ⟨⟨a0, a1⟩, [], rfl, ⟨ok0, ok1⟩, rfl⟩
end Go.Proofs.YtgbgibobokchmaaGreat

namespace Go.Proofs.YtgbgibobokchmaaGreat
open Go.RowKit
theorem opensVerified : Opens 145 fVerified.cod := by
  intro H enc w m cs x h hfz
  obtain ⟨hl, hf⟩ := opens_fields Tryz.underlying145 (by kernel_rfl) (by kernel_rfl) h hfz
  obtain ⟨v0, m0, y0, c0, t0, z0⟩ := hf 0 _ rfl
  obtain ⟨a0, _, e0, ok0, _⟩ := opens_int Tryz.underlying2 t0 z0
  obtain rfl : v0 = _ := by injection e0
  obtain ⟨v1, m1, y1, c1, t1, z1⟩ := hf 1 _ rfl
  obtain ⟨a1, _, e1, ok1, _⟩ := opens_int Tryz.underlying2 t1 z1
  obtain rfl : v1 = _ := by injection e1
  obtain ⟨v2, m2, y2, c2, t2, z2⟩ := hf 2 _ rfl
  obtain ⟨a2, _, e2, ok2, _⟩ := opens_int Tryz.underlying2 t2 z2
  obtain rfl : v2 = _ := by injection e2
  have hl' : cs.length = 3 := hl
  match cs, hl' with
  | [u0, u1, u2], _ =>
    obtain rfl : u0 = _ := by simpa using c0
    obtain rfl : u1 = _ := by simpa using c1
    obtain rfl : u2 = _ := by simpa using c2
    exact ⟨⟨a0, a1, a2⟩, [], rfl, ⟨ok0, ok1, ok2⟩, rfl⟩
end Go.Proofs.YtgbgibobokchmaaGreat

namespace Go.Proofs.YtgbgibobokchmaaGreat
open Go.RowKit
theorem opensShot : Opens 114 fShot.cod := by
  intro H enc w m cs x h hfz
  obtain ⟨hl, hf⟩ := opens_fields Tryz.underlying114 (by kernel_rfl) (by kernel_rfl) h hfz
  obtain ⟨v0, m0, y0, c0, t0, z0⟩ := hf 0 _ rfl
  obtain ⟨a0, _, e0, ok0, _⟩ := opens_str Tryz.underlying9 t0 z0
  obtain rfl : v0 = _ := by injection e0
  obtain ⟨v1, m1, y1, c1, t1, z1⟩ := hf 1 _ rfl
  obtain ⟨a1, _, e1, ok1, _⟩ := opens_int Tryz.underlying2 t1 z1
  obtain rfl : v1 = _ := by injection e1
  obtain ⟨v2, m2, y2, c2, t2, z2⟩ := hf 2 _ rfl
  obtain ⟨a2, _, e2, ok2, _⟩ := opens_int Tryz.underlying2 t2 z2
  obtain rfl : v2 = _ := by injection e2
  obtain ⟨v3, m3, y3, c3, t3, z3⟩ := hf 3 _ rfl
  obtain ⟨a3, _, e3, ok3, _⟩ := opens_int Tryz.underlying2 t3 z3
  obtain rfl : v3 = _ := by injection e3
  obtain ⟨v4, m4, y4, c4, t4, z4⟩ := hf 4 _ rfl
  obtain ⟨a4, _, e4, ok4, _⟩ := opens_int Tryz.underlying2 t4 z4
  obtain rfl : v4 = _ := by injection e4
  have hl' : cs.length = 5 := hl
  match cs, hl' with
  | [u0, u1, u2, u3, u4], _ =>
    obtain rfl : u0 = _ := by simpa using c0
    obtain rfl : u1 = _ := by simpa using c1
    obtain rfl : u2 = _ := by simpa using c2
    obtain rfl : u3 = _ := by simpa using c3
    obtain rfl : u4 = _ := by simpa using c4
    exact ⟨⟨a0, a1, a2, a3, a4⟩, [], rfl, ⟨ok0, ok1, ok2, ok3, ok4⟩, rfl⟩
end Go.Proofs.YtgbgibobokchmaaGreat

namespace Go.Proofs.YtgbgibobokchmaaGreat
open Go.RowKit
theorem opensGroup : Opens 117 fGroup.cod := by
  intro H enc w m cs x h hfz
  obtain ⟨hl, hf⟩ := opens_fields Tryz.underlying117 (by kernel_rfl) (by kernel_rfl) h hfz
  obtain ⟨v0, m0, y0, c0, t0, z0⟩ := hf 0 _ rfl
  obtain ⟨a0, _, e0, ok0, _⟩ := opens_str Tryz.underlying9 t0 z0
  obtain rfl : v0 = _ := by injection e0
  obtain ⟨v1, m1, y1, c1, t1, z1⟩ := hf 1 _ rfl
  obtain ⟨a1, _, e1, ok1, _⟩ := opens_int Tryz.underlying2 t1 z1
  obtain rfl : v1 = _ := by injection e1
  obtain ⟨v2, m2, y2, c2, t2, z2⟩ := hf 2 _ rfl
  obtain ⟨a2, _, e2, ok2, _⟩ := opens_int Tryz.underlying2 t2 z2
  obtain rfl : v2 = _ := by injection e2
  obtain ⟨v3, m3, y3, c3, t3, z3⟩ := hf 3 _ rfl
  obtain ⟨a3, _, e3, ok3, _⟩ := opens_int Tryz.underlying2 t3 z3
  obtain rfl : v3 = _ := by injection e3
  obtain ⟨v4, m4, y4, c4, t4, z4⟩ := hf 4 _ rfl
  obtain ⟨a4, _, e4, ok4, _⟩ := opens_int Tryz.underlying2 t4 z4
  obtain rfl : v4 = _ := by injection e4
  obtain ⟨v5, m5, y5, c5, t5, z5⟩ := hf 5 _ rfl
  obtain ⟨a5, _, e5, ok5, _⟩ := opens_int Tryz.underlying2 t5 z5
  obtain rfl : v5 = _ := by injection e5
  obtain ⟨v6, m6, y6, c6, t6, z6⟩ := hf 6 _ rfl
  obtain ⟨a6, _, e6, ok6, _⟩ := opens_int Tryz.underlying2 t6 z6
  obtain rfl : v6 = _ := by injection e6
  have hl' : cs.length = 7 := hl
  match cs, hl' with
  | [u0, u1, u2, u3, u4, u5, u6], _ =>
    obtain rfl : u0 = _ := by simpa using c0
    obtain rfl : u1 = _ := by simpa using c1
    obtain rfl : u2 = _ := by simpa using c2
    obtain rfl : u3 = _ := by simpa using c3
    obtain rfl : u4 = _ := by simpa using c4
    obtain rfl : u5 = _ := by simpa using c5
    obtain rfl : u6 = _ := by simpa using c6
    exact ⟨⟨a0, a1, a2, a3, a4, a5, a6⟩, [], rfl, ⟨ok0, ok1, ok2, ok3, ok4, ok5, ok6⟩, rfl⟩
end Go.Proofs.YtgbgibobokchmaaGreat

namespace Go.Proofs.YtgbgibobokchmaaGreat
open Go.RowKit
theorem opensWatch : Opens 120 fWatch.cod := by
  intro H enc w m cs x h hfz
  obtain ⟨hl, hf⟩ := opens_fields Tryz.underlying120 (by kernel_rfl) (by kernel_rfl) h hfz
  obtain ⟨v0, m0, y0, c0, t0, z0⟩ := hf 0 _ rfl
  obtain ⟨a0, _, e0, ok0, _⟩ := opens_str Tryz.underlying9 t0 z0
  obtain rfl : v0 = _ := by injection e0
  obtain ⟨v1, m1, y1, c1, t1, z1⟩ := hf 1 _ rfl
  obtain ⟨a1, _, e1, ok1, _⟩ := opens_int Tryz.underlying2 t1 z1
  obtain rfl : v1 = _ := by injection e1
  obtain ⟨v2, m2, y2, c2, t2, z2⟩ := hf 2 _ rfl
  obtain ⟨a2, _, e2, ok2, _⟩ := opens_int Tryz.underlying2 t2 z2
  obtain rfl : v2 = _ := by injection e2
  obtain ⟨v3, m3, y3, c3, t3, z3⟩ := hf 3 _ rfl
  obtain ⟨a3, _, e3, ok3, _⟩ := opens_bool Tryz.underlying4 t3 z3
  obtain rfl : v3 = _ := by injection e3
  have hl' : cs.length = 4 := hl
  match cs, hl' with
  | [u0, u1, u2, u3], _ =>
    obtain rfl : u0 = _ := by simpa using c0
    obtain rfl : u1 = _ := by simpa using c1
    obtain rfl : u2 = _ := by simpa using c2
    obtain rfl : u3 = _ := by simpa using c3
    exact ⟨⟨a0, a1, a2, a3⟩, [], rfl, ⟨ok0, ok1, ok2, ok3⟩, rfl⟩
end Go.Proofs.YtgbgibobokchmaaGreat

namespace Go.Proofs.YtgbgibobokchmaaGreat
open Go.RowKit
theorem opensIncident : Opens 123 fIncident.cod := by
  intro H enc w m cs x h hfz
  obtain ⟨hl, hf⟩ := opens_fields Tryz.underlying123 (by kernel_rfl) (by kernel_rfl) h hfz
  obtain ⟨v0, m0, y0, c0, t0, z0⟩ := hf 0 _ rfl
  obtain ⟨a0, _, e0, ok0, _⟩ := opens_int Tryz.underlying2 t0 z0
  obtain rfl : v0 = _ := by injection e0
  obtain ⟨v1, m1, y1, c1, t1, z1⟩ := hf 1 _ rfl
  obtain ⟨a1, _, e1, ok1, _⟩ := opens_str Tryz.underlying9 t1 z1
  obtain rfl : v1 = _ := by injection e1
  obtain ⟨v2, m2, y2, c2, t2, z2⟩ := hf 2 _ rfl
  obtain ⟨a2, _, e2, ok2, _⟩ := opens_str Tryz.underlying9 t2 z2
  obtain rfl : v2 = _ := by injection e2
  obtain ⟨v3, m3, y3, c3, t3, z3⟩ := hf 3 _ rfl
  obtain ⟨a3, _, e3, ok3, _⟩ := opens_int Tryz.underlying2 t3 z3
  obtain rfl : v3 = _ := by injection e3
  obtain ⟨v4, m4, y4, c4, t4, z4⟩ := hf 4 _ rfl
  obtain ⟨a4, _, e4, ok4, _⟩ := opens_int Tryz.underlying2 t4 z4
  obtain rfl : v4 = _ := by injection e4
  obtain ⟨v5, m5, y5, c5, t5, z5⟩ := hf 5 _ rfl
  obtain ⟨a5, _, e5, ok5, _⟩ := opens_int Tryz.underlying2 t5 z5
  obtain rfl : v5 = _ := by injection e5
  have hl' : cs.length = 6 := hl
  match cs, hl' with
  | [u0, u1, u2, u3, u4, u5], _ =>
    obtain rfl : u0 = _ := by simpa using c0
    obtain rfl : u1 = _ := by simpa using c1
    obtain rfl : u2 = _ := by simpa using c2
    obtain rfl : u3 = _ := by simpa using c3
    obtain rfl : u4 = _ := by simpa using c4
    obtain rfl : u5 = _ := by simpa using c5
    exact ⟨⟨a0, a1, a2, a3, a4, a5⟩, [], rfl, ⟨ok0, ok1, ok2, ok3, ok4, ok5⟩, rfl⟩
end Go.Proofs.YtgbgibobokchmaaGreat

namespace Go.Proofs.YtgbgibobokchmaaGreat
open Go.RowKit Go.WideShapes Go.ChangeShapes Go.ChangeAt Go.Deep
set_option linter.unusedVariables false

theorem opensRegion : Opens 111 cRegion := by
  intro H enc w m cs x h hfz
  obtain ⟨hl, hf⟩ := opens_fields Tryz.underlying111 (by kernel_rfl) (by kernel_rfl) h hfz
  obtain ⟨v0, m0, y0, c0, t0, z0⟩ := hf 0 _ rfl
  obtain ⟨a0, _, e0, ok0, _⟩ := opens_str Tryz.underlying9 t0 z0
  obtain rfl : v0 = _ := by injection e0
  obtain ⟨v1, m1, y1, c1, t1, z1⟩ := hf 1 _ rfl
  obtain ⟨a1, _, e1, ok1, _⟩ := opens_int Tryz.underlying2 t1 z1
  obtain rfl : v1 = _ := by injection e1
  obtain ⟨v2, m2, y2, c2, t2, z2⟩ := hf 2 _ rfl
  obtain ⟨a2, fp2, e2⟩ := opens_slice Tryz.underlying109 (by kernel_rfl) (opens_str Tryz.underlying9) t2 z2
  have hl' : cs.length = 3 := hl
  match cs, hl' with
  | [u0, u1, u2], _ =>
    obtain rfl : u0 = _ := by simpa using c0
    obtain rfl : u1 = _ := by simpa using c1
    obtain rfl : u2 = _ := by simpa using c2
    exact ⟨⟨a0, a1, a2⟩, fp2, _, rfl, ok0, ok1, e2⟩
theorem opens_parts {t : TypeId} {fs : Array Field} (ht : Tryz.prog.underlying t = some (.struct fs))
    {H : Type} {enc : TypeId × Value → H} {w : World} {n : Nat} {cs : List Value} {x : DataW H × List MemPlace} (h : DataW.trod enc Tryz.prog w 0 (fun _ => true) true n t cs = some x) (hfz : w.noneFrozen x.2) :
    cs.length = Tryz.prog.cellsOf t ∧ ∀ (j : Nat) (f : Field), fs[j]? = some f → ∃ (m : Nat) (y : DataW H × List MemPlace), DataW.trod enc Tryz.prog w 0 (fun _ => true) true m f.type ((cs.drop f.offset).take (Tryz.prog.cellsOf f.type)) = some y ∧ w.noneFrozen y.2 := by
  obtain ⟨xs, n', rfl, hx, hl, hxl, hf⟩ := DataW.trod_struct ht h
  refine ⟨hl, fun j f hj => ?_⟩
  have hjl : j < fs.size := (Array.getElem?_eq_some_iff.1 hj).1
  have h1 := hf j f hj
  rw [List.getElem?_eq_getElem (by omega)] at h1
  refine ⟨n', xs[j], h1, fun b off hm => hfz b off ?_⟩
  rw [hx]
  exact List.mem_flatMap.2 ⟨xs[j], List.getElem_mem _, hm⟩
def fps (L : List (List Nat)) (i : Nat) : List Nat := L.getD i []
set_option maxRecDepth 100000 in
set_option maxHeartbeats 2000000 in
theorem opensDesk {H : Type} {enc : TypeId × Value → H} {w : World} {n : Nat} {cs : List Value} {x : DataW H × List MemPlace} (h : DataW.trod enc Tryz.prog w 0 (fun _ => true) true n 36 cs = some x) (hfz : w.noneFrozen x.2) :
    ∃ (v : DVals) (d : DDesk) (F : Nat → List Nat), cs = [v.ob, .int .i64 d.rows, .int .i64 d.columns, v.ma, v.te, v.st, v.pa, v.zo, v.re, v.ve, v.sh, v.gr, v.wa, v.in_] ∧ DeskRd w v d F := by
  obtain ⟨hl, hf⟩ := opens_parts Tryz.underlying36 h hfz
  have hl' : cs.length = 14 := by rw [hl]; kernel_rfl
  match cs, hl' with
  | [u0, u1, u2, u3, u4, u5, u6, u7, u8, u9, u10, u11, u12, u13], _ =>
    obtain ⟨m0, y0, t0, z0⟩ := hf 0 _ rfl
    have k0 : Tryz.prog.cellsOf 22 = 1 := by kernel_rfl
    replace t0 : DataW.trod enc Tryz.prog w 0 (fun _ => true) true m0 22 [u0] = some y0 := by
      change DataW.trod enc Tryz.prog w 0 (fun _ => true) true m0 22 (List.take (Tryz.prog.cellsOf 22) (List.drop 0 [u0, u1, u2, u3, u4, u5, u6, u7, u8, u9, u10, u11, u12, u13])) = some y0 at t0
      rw [k0] at t0; exact t0
    obtain ⟨a0, f0, v0, e0_, sl0⟩ := opens_slice Tryz.underlying22 (by kernel_rfl) opensObserved t0 z0
    obtain rfl : u0 = v0 := by injection e0_
    obtain ⟨m1, y1, t1, z1⟩ := hf 1 _ rfl
    have k1 : Tryz.prog.cellsOf 25 = 3 := by kernel_rfl
    replace t1 : DataW.trod enc Tryz.prog w 0 (fun _ => true) true m1 25 [u1, u2, u3] = some y1 := by
      change DataW.trod enc Tryz.prog w 0 (fun _ => true) true m1 25 (List.take (Tryz.prog.cellsOf 25) (List.drop 1 [u0, u1, u2, u3, u4, u5, u6, u7, u8, u9, u10, u11, u12, u13])) = some y1 at t1
      rw [k1] at t1; exact t1
    obtain ⟨_, hg⟩ := opens_fields Tryz.underlying25 (by kernel_rfl) (by kernel_rfl) t1 z1
    obtain ⟨p0, q0, r0, c0, s0, w0⟩ := hg 0 _ rfl
    obtain ⟨b0, _, e0, ok0, _⟩ := opens_int Tryz.underlying2 s0 w0
    obtain rfl : p0 = _ := by injection e0
    obtain rfl : u1 = _ := by simpa using c0
    obtain ⟨p1, q1, r1, c1, s1, w1⟩ := hg 1 _ rfl
    obtain ⟨b1, _, e1, ok1, _⟩ := opens_int Tryz.underlying2 s1 w1
    obtain rfl : p1 = _ := by injection e1
    obtain rfl : u2 = _ := by simpa using c1
    obtain ⟨p2, q2, r2, c2, s2, w2⟩ := hg 2 _ rfl
    obtain rfl : u3 = _ := by simpa using c2
    obtain ⟨b2, g2, p2', e2, sl1⟩ := opens_slice Tryz.underlying23 (by kernel_rfl) (opens_int Tryz.underlying2) s2 w2
    obtain rfl : u3 = p2' := by injection e2
    obtain ⟨m2, y2, t2, z2⟩ := hf 2 _ rfl
    have k2 : Tryz.prog.cellsOf 26 = 1 := by kernel_rfl
    replace t2 : DataW.trod enc Tryz.prog w 0 (fun _ => true) true m2 26 [u4] = some y2 := by
      change DataW.trod enc Tryz.prog w 0 (fun _ => true) true m2 26 (List.take (Tryz.prog.cellsOf 26) (List.drop 4 [u0, .int .i64 b0, .int .i64 b1, u3, u4, u5, u6, u7, u8, u9, u10, u11, u12, u13])) = some y2 at t2
      rw [k2] at t2; exact t2
    obtain ⟨a2, f2, v2, e2_, sl2⟩ := opens_slice Tryz.underlying26 (by kernel_rfl) opensTest t2 z2
    obtain rfl : u4 = v2 := by injection e2_
    obtain ⟨m3, y3, t3, z3⟩ := hf 3 _ rfl
    have k3 : Tryz.prog.cellsOf 27 = 1 := by kernel_rfl
    replace t3 : DataW.trod enc Tryz.prog w 0 (fun _ => true) true m3 27 [u5] = some y3 := by
      change DataW.trod enc Tryz.prog w 0 (fun _ => true) true m3 27 (List.take (Tryz.prog.cellsOf 27) (List.drop 5 [u0, .int .i64 b0, .int .i64 b1, u3, u4, u5, u6, u7, u8, u9, u10, u11, u12, u13])) = some y3 at t3
      rw [k3] at t3; exact t3
    obtain ⟨a3, f3, v3, e3_, sl3⟩ := opens_slice Tryz.underlying27 (by kernel_rfl) opensStand t3 z3
    obtain rfl : u5 = v3 := by injection e3_
    obtain ⟨m4, y4, t4, z4⟩ := hf 4 _ rfl
    have k4 : Tryz.prog.cellsOf 28 = 1 := by kernel_rfl
    replace t4 : DataW.trod enc Tryz.prog w 0 (fun _ => true) true m4 28 [u6] = some y4 := by
      change DataW.trod enc Tryz.prog w 0 (fun _ => true) true m4 28 (List.take (Tryz.prog.cellsOf 28) (List.drop 6 [u0, .int .i64 b0, .int .i64 b1, u3, u4, u5, u6, u7, u8, u9, u10, u11, u12, u13])) = some y4 at t4
      rw [k4] at t4; exact t4
    obtain ⟨a4, f4, v4, e4_, sl4⟩ := opens_slice Tryz.underlying28 (by kernel_rfl) opensPathPoint t4 z4
    obtain rfl : u6 = v4 := by injection e4_
    obtain ⟨m5, y5, t5, z5⟩ := hf 5 _ rfl
    have k5 : Tryz.prog.cellsOf 23 = 1 := by kernel_rfl
    replace t5 : DataW.trod enc Tryz.prog w 0 (fun _ => true) true m5 23 [u7] = some y5 := by
      change DataW.trod enc Tryz.prog w 0 (fun _ => true) true m5 23 (List.take (Tryz.prog.cellsOf 23) (List.drop 7 [u0, .int .i64 b0, .int .i64 b1, u3, u4, u5, u6, u7, u8, u9, u10, u11, u12, u13])) = some y5 at t5
      rw [k5] at t5; exact t5
    obtain ⟨a5, f5, v5, e5_, sl5⟩ := opens_slice Tryz.underlying23 (by kernel_rfl) (opens_int Tryz.underlying2) t5 z5
    obtain rfl : u7 = v5 := by injection e5_
    obtain ⟨m6, y6, t6, z6⟩ := hf 6 _ rfl
    have k6 : Tryz.prog.cellsOf 29 = 1 := by kernel_rfl
    replace t6 : DataW.trod enc Tryz.prog w 0 (fun _ => true) true m6 29 [u8] = some y6 := by
      change DataW.trod enc Tryz.prog w 0 (fun _ => true) true m6 29 (List.take (Tryz.prog.cellsOf 29) (List.drop 8 [u0, .int .i64 b0, .int .i64 b1, u3, u4, u5, u6, u7, u8, u9, u10, u11, u12, u13])) = some y6 at t6
      rw [k6] at t6; exact t6
    obtain ⟨a6, f6, v6, e6_, sl6⟩ := opens_slice Tryz.underlying29 (by kernel_rfl) opensRegion t6 z6
    obtain rfl : u8 = v6 := by injection e6_
    obtain ⟨m7, y7, t7, z7⟩ := hf 7 _ rfl
    have k7 : Tryz.prog.cellsOf 30 = 1 := by kernel_rfl
    replace t7 : DataW.trod enc Tryz.prog w 0 (fun _ => true) true m7 30 [u9] = some y7 := by
      change DataW.trod enc Tryz.prog w 0 (fun _ => true) true m7 30 (List.take (Tryz.prog.cellsOf 30) (List.drop 9 [u0, .int .i64 b0, .int .i64 b1, u3, u4, u5, u6, u7, u8, u9, u10, u11, u12, u13])) = some y7 at t7
      rw [k7] at t7; exact t7
    obtain ⟨a7, f7, v7, e7_, sl7⟩ := opens_slice Tryz.underlying30 (by kernel_rfl) opensVerified t7 z7
    obtain rfl : u9 = v7 := by injection e7_
    obtain ⟨m8, y8, t8, z8⟩ := hf 8 _ rfl
    have k8 : Tryz.prog.cellsOf 31 = 1 := by kernel_rfl
    replace t8 : DataW.trod enc Tryz.prog w 0 (fun _ => true) true m8 31 [u10] = some y8 := by
      change DataW.trod enc Tryz.prog w 0 (fun _ => true) true m8 31 (List.take (Tryz.prog.cellsOf 31) (List.drop 10 [u0, .int .i64 b0, .int .i64 b1, u3, u4, u5, u6, u7, u8, u9, u10, u11, u12, u13])) = some y8 at t8
      rw [k8] at t8; exact t8
    obtain ⟨a8, f8, v8, e8_, sl8⟩ := opens_slice Tryz.underlying31 (by kernel_rfl) opensShot t8 z8
    obtain rfl : u10 = v8 := by injection e8_
    obtain ⟨m9, y9, t9, z9⟩ := hf 9 _ rfl
    have k9 : Tryz.prog.cellsOf 32 = 1 := by kernel_rfl
    replace t9 : DataW.trod enc Tryz.prog w 0 (fun _ => true) true m9 32 [u11] = some y9 := by
      change DataW.trod enc Tryz.prog w 0 (fun _ => true) true m9 32 (List.take (Tryz.prog.cellsOf 32) (List.drop 11 [u0, .int .i64 b0, .int .i64 b1, u3, u4, u5, u6, u7, u8, u9, u10, u11, u12, u13])) = some y9 at t9
      rw [k9] at t9; exact t9
    obtain ⟨a9, f9, v9, e9_, sl9⟩ := opens_slice Tryz.underlying32 (by kernel_rfl) opensGroup t9 z9
    obtain rfl : u11 = v9 := by injection e9_
    obtain ⟨m10, y10, t10, z10⟩ := hf 10 _ rfl
    have k10 : Tryz.prog.cellsOf 33 = 1 := by kernel_rfl
    replace t10 : DataW.trod enc Tryz.prog w 0 (fun _ => true) true m10 33 [u12] = some y10 := by
      change DataW.trod enc Tryz.prog w 0 (fun _ => true) true m10 33 (List.take (Tryz.prog.cellsOf 33) (List.drop 12 [u0, .int .i64 b0, .int .i64 b1, u3, u4, u5, u6, u7, u8, u9, u10, u11, u12, u13])) = some y10 at t10
      rw [k10] at t10; exact t10
    obtain ⟨a10, f10, v10, e10_, sl10⟩ := opens_slice Tryz.underlying33 (by kernel_rfl) opensWatch t10 z10
    obtain rfl : u12 = v10 := by injection e10_
    obtain ⟨m11, y11, t11, z11⟩ := hf 11 _ rfl
    have k11 : Tryz.prog.cellsOf 34 = 1 := by kernel_rfl
    replace t11 : DataW.trod enc Tryz.prog w 0 (fun _ => true) true m11 34 [u13] = some y11 := by
      change DataW.trod enc Tryz.prog w 0 (fun _ => true) true m11 34 (List.take (Tryz.prog.cellsOf 34) (List.drop 13 [u0, .int .i64 b0, .int .i64 b1, u3, u4, u5, u6, u7, u8, u9, u10, u11, u12, u13])) = some y11 at t11
      rw [k11] at t11; exact t11
    obtain ⟨a11, f11, v11, e11_, sl11⟩ := opens_slice Tryz.underlying34 (by kernel_rfl) opensIncident t11 z11
    obtain rfl : u13 = v11 := by injection e11_
    exact ⟨⟨u0, u3, u4, u5, u6, u7, u8, u9, u10, u11, u12, u13⟩, ⟨b0, b1, a0, b2, a2, a3, a4, a5, a6, a7, a8, a9, a10, a11⟩, fps [f0, g2, f2, f3, f4, f5, f6, f7, f8, f9, f10, f11], rfl, ⟨sl0, sl1, sl2, sl3, sl4, sl5, sl6, sl7, sl8, sl9, sl10, sl11⟩⟩
end Go.Proofs.YtgbgibobokchmaaGreat
