/- Parts of the proof: Iv, Ig, BsIncident, InIncident, Fk, AdIncident, Pz, Ow, Ib, Tk. -/
import Derived.Test.YthabmofkjdiccaaGreatDoorG04
import Derived.Test.YthabmofkjdiccaaGreatDoorG01
import Derived.Lib.AppendZerosOnto
import Derived.Lib.Overlaps
import Derived.Laws.Externs
import Derived.Deep.RegionHeld
namespace Go.Proofs.YthabmofkjdiccaaGreatDoor
open Go.RowKit
set_option linter.unusedVariables false

def befI (a b : DIncident) : Bool := if a.day = b.day then (if a.place = b.place then ltS a.cause b.cause else ltS a.place b.place) else decide (a.day < b.day)
def cmpInc (a b : DIncident) : Int := orI [cmI a.day b.day, cmT a.place b.place, cmT a.cause b.cause]
theorem cmpInc_lt (a b : DIncident) : decide (cmpInc a b < 0) = befI a b := by
  unfold cmpInc befI
  rw [orI_three]
  by_cases h : a.day = b.day
  · rw [if_pos (cmI_zero.2 h), if_pos h]
    by_cases h2 : a.place = b.place
    · rw [if_pos (cmT_zero.2 h2), if_pos h2]
      rw [Bool.eq_iff_iff]; simp [cmT_lt]
    · rw [if_neg (fun e => h2 (cmT_zero.1 e)), if_neg h2]
      rw [Bool.eq_iff_iff]; simp [cmT_lt]
  · rw [if_neg (fun e => h (cmI_zero.1 e)), if_neg h]
    rw [Bool.eq_iff_iff]; simp [cmI_lt]

def incOk (xs : List DIncident) (i : Nat) : Bool := incB (xs.getD i n00) && (decide (i = 0) || befI (xs.getD (i - 1) n00) (xs.getD i n00))
def incsB (xs : List DIncident) : Bool := allIdx (incOk xs) xs.length && decide (xs.length ≤ 48)
theorem incOk_zero {xs : List DIncident} (h : 0 < xs.length) : incOk xs 0 = incB xs[0] := by simp [incOk, h]
theorem incOk_succ {xs : List DIncident} {m : Nat} (h : m + 1 < xs.length) : incOk xs (m + 1) = (incB xs[m + 1] && befI xs[m] xs[m + 1]) := by
  have h1 : m < xs.length := by omega
  simp [incOk, h, h1]
theorem incsB_bad {xs : List DIncident} {k : Nat} (h : k < xs.length) (h1 : incOk xs k = false) : incsB xs = false := by
  unfold incsB; rw [allIdx_bad h h1]; rfl
theorem incsB_len {xs : List DIncident} (h : incsB xs = true) : xs.length ≤ 48 := by
  unfold incsB at h; simp at h; exact h.2
theorem incsB_one {xs : List DIncident} (h : incsB xs = true) {k : Nat} (hk : k < xs.length) : incB xs[k] = true := by
  unfold incsB at h
  rw [Bool.and_eq_true] at h
  have := allIdx_true.1 h.1 k hk
  unfold incOk at this
  rw [Bool.and_eq_true] at this
  simpa [hk] using this.1
theorem incsB_two {xs : List DIncident} (h : incsB xs = true) {m : Nat} (hm : m + 1 < xs.length) : befI xs[m] xs[m + 1] = true := by
  unfold incsB at h
  rw [Bool.and_eq_true] at h
  have := allIdx_true.1 h.1 (m + 1) hm
  rw [incOk_succ hm, Bool.and_eq_true] at this
  exact this.2

set_option maxRecDepth 100000 in
set_option maxHeartbeats 4000000 in
theorem l28Before_any (pa oa pb ob : Nat) (a b : DIncident) (w : World) (hpa : PIncident w pa oa a) (hpb : PIncident w pb ob b) :
    Calls Tryz.prog 108 #[.pointer (some ⟨pa, oa, none⟩), .pointer (some ⟨pb, ob, none⟩)] w fun e w' => e = .returned (.bool (befI a b)) ∧ Below w.heap.size w w' := by
  obtain ⟨c0, c1, c2, c3, c4, c5⟩ := id hpa
  obtain ⟨d0, d1, d2, d3, d4, d5⟩ := id hpb
  by_cases hd : a.day = b.day
  · have e1 : (a.day == b.day) = true := by rw [beq_iff_eq]; exact hd
    have e2 : (a.day != b.day) = false := by unfold bne; rw [e1]; rfl
    by_cases hp : a.place = b.place
    · have e3 : (a.place.toList == b.place.toList) = true := eqS_true.2 hp
      have e4 : (a.place.toList != b.place.toList) = false := by unfold bne; rw [e3]; rfl
      have HX : Hid (befI a b = Op.bytesLess a.cause.toList b.cause.toList) := by show _ = _; unfold befI; rw [if_pos hd, if_pos hp]; rfl
      clear hd hp
      go_enter Tryz.func108, Tryz.ntmps108
      go_wp2
      go_quiet (fail)
      go_wp2
      go_quiet (fail)
      go_wp2
      go_quiet (fail)
      go_wp2
      go_ret
      exact ⟨ret_bool HX.out.symm, (by repeat (first | exact Below.refl _ _ | assumption | refine Below.alloc ?_ (by first | omega | (simp <;> omega)) _ | refine Below.setCell ?_ (by first | (show _ ≤ _; omega) | (simp <;> omega)) _ | refine Below.drew ?_ | refine below_drewN ?_ _))⟩
    · have e3 : (a.place.toList == b.place.toList) = false := bytes_beq_false hp
      have e4 : (a.place.toList != b.place.toList) = true := by unfold bne; rw [e3]; rfl
      have HX : Hid (befI a b = Op.bytesLess a.place.toList b.place.toList) := by show _ = _; unfold befI; rw [if_pos hd, if_neg hp]; rfl
      clear hd hp
      go_enter Tryz.func108, Tryz.ntmps108
      go_wp2
      go_quiet (fail)
      go_wp2
      go_quiet (fail)
      go_wp2
      go_quiet (fail)
      go_wp2
      go_ret
      exact ⟨ret_bool HX.out.symm, (by repeat (first | exact Below.refl _ _ | assumption | refine Below.alloc ?_ (by first | omega | (simp <;> omega)) _ | refine Below.setCell ?_ (by first | (show _ ≤ _; omega) | (simp <;> omega)) _ | refine Below.drew ?_ | refine below_drewN ?_ _))⟩
  · have e1 : (a.day == b.day) = false := by rw [beq_eq_false_iff_ne]; exact hd
    have e2 : (a.day != b.day) = true := by unfold bne; rw [e1]; rfl
    have HX : Hid (befI a b = decide (a.day < b.day)) := by show _ = _; unfold befI; rw [if_neg hd]
    clear hd
    go_enter Tryz.func108, Tryz.ntmps108
    go_wp2
    go_quiet (fail)
    go_wp2
    go_quiet (fail)
    go_wp2
    go_ret
    exact ⟨ret_bool HX.out.symm, (by repeat (first | exact Below.refl _ _ | assumption | refine Below.alloc ?_ (by first | omega | (simp <;> omega)) _ | refine Below.setCell ?_ (by first | (show _ ≤ _; omega) | (simp <;> omega)) _ | refine Below.drew ?_ | refine below_drewN ?_ _))⟩
set_option maxRecDepth 100000 in
set_option maxHeartbeats 4000000 in
theorem compareIncidents_any (a b : DIncident) (w : World) :
    Calls Tryz.prog 65 #[.agg #[.int .i64 a.day, .string a.place, .string a.cause, .int .i64 a.level, .int .i64 a.caught, .int .i64 a.buried], .agg #[.int .i64 b.day, .string b.place, .string b.cause, .int .i64 b.level, .int .i64 b.caught, .int .i64 b.buried]] w fun e w' => e = .returned (.int .i64 (cmpInc a b)) ∧ Below w.heap.size w w' := by
  have hpa := PIncident.box w a 48
  have hpb := PIncident.box (w.alloc (.cells #[.int .i64 a.day, .string a.place, .string a.cause, .int .i64 a.level, .int .i64 a.caught, .int .i64 a.buried] 48)) b 48
  rw [World.size_alloc] at hpb
  have hpa2 := hpa.below' ((Below.refl _ _).alloc (Nat.le_refl _) (.cells #[.int .i64 b.day, .string b.place, .string b.cause, .int .i64 b.level, .int .i64 b.caught, .int .i64 b.buried] 48))
  go_enter Tryz.func65, Tryz.ntmps65
  go_wp2
  refine at_world (fun W => Below w.heap.size w W ∧ PIncident W w.heap.size 0 a ∧ PIncident W (w.heap.size + 1) 0 b) ⟨(by repeat (first | exact Below.refl _ _ | assumption | refine Below.alloc ?_ (by first | omega | (simp <;> omega)) _ | refine Below.setCell ?_ (by first | (show _ ≤ _; omega) | (simp <;> omega)) _ | refine Below.drew ?_ | refine below_drewN ?_ _)), hpa2, hpb⟩ ?_
  clear hpa hpb hpa2
  rintro W ⟨hW, ⟨c0, c1, c2, c3, c4, c5⟩, ⟨d0, d1, d2, d3, d4, d5⟩⟩
  have gc0 := cell_regrown c0
  have gc1 := cell_regrown c1
  have gc2 := cell_regrown c2
  have gd0 := cell_regrown d0
  have gd1 := cell_regrown d1
  have gd2 := cell_regrown d2
  refine wp_region_mixed [0, 1, 2, 3, 5, 6, 7, 8, 10, 11, 12, 13, 4, 9, 14, 15, 16, 17] (C := fun w' => ∃ p : Regrown, w' = Go.Sort.grow (redrawn W p.d) p.os) [true, true, true, true, true, true, true, true, true, true, true, true, false, false, false, false, false, true] (by kernel_rfl) (by kernel_rfl) (by kernel_rfl) (fun _ _ d _ _ h => by cases d <;> exact h) (regrown_of_below (Below.drew (Below.refl _ _))) ?_
  simp only [List.map_cons, List.map_nil, List.getD_cons_zero, List.getD_cons_succ]
  have hS0 : Below (W.heap.size) W W.drew := Below.drew (Below.refl _ _)
  refine wpMix_pure (by kernel_rfl) (fun K hK => ?_); go_big_quiet_op; refine hK _ ?_; clear hK K
  refine wpMix_pure (by kernel_rfl) (fun K hK => ?_); go_big_quiet_op; refine hK _ ?_; clear hK K
  refine wpMix_pure (by kernel_rfl) (fun K hK => ?_); go_big_quiet_op; refine hK _ ?_; clear hK K
  refine wpMix_pure (by kernel_rfl) (fun K hK => ?_); go_big_quiet_op; refine hK _ ?_; clear hK K
  refine wpMix_pure (by kernel_rfl) (fun K hK => ?_); go_big_quiet_op; refine hK _ ?_; clear hK K
  refine wpMix_pure (by kernel_rfl) (fun K hK => ?_); go_big_quiet_op; refine hK _ ?_; clear hK K
  refine wpMix_pure (by kernel_rfl) (fun K hK => ?_); go_big_quiet_op; refine hK _ ?_; clear hK K
  refine wpMix_pure (by kernel_rfl) (fun K hK => ?_); go_big_quiet_op; refine hK _ ?_; clear hK K
  refine wpMix_pure (by kernel_rfl) (fun K hK => ?_); go_big_quiet_op; refine hK _ ?_; clear hK K
  refine wpMix_pure (by kernel_rfl) (fun K hK => ?_); go_big_quiet_op; refine hK _ ?_; clear hK K
  refine wpMix_pure (by kernel_rfl) (fun K hK => ?_); go_big_quiet_op; refine hK _ ?_; clear hK K
  refine wpMix_pure (by kernel_rfl) (fun K hK => ?_); go_big_quiet_op; refine hK _ ?_; clear hK K
  refine wpMix_act (by kernel_rfl) (fun K hK => ?_)
  go_big_op
  refine (compareI_any _ _ _).mono ?_
  rintro e w' ⟨rfl, rfl⟩
  refine hK _ _ (regrown_of_below hS0) ?_
  clear hK K
  refine wpMix_act (by kernel_rfl) (fun K hK => ?_)
  go_big_op
  refine (compareT_any _ _ _).mono ?_
  rintro e w' ⟨rfl, rfl⟩
  refine hK _ _ (regrown_of_below hS0) ?_
  clear hK K
  refine wpMix_act (by kernel_rfl) (fun K hK => ?_)
  go_big_op
  refine (compareT_any _ _ _).mono ?_
  rintro e w' ⟨rfl, rfl⟩
  refine hK _ _ (regrown_of_below hS0) ?_
  clear hK K
  refine wpMix_act (by kernel_rfl) (fun K hK => ?_)
  go_big_op
  refine hK _ _ (regrown_of_below (hS0.alloc hS0.size _)) ?_
  clear hK K
  refine mix_world (fun N => Below (W.heap.size) W N ∧ Sl fInt.cod N (.slice (some ⟨W.drew.heap.size, 0, none⟩) 3 3) [cmI a.day b.day, cmT a.place b.place, cmT a.cause b.cause] [W.drew.heap.size]) ⟨hS0.alloc hS0.size _, Sl.lit2 (E := fInt) W.drew [cmI a.day b.day, cmT a.place b.place, cmT a.cause b.cause] _ _ rfl (by intro x hx; simp at hx; rcases hx with rfl | rfl | rfl; exact cmI_ok _ _; exact cmT_ok _ _; exact cmT_ok _ _) (by simp) (by simp)⟩ ?_
  rintro wr4 ⟨hbr4S, hbr4F⟩
  refine wpMix_act (by kernel_rfl) (fun K hK => ?_)
  go_big_op
  refine (orJ_any _ _ _ _ hbr4F).mono ?_
  rintro e w' ⟨rfl, rfl⟩
  refine hK _ _ (regrown_of_below hbr4S) ?_
  clear hK K
  refine wpMix_pure (by kernel_rfl) (fun K hK => ?_); go_big_quiet_op; refine hK _ ?_; clear hK K
  refine wpMix_nil ?_
  go_wp2
  go_ret
  exact ⟨rfl, hW.trans (hbr4S.mono hW.size)⟩
set_option maxRecDepth 100000 in
set_option maxHeartbeats 4000000 in
theorem l28Ok_any (v : Value) (xs : List DIncident) (fp : List Nat) (w : World) (hx : Sl fIncident.cod w v xs fp) :
    Calls Tryz.prog 75 #[v] w fun e w' => e = .returned (.bool (incsB xs)) ∧ Below w.heap.size w w' := by
  obtain ⟨A, cap, rfl, hlen, hcap⟩ := hx.form
  go_enter Tryz.func75, Tryz.ntmps75
  go_wp2
  go_loopw [3] (fun i wr => ∃ k : Nat, k ≤ xs.length ∧ i = .int .i64 k ∧ Hid (allIdx (incOk xs) k = true) ∧ Below w.heap.size w wr) (fun i _ => xs.length - (intOf i).toNat)
  case atStart => exact ⟨0, Nat.zero_le _, rfl, rfl, Below.refl _ _⟩
  case round =>
    obtain ⟨k, hk, rfl, H0, hb⟩ := hrel
    by_cases hlt : k < xs.length
    · rcases Nat.eq_zero_or_pos k with rfl | hpos
      · obtain ⟨b, off, rfl, _, hok, hp⟩ := PIncident.elem (hx.below' hb) hlt
        have hplt := hp.lt
        go_wp2
        refine wp_region_mix (C := fun w' => ∃ p : Regrown, w' = Go.Sort.grow (redrawn wr p.d) p.os) [true, true, true, false, true, true, true, true, true, true, true, true, true, true, true, true, false, true, true, true] (by kernel_rfl) (by kernel_rfl) (by kernel_rfl) (fun _ _ d _ _ h => by cases d <;> exact h) (regrown_of_below (Below.drew (Below.refl _ _))) ?_
        have hS0 : Below (wr.heap.size) wr wr.drew := Below.drew (Below.refl _ _)
        refine wpMix_pure (by kernel_rfl) (fun K hK => ?_); go_big_quiet_op; refine hK _ ?_; clear hK K
        refine wpMix_pure (by kernel_rfl) (fun K hK => ?_); go_big_quiet_op; refine hK _ ?_; clear hK K
        refine wpMix_pure (by kernel_rfl) (fun K hK => ?_); go_big_quiet_op; refine hK _ ?_; clear hK K
        refine wpMix_act (by kernel_rfl) (fun K hK => ?_)
        go_big_op
        refine (l28One_any _ _ _ _ (hp.below hS0 hplt) hok).mono ?_
        rintro e wr1 ⟨rfl, hbr1⟩
        have hbr1S : Below (wr.heap.size) wr wr1 := hS0.trans (hbr1.mono hS0.size)
        refine hK _ _ (regrown_of_below hbr1S) ?_
        clear hK K
        cases hq3 : incB xs[0]
        · skip
          refine wpMix_pure (by kernel_rfl) (fun K hK => ?_); go_big_quiet_op; refine hK _ ?_; clear hK K
          refine wpMix_pure (by kernel_rfl) (fun K hK => ?_); go_big_quiet_op; refine hK _ ?_; clear hK K
          refine wpMix_skip (by kernel_rfl) (fun K hK => ?_)
          simp only [Act.put, List.setIfInBounds_toArray, List.set_cons_zero, List.set_cons_succ]
          refine hK _ ?_; clear hK K
          refine wpMix_skip (by kernel_rfl) (fun K hK => ?_)
          simp only [Act.put, List.setIfInBounds_toArray, List.set_cons_zero, List.set_cons_succ]
          refine hK _ ?_; clear hK K
          refine wpMix_skip (by kernel_rfl) (fun K hK => ?_)
          simp only [Act.put, List.setIfInBounds_toArray, List.set_cons_zero, List.set_cons_succ]
          refine hK _ ?_; clear hK K
          refine wpMix_skip (by kernel_rfl) (fun K hK => ?_)
          simp only [Act.put, List.setIfInBounds_toArray, List.set_cons_zero, List.set_cons_succ]
          refine hK _ ?_; clear hK K
          refine wpMix_skip (by kernel_rfl) (fun K hK => ?_)
          simp only [Act.put, List.setIfInBounds_toArray, List.set_cons_zero, List.set_cons_succ]
          refine hK _ ?_; clear hK K
          refine wpMix_skip (by kernel_rfl) (fun K hK => ?_)
          simp only [Act.put, List.setIfInBounds_toArray, List.set_cons_zero, List.set_cons_succ]
          refine hK _ ?_; clear hK K
          refine wpMix_skip (by kernel_rfl) (fun K hK => ?_)
          simp only [Act.put, List.setIfInBounds_toArray, List.set_cons_zero, List.set_cons_succ]
          refine hK _ ?_; clear hK K
          refine wpMix_skip (by kernel_rfl) (fun K hK => ?_)
          simp only [Act.put, List.setIfInBounds_toArray, List.set_cons_zero, List.set_cons_succ]
          refine hK _ ?_; clear hK K
          refine wpMix_skip (by kernel_rfl) (fun K hK => ?_)
          simp only [Act.put, List.setIfInBounds_toArray, List.set_cons_zero, List.set_cons_succ]
          refine hK _ ?_; clear hK K
          refine wpMix_skip (by kernel_rfl) (fun K hK => ?_)
          simp only [Act.put, List.setIfInBounds_toArray, List.set_cons_zero, List.set_cons_succ]
          refine hK _ ?_; clear hK K
          refine wpMix_skip (by kernel_rfl) (fun K hK => ?_)
          simp only [Act.put, List.setIfInBounds_toArray, List.set_cons_zero, List.set_cons_succ]
          refine hK _ ?_; clear hK K
          refine wpMix_skip (by kernel_rfl) (fun K hK => ?_)
          simp only [Act.put, List.setIfInBounds_toArray, List.set_cons_zero, List.set_cons_succ]
          refine hK _ ?_; clear hK K
          refine wpMix_skip (by kernel_rfl) (fun K hK => ?_)
          simp only [Act.put, List.setIfInBounds_toArray, List.set_cons_zero, List.set_cons_succ]
          refine hK _ ?_; clear hK K
          refine wpMix_pure (by kernel_rfl) (fun K hK => ?_); go_big_quiet_op; refine hK _ ?_; clear hK K
          refine wpMix_nil ?_
          go_wp2
          go_ret
          exact ⟨ret_bool (by rw [incsB_bad hlt (by rw [incOk_zero hlt]; simp [*])]), hb.trans (hbr1S.mono hb.size)⟩
        · skip
          refine wpMix_pure (by kernel_rfl) (fun K hK => ?_); go_big_quiet_op; refine hK _ ?_; clear hK K
          refine wpMix_pure (by kernel_rfl) (fun K hK => ?_); go_big_quiet_op; refine hK _ ?_; clear hK K
          refine wpMix_pure (by kernel_rfl) (fun K hK => ?_); go_big_quiet_op; refine hK _ ?_; clear hK K
          refine wpMix_pure (by kernel_rfl) (fun K hK => ?_); go_big_quiet_op; refine hK _ ?_; clear hK K
          refine wpMix_pure (by kernel_rfl) (fun K hK => ?_); go_big_quiet_op; refine hK _ ?_; clear hK K
          refine wpMix_skip (by kernel_rfl) (fun K hK => ?_)
          simp only [Act.put, List.setIfInBounds_toArray, List.set_cons_zero, List.set_cons_succ]
          refine hK _ ?_; clear hK K
          refine wpMix_skip (by kernel_rfl) (fun K hK => ?_)
          simp only [Act.put, List.setIfInBounds_toArray, List.set_cons_zero, List.set_cons_succ]
          refine hK _ ?_; clear hK K
          refine wpMix_skip (by kernel_rfl) (fun K hK => ?_)
          simp only [Act.put, List.setIfInBounds_toArray, List.set_cons_zero, List.set_cons_succ]
          refine hK _ ?_; clear hK K
          refine wpMix_skip (by kernel_rfl) (fun K hK => ?_)
          simp only [Act.put, List.setIfInBounds_toArray, List.set_cons_zero, List.set_cons_succ]
          refine hK _ ?_; clear hK K
          refine wpMix_skip (by kernel_rfl) (fun K hK => ?_)
          simp only [Act.put, List.setIfInBounds_toArray, List.set_cons_zero, List.set_cons_succ]
          refine hK _ ?_; clear hK K
          refine wpMix_skip (by kernel_rfl) (fun K hK => ?_)
          simp only [Act.put, List.setIfInBounds_toArray, List.set_cons_zero, List.set_cons_succ]
          refine hK _ ?_; clear hK K
          refine wpMix_skip (by kernel_rfl) (fun K hK => ?_)
          simp only [Act.put, List.setIfInBounds_toArray, List.set_cons_zero, List.set_cons_succ]
          refine hK _ ?_; clear hK K
          refine wpMix_skip (by kernel_rfl) (fun K hK => ?_)
          simp only [Act.put, List.setIfInBounds_toArray, List.set_cons_zero, List.set_cons_succ]
          refine hK _ ?_; clear hK K
          refine wpMix_skip (by kernel_rfl) (fun K hK => ?_)
          simp only [Act.put, List.setIfInBounds_toArray, List.set_cons_zero, List.set_cons_succ]
          refine hK _ ?_; clear hK K
          refine wpMix_pure (by kernel_rfl) (fun K hK => ?_); go_big_quiet_op; refine hK _ ?_; clear hK K
          refine wpMix_pure (by kernel_rfl) (fun K hK => ?_); go_big_quiet_op; refine hK _ ?_; clear hK K
          refine wpMix_nil ?_
          go_wp2
          go_roundw
          case rel => exact ⟨0 + 1, by omega, by go_num, allIdx_step H0.out (by rw [incOk_zero hlt]; simp [*]), hb.trans (hbr1S.mono hb.size)⟩
          case measure => simp [intOf]; omega
      · obtain ⟨m, rfl⟩ : ∃ m, k = m + 1 := ⟨k - 1, by omega⟩
        have hm : m < xs.length := by omega
        obtain ⟨b, off, rfl, _, hok, hp⟩ := PIncident.elem (hx.below' hb) hlt
        have hplt := hp.lt
        obtain ⟨b1, off1, hA1, _, hokm, hpm⟩ := PIncident.elem (hx.below' hb) hm
        injection hA1 with hA1
        injection hA1 with hA1 hA2 _
        subst hA1 hA2
        go_wp2
        refine wp_region_mix (C := fun w' => ∃ p : Regrown, w' = Go.Sort.grow (redrawn wr p.d) p.os) [true, true, true, false, true, true, true, true, true, true, true, true, true, true, true, true, false, true, true, true] (by kernel_rfl) (by kernel_rfl) (by kernel_rfl) (fun _ _ d _ _ h => by cases d <;> exact h) (regrown_of_below (Below.drew (Below.refl _ _))) ?_
        have hS0 : Below (wr.heap.size) wr wr.drew := Below.drew (Below.refl _ _)
        refine wpMix_pure (by kernel_rfl) (fun K hK => ?_); go_big_quiet_op; refine hK _ ?_; clear hK K
        refine wpMix_pure (by kernel_rfl) (fun K hK => ?_); go_big_quiet_op; refine hK _ ?_; clear hK K
        refine wpMix_pure (by kernel_rfl) (fun K hK => ?_); go_big_quiet_op; refine hK _ ?_; clear hK K
        refine wpMix_act (by kernel_rfl) (fun K hK => ?_)
        go_big_op
        refine (l28One_any _ _ _ _ (hp.below hS0 hplt) hok).mono ?_
        rintro e wr1 ⟨rfl, hbr1⟩
        have hbr1S : Below (wr.heap.size) wr wr1 := hS0.trans (hbr1.mono hS0.size)
        refine hK _ _ (regrown_of_below hbr1S) ?_
        clear hK K
        cases hq3 : incB xs[m + 1]
        · skip
          refine wpMix_pure (by kernel_rfl) (fun K hK => ?_); go_big_quiet_op; refine hK _ ?_; clear hK K
          refine wpMix_pure (by kernel_rfl) (fun K hK => ?_); go_big_quiet_op; refine hK _ ?_; clear hK K
          refine wpMix_skip (by kernel_rfl) (fun K hK => ?_)
          simp only [Act.put, List.setIfInBounds_toArray, List.set_cons_zero, List.set_cons_succ]
          refine hK _ ?_; clear hK K
          refine wpMix_skip (by kernel_rfl) (fun K hK => ?_)
          simp only [Act.put, List.setIfInBounds_toArray, List.set_cons_zero, List.set_cons_succ]
          refine hK _ ?_; clear hK K
          refine wpMix_skip (by kernel_rfl) (fun K hK => ?_)
          simp only [Act.put, List.setIfInBounds_toArray, List.set_cons_zero, List.set_cons_succ]
          refine hK _ ?_; clear hK K
          refine wpMix_skip (by kernel_rfl) (fun K hK => ?_)
          simp only [Act.put, List.setIfInBounds_toArray, List.set_cons_zero, List.set_cons_succ]
          refine hK _ ?_; clear hK K
          refine wpMix_skip (by kernel_rfl) (fun K hK => ?_)
          simp only [Act.put, List.setIfInBounds_toArray, List.set_cons_zero, List.set_cons_succ]
          refine hK _ ?_; clear hK K
          refine wpMix_skip (by kernel_rfl) (fun K hK => ?_)
          simp only [Act.put, List.setIfInBounds_toArray, List.set_cons_zero, List.set_cons_succ]
          refine hK _ ?_; clear hK K
          refine wpMix_skip (by kernel_rfl) (fun K hK => ?_)
          simp only [Act.put, List.setIfInBounds_toArray, List.set_cons_zero, List.set_cons_succ]
          refine hK _ ?_; clear hK K
          refine wpMix_skip (by kernel_rfl) (fun K hK => ?_)
          simp only [Act.put, List.setIfInBounds_toArray, List.set_cons_zero, List.set_cons_succ]
          refine hK _ ?_; clear hK K
          refine wpMix_skip (by kernel_rfl) (fun K hK => ?_)
          simp only [Act.put, List.setIfInBounds_toArray, List.set_cons_zero, List.set_cons_succ]
          refine hK _ ?_; clear hK K
          refine wpMix_skip (by kernel_rfl) (fun K hK => ?_)
          simp only [Act.put, List.setIfInBounds_toArray, List.set_cons_zero, List.set_cons_succ]
          refine hK _ ?_; clear hK K
          refine wpMix_skip (by kernel_rfl) (fun K hK => ?_)
          simp only [Act.put, List.setIfInBounds_toArray, List.set_cons_zero, List.set_cons_succ]
          refine hK _ ?_; clear hK K
          refine wpMix_skip (by kernel_rfl) (fun K hK => ?_)
          simp only [Act.put, List.setIfInBounds_toArray, List.set_cons_zero, List.set_cons_succ]
          refine hK _ ?_; clear hK K
          refine wpMix_skip (by kernel_rfl) (fun K hK => ?_)
          simp only [Act.put, List.setIfInBounds_toArray, List.set_cons_zero, List.set_cons_succ]
          refine hK _ ?_; clear hK K
          refine wpMix_pure (by kernel_rfl) (fun K hK => ?_); go_big_quiet_op; refine hK _ ?_; clear hK K
          refine wpMix_nil ?_
          go_wp2
          go_ret
          exact ⟨ret_bool (by rw [incsB_bad hlt (by rw [incOk_succ hlt]; simp [*])]), hb.trans (hbr1S.mono hb.size)⟩
        · skip
          refine wpMix_pure (by kernel_rfl) (fun K hK => ?_); go_big_quiet_op; refine hK _ ?_; clear hK K
          refine wpMix_pure (by kernel_rfl) (fun K hK => ?_); go_big_quiet_op; refine hK _ ?_; clear hK K
          refine wpMix_pure (by kernel_rfl) (fun K hK => ?_); go_big_quiet_op; refine hK _ ?_; clear hK K
          refine wpMix_pure (by kernel_rfl) (fun K hK => ?_); go_big_quiet_op; refine hK _ ?_; clear hK K
          refine wpMix_pure (by kernel_rfl) (fun K hK => ?_); go_big_quiet_op; refine hK _ ?_; clear hK K
          refine wpMix_pure (by kernel_rfl) (fun K hK => ?_); go_big_quiet_op; refine hK _ ?_; clear hK K
          refine wpMix_pure (by kernel_rfl) (fun K hK => ?_); go_big_quiet_op; refine hK _ ?_; clear hK K
          refine wpMix_pure (by kernel_rfl) (fun K hK => ?_); go_big_quiet_op; refine hK _ ?_; clear hK K
          refine wpMix_pure (by kernel_rfl) (fun K hK => ?_); go_big_quiet_op; refine hK _ ?_; clear hK K
          refine wpMix_pure (by kernel_rfl) (fun K hK => ?_); go_big_quiet_op; refine hK _ ?_; clear hK K
          refine wpMix_pure (by kernel_rfl) (fun K hK => ?_); go_big_quiet_op; refine hK _ ?_; clear hK K
          refine wpMix_pure (by kernel_rfl) (fun K hK => ?_); go_big_quiet_op; refine hK _ ?_; clear hK K
          refine wpMix_act (by kernel_rfl) (fun K hK => ?_)
          go_big_op
          refine (l28Before_any _ _ _ _ _ _ _ (hpm.below hbr1S hplt) (hp.below hbr1S hplt)).mono ?_
          rintro e wr2 ⟨rfl, hbr2⟩
          have hbr2S : Below (wr.heap.size) wr wr2 := hbr1S.trans (hbr2.mono hbr1S.size)
          refine hK _ _ (regrown_of_below hbr2S) ?_
          clear hK K
          cases hq16 : befI xs[m] xs[m + 1]
          · skip
            refine wpMix_pure (by kernel_rfl) (fun K hK => ?_); go_big_quiet_op; refine hK _ ?_; clear hK K
            refine wpMix_pure (by kernel_rfl) (fun K hK => ?_); go_big_quiet_op; refine hK _ ?_; clear hK K
            refine wpMix_pure (by kernel_rfl) (fun K hK => ?_); go_big_quiet_op; refine hK _ ?_; clear hK K
            refine wpMix_nil ?_
            go_wp2
            go_ret
            exact ⟨ret_bool (by rw [incsB_bad hlt (by rw [incOk_succ hlt]; simp [*])]), hb.trans (hbr2S.mono hb.size)⟩
          · skip
            refine wpMix_pure (by kernel_rfl) (fun K hK => ?_); go_big_quiet_op; refine hK _ ?_; clear hK K
            refine wpMix_pure (by kernel_rfl) (fun K hK => ?_); go_big_quiet_op; refine hK _ ?_; clear hK K
            refine wpMix_pure (by kernel_rfl) (fun K hK => ?_); go_big_quiet_op; refine hK _ ?_; clear hK K
            refine wpMix_nil ?_
            go_wp2
            go_roundw
            case rel => exact ⟨m + 1 + 1, by omega, by go_num, allIdx_step H0.out (by rw [incOk_succ hlt]; simp [*]), hb.trans (hbr2S.mono hb.size)⟩
            case measure => simp [intOf]; omega
    · have HF := Lib.hid (allIdx_full (by omega) hk H0.out)
      by_cases hle : xs.length ≤ 48
      all_goals
        go_wp2
        go_ret
        exact ⟨ret_bool (by unfold incsB; rw [HF.out]; simp [hle] <;> omega), hb⟩
set_option maxRecDepth 100000 in
set_option maxHeartbeats 4000000 in
theorem ValidIncidents_any (v : Value) (xs : List DIncident) (fp : List Nat) (w : World) (hx : Sl fIncident.cod w v xs fp) :
    Calls Tryz.prog 63 #[v] w fun e w' => e = .returned (.bool (incsB xs)) ∧ Below w.heap.size w w' := by
  obtain ⟨A, cap, rfl, hlen, hcap⟩ := hx.form
  by_cases hle : xs.length ≤ 48
  · go_enter Tryz.func63, Tryz.ntmps63
    go_wp2
    go_loopw [10] (fun i wr => ∃ k : Nat, k ≤ xs.length ∧ i = .int .i64 k ∧ Hid (allIdx (incOk xs) k = true) ∧ Below w.heap.size w wr) (fun i _ => xs.length - (intOf i).toNat)
    case atStart => exact ⟨0, Nat.zero_le _, rfl, rfl, Below.refl _ _⟩
    case round =>
      obtain ⟨k, hk, rfl, H0, hb⟩ := hrel
      by_cases hlt : k < xs.length
      · rcases Nat.eq_zero_or_pos k with rfl | hpos
        · skip
          obtain ⟨b, off, rfl, _, hok, hp⟩ := PIncident.elem (hx.below' hb) hlt
          rw [Nat.zero_mul, Nat.add_zero] at hp
          obtain ⟨c0, c1, c2, c3, c4, c5⟩ := id hp
          go_wp2
          refine at_world (fun W => Below wr.heap.size wr W ∧ PIncident W wr.heap.size 0 xs[0]) ⟨(Below.refl _ _).alloc (Nat.le_refl _) _, PIncident.box wr xs[0] _⟩ ?_
          clear c0 c1 c2 c3 c4 c5
          rintro W ⟨hW, hpW⟩
          obtain ⟨c0, c1, c2, c3, c4, c5⟩ := id hpW
          have gc0 := cell_regrown c0
          have gc1 := cell_regrown c1
          have gc2 := cell_regrown c2
          have gc3 := cell_regrown c3
          have gc4 := cell_regrown c4
          have gc5 := cell_regrown c5
          refine wp_region_mix (C := fun w' => ∃ p : Regrown, w' = Go.Sort.grow (redrawn W p.d) p.os) [true, false, true, true, true, true, true, true, true, true, true, true, true, false, true, true, true] (by kernel_rfl) (by kernel_rfl) (by kernel_rfl) (fun _ _ d _ _ h => by cases d <;> exact h) (regrown_of_below (Below.drew (Below.refl _ _))) ?_
          have hS0 : Below (W.heap.size) W W.drew := Below.drew (Below.refl _ _)
          refine wpMix_pure (by kernel_rfl) (fun K hK => ?_); go_big_quiet_op; refine hK _ ?_; clear hK K
          refine wpMix_act (by kernel_rfl) (fun K hK => ?_)
          go_big_op
          refine (incValid_any xs[0] _ hok).mono ?_
          rintro e wr1 ⟨rfl, hbr1⟩
          have hbr1S : Below (W.heap.size) W wr1 := hS0.trans (hbr1.mono hS0.size)
          refine hK _ _ (regrown_of_below hbr1S) ?_
          clear hK K
          cases hq1 : incB xs[0]
          · skip
            refine wpMix_pure (by kernel_rfl) (fun K hK => ?_); go_big_quiet_op; refine hK _ ?_; clear hK K
            refine wpMix_pure (by kernel_rfl) (fun K hK => ?_); go_big_quiet_op; refine hK _ ?_; clear hK K
            refine wpMix_skip (by kernel_rfl) (fun K hK => ?_)
            simp only [Act.put, List.setIfInBounds_toArray, List.set_cons_zero, List.set_cons_succ]
            refine hK _ ?_; clear hK K
            refine wpMix_skip (by kernel_rfl) (fun K hK => ?_)
            simp only [Act.put, List.setIfInBounds_toArray, List.set_cons_zero, List.set_cons_succ]
            refine hK _ ?_; clear hK K
            refine wpMix_skip (by kernel_rfl) (fun K hK => ?_)
            simp only [Act.put, List.setIfInBounds_toArray, List.set_cons_zero, List.set_cons_succ]
            refine hK _ ?_; clear hK K
            refine wpMix_skip (by kernel_rfl) (fun K hK => ?_)
            simp only [Act.put, List.setIfInBounds_toArray, List.set_cons_zero, List.set_cons_succ]
            refine hK _ ?_; clear hK K
            refine wpMix_skip (by kernel_rfl) (fun K hK => ?_)
            simp only [Act.put, List.setIfInBounds_toArray, List.set_cons_zero, List.set_cons_succ]
            refine hK _ ?_; clear hK K
            refine wpMix_skip (by kernel_rfl) (fun K hK => ?_)
            simp only [Act.put, List.setIfInBounds_toArray, List.set_cons_zero, List.set_cons_succ]
            refine hK _ ?_; clear hK K
            refine wpMix_skip (by kernel_rfl) (fun K hK => ?_)
            simp only [Act.put, List.setIfInBounds_toArray, List.set_cons_zero, List.set_cons_succ]
            refine hK _ ?_; clear hK K
            refine wpMix_skip (by kernel_rfl) (fun K hK => ?_)
            simp only [Act.put, List.setIfInBounds_toArray, List.set_cons_zero, List.set_cons_succ]
            refine hK _ ?_; clear hK K
            refine wpMix_skip (by kernel_rfl) (fun K hK => ?_)
            simp only [Act.put, List.setIfInBounds_toArray, List.set_cons_zero, List.set_cons_succ]
            refine hK _ ?_; clear hK K
            refine wpMix_skip (by kernel_rfl) (fun K hK => ?_)
            simp only [Act.put, List.setIfInBounds_toArray, List.set_cons_zero, List.set_cons_succ]
            refine hK _ ?_; clear hK K
            refine wpMix_skip (by kernel_rfl) (fun K hK => ?_)
            simp only [Act.put, List.setIfInBounds_toArray, List.set_cons_zero, List.set_cons_succ]
            refine hK _ ?_; clear hK K
            refine wpMix_skip (by kernel_rfl) (fun K hK => ?_)
            simp only [Act.put, List.setIfInBounds_toArray, List.set_cons_zero, List.set_cons_succ]
            refine hK _ ?_; clear hK K
            refine wpMix_pure (by kernel_rfl) (fun K hK => ?_); go_big_quiet_op; refine hK _ ?_; clear hK K
            refine wpMix_nil ?_
            go_wp2
            go_ret
            exact ⟨ret_bool (by rw [incsB_bad hlt (by rw [incOk_zero hlt]; simp [*])]), hb.trans (hW.trans (hbr1S.mono hW.size) |>.mono hb.size)⟩
          · skip
            refine wpMix_pure (by kernel_rfl) (fun K hK => ?_); go_big_quiet_op; refine hK _ ?_; clear hK K
            refine wpMix_pure (by kernel_rfl) (fun K hK => ?_); go_big_quiet_op; refine hK _ ?_; clear hK K
            refine wpMix_pure (by kernel_rfl) (fun K hK => ?_); go_big_quiet_op; refine hK _ ?_; clear hK K
            refine wpMix_pure (by kernel_rfl) (fun K hK => ?_); go_big_quiet_op; refine hK _ ?_; clear hK K
            refine wpMix_pure (by kernel_rfl) (fun K hK => ?_); go_big_quiet_op; refine hK _ ?_; clear hK K
            refine wpMix_skip (by kernel_rfl) (fun K hK => ?_)
            simp only [Act.put, List.setIfInBounds_toArray, List.set_cons_zero, List.set_cons_succ]
            refine hK _ ?_; clear hK K
            refine wpMix_skip (by kernel_rfl) (fun K hK => ?_)
            simp only [Act.put, List.setIfInBounds_toArray, List.set_cons_zero, List.set_cons_succ]
            refine hK _ ?_; clear hK K
            refine wpMix_skip (by kernel_rfl) (fun K hK => ?_)
            simp only [Act.put, List.setIfInBounds_toArray, List.set_cons_zero, List.set_cons_succ]
            refine hK _ ?_; clear hK K
            refine wpMix_skip (by kernel_rfl) (fun K hK => ?_)
            simp only [Act.put, List.setIfInBounds_toArray, List.set_cons_zero, List.set_cons_succ]
            refine hK _ ?_; clear hK K
            refine wpMix_skip (by kernel_rfl) (fun K hK => ?_)
            simp only [Act.put, List.setIfInBounds_toArray, List.set_cons_zero, List.set_cons_succ]
            refine hK _ ?_; clear hK K
            refine wpMix_skip (by kernel_rfl) (fun K hK => ?_)
            simp only [Act.put, List.setIfInBounds_toArray, List.set_cons_zero, List.set_cons_succ]
            refine hK _ ?_; clear hK K
            refine wpMix_skip (by kernel_rfl) (fun K hK => ?_)
            simp only [Act.put, List.setIfInBounds_toArray, List.set_cons_zero, List.set_cons_succ]
            refine hK _ ?_; clear hK K
            refine wpMix_skip (by kernel_rfl) (fun K hK => ?_)
            simp only [Act.put, List.setIfInBounds_toArray, List.set_cons_zero, List.set_cons_succ]
            refine hK _ ?_; clear hK K
            refine wpMix_pure (by kernel_rfl) (fun K hK => ?_); go_big_quiet_op; refine hK _ ?_; clear hK K
            refine wpMix_pure (by kernel_rfl) (fun K hK => ?_); go_big_quiet_op; refine hK _ ?_; clear hK K
            refine wpMix_nil ?_
            go_wp2
            go_roundw
            case rel => exact ⟨0 + 1, by omega, by go_num, allIdx_step H0.out (by rw [incOk_zero hlt]; simp [*]), hb.trans (hW.trans (hbr1S.mono hW.size) |>.mono hb.size)⟩
            case measure => simp [intOf]; omega
        · obtain ⟨m, rfl⟩ : ∃ m, k = m + 1 := ⟨k - 1, by omega⟩
          have hm : m < xs.length := by omega
          obtain ⟨b, off, rfl, _, hok, hp⟩ := PIncident.elem (hx.below' hb) hlt
          skip
          obtain ⟨c0, c1, c2, c3, c4, c5⟩ := id hp
          obtain ⟨b1, off1, hA1, _, hokm, hpm⟩ := PIncident.elem (hx.below' hb) hm
          injection hA1 with hA1
          injection hA1 with hA1 hA2 _
          subst hA1 hA2
          go_wp2
          refine at_world (fun W => Below wr.heap.size wr W ∧ PIncident W wr.heap.size 0 xs[m + 1] ∧ PIncident W b (off + m * 6) xs[m]) ⟨(Below.refl _ _).alloc (Nat.le_refl _) _, PIncident.box wr xs[m + 1] _, hpm.below' ((Below.refl _ _).alloc (Nat.le_refl _) _)⟩ ?_
          clear c0 c1 c2 c3 c4 c5 hpm
          rintro W ⟨hW, hpW, hpm⟩
          obtain ⟨c0, c1, c2, c3, c4, c5⟩ := id hpW
          obtain ⟨d0, d1, d2, d3, d4, d5⟩ := id hpm
          have gc0 := cell_regrown c0
          have gc1 := cell_regrown c1
          have gc2 := cell_regrown c2
          have gc3 := cell_regrown c3
          have gc4 := cell_regrown c4
          have gc5 := cell_regrown c5
          have gd0 := cell_regrown d0
          have gd1 := cell_regrown d1
          have gd2 := cell_regrown d2
          have gd3 := cell_regrown d3
          have gd4 := cell_regrown d4
          have gd5 := cell_regrown d5
          refine wp_region_mix (C := fun w' => ∃ p : Regrown, w' = Go.Sort.grow (redrawn W p.d) p.os) [true, false, true, true, true, true, true, true, true, true, true, true, true, false, true, true, true] (by kernel_rfl) (by kernel_rfl) (by kernel_rfl) (fun _ _ d _ _ h => by cases d <;> exact h) (regrown_of_below (Below.drew (Below.refl _ _))) ?_
          have hS0 : Below (W.heap.size) W W.drew := Below.drew (Below.refl _ _)
          refine wpMix_pure (by kernel_rfl) (fun K hK => ?_); go_big_quiet_op; refine hK _ ?_; clear hK K
          refine wpMix_act (by kernel_rfl) (fun K hK => ?_)
          go_big_op
          refine (incValid_any xs[m + 1] _ hok).mono ?_
          rintro e wr1 ⟨rfl, hbr1⟩
          have hbr1S : Below (W.heap.size) W wr1 := hS0.trans (hbr1.mono hS0.size)
          refine hK _ _ (regrown_of_below hbr1S) ?_
          clear hK K
          cases hq1 : incB xs[m + 1]
          · skip
            refine wpMix_pure (by kernel_rfl) (fun K hK => ?_); go_big_quiet_op; refine hK _ ?_; clear hK K
            refine wpMix_pure (by kernel_rfl) (fun K hK => ?_); go_big_quiet_op; refine hK _ ?_; clear hK K
            refine wpMix_skip (by kernel_rfl) (fun K hK => ?_)
            simp only [Act.put, List.setIfInBounds_toArray, List.set_cons_zero, List.set_cons_succ]
            refine hK _ ?_; clear hK K
            refine wpMix_skip (by kernel_rfl) (fun K hK => ?_)
            simp only [Act.put, List.setIfInBounds_toArray, List.set_cons_zero, List.set_cons_succ]
            refine hK _ ?_; clear hK K
            refine wpMix_skip (by kernel_rfl) (fun K hK => ?_)
            simp only [Act.put, List.setIfInBounds_toArray, List.set_cons_zero, List.set_cons_succ]
            refine hK _ ?_; clear hK K
            refine wpMix_skip (by kernel_rfl) (fun K hK => ?_)
            simp only [Act.put, List.setIfInBounds_toArray, List.set_cons_zero, List.set_cons_succ]
            refine hK _ ?_; clear hK K
            refine wpMix_skip (by kernel_rfl) (fun K hK => ?_)
            simp only [Act.put, List.setIfInBounds_toArray, List.set_cons_zero, List.set_cons_succ]
            refine hK _ ?_; clear hK K
            refine wpMix_skip (by kernel_rfl) (fun K hK => ?_)
            simp only [Act.put, List.setIfInBounds_toArray, List.set_cons_zero, List.set_cons_succ]
            refine hK _ ?_; clear hK K
            refine wpMix_skip (by kernel_rfl) (fun K hK => ?_)
            simp only [Act.put, List.setIfInBounds_toArray, List.set_cons_zero, List.set_cons_succ]
            refine hK _ ?_; clear hK K
            refine wpMix_skip (by kernel_rfl) (fun K hK => ?_)
            simp only [Act.put, List.setIfInBounds_toArray, List.set_cons_zero, List.set_cons_succ]
            refine hK _ ?_; clear hK K
            refine wpMix_skip (by kernel_rfl) (fun K hK => ?_)
            simp only [Act.put, List.setIfInBounds_toArray, List.set_cons_zero, List.set_cons_succ]
            refine hK _ ?_; clear hK K
            refine wpMix_skip (by kernel_rfl) (fun K hK => ?_)
            simp only [Act.put, List.setIfInBounds_toArray, List.set_cons_zero, List.set_cons_succ]
            refine hK _ ?_; clear hK K
            refine wpMix_skip (by kernel_rfl) (fun K hK => ?_)
            simp only [Act.put, List.setIfInBounds_toArray, List.set_cons_zero, List.set_cons_succ]
            refine hK _ ?_; clear hK K
            refine wpMix_skip (by kernel_rfl) (fun K hK => ?_)
            simp only [Act.put, List.setIfInBounds_toArray, List.set_cons_zero, List.set_cons_succ]
            refine hK _ ?_; clear hK K
            refine wpMix_pure (by kernel_rfl) (fun K hK => ?_); go_big_quiet_op; refine hK _ ?_; clear hK K
            refine wpMix_nil ?_
            go_wp2
            go_ret
            exact ⟨ret_bool (by rw [incsB_bad hlt (by rw [incOk_succ hlt]; simp [*])]), hb.trans (hW.trans (hbr1S.mono hW.size) |>.mono hb.size)⟩
          · skip
            refine wpMix_pure (by kernel_rfl) (fun K hK => ?_); go_big_quiet_op; refine hK _ ?_; clear hK K
            refine wpMix_pure (by kernel_rfl) (fun K hK => ?_); go_big_quiet_op; refine hK _ ?_; clear hK K
            refine wpMix_pure (by kernel_rfl) (fun K hK => ?_); go_big_quiet_op; refine hK _ ?_; clear hK K
            refine wpMix_pure (by kernel_rfl) (fun K hK => ?_); go_big_quiet_op; refine hK _ ?_; clear hK K
            refine wpMix_pure (by kernel_rfl) (fun K hK => ?_); go_big_quiet_op; refine hK _ ?_; clear hK K
            refine wpMix_pure (by kernel_rfl) (fun K hK => ?_); go_big_quiet_op; refine hK _ ?_; clear hK K
            refine wpMix_pure (by kernel_rfl) (fun K hK => ?_); go_big_quiet_op; refine hK _ ?_; clear hK K
            refine wpMix_pure (by kernel_rfl) (fun K hK => ?_); go_big_quiet_op; refine hK _ ?_; clear hK K
            refine wpMix_pure (by kernel_rfl) (fun K hK => ?_); go_big_quiet_op; refine hK _ ?_; clear hK K
            refine wpMix_pure (by kernel_rfl) (fun K hK => ?_); go_big_quiet_op; refine hK _ ?_; clear hK K
            refine wpMix_pure (by kernel_rfl) (fun K hK => ?_); go_big_quiet_op; refine hK _ ?_; clear hK K
            refine wpMix_act (by kernel_rfl) (fun K hK => ?_)
            go_big_op
            refine (compareIncidents_any _ _ _).mono ?_
            rintro e wr2 ⟨rfl, hbr2⟩
            have hbr2S : Below (W.heap.size) W wr2 := hbr1S.trans (hbr2.mono hbr1S.size)
            refine hK _ _ (regrown_of_below hbr2S) ?_
            clear hK K
            by_cases hq14 : befI xs[m] xs[m + 1] = true
            · skip
              have hcm : cmpInc xs[m] xs[m + 1] < 0 := by have := cmpInc_lt xs[m] xs[m + 1]; rw [hq14] at this; simpa using this
              have e14 : decide (0 ≤ cmpInc xs[m] xs[m + 1]) = false := by simp; omega
              refine wpMix_pure (by kernel_rfl) (fun K hK => ?_); go_big_quiet_op; refine hK _ ?_; clear hK K
              refine wpMix_pure (by kernel_rfl) (fun K hK => ?_); go_big_quiet_op; refine hK _ ?_; clear hK K
              refine wpMix_pure (by kernel_rfl) (fun K hK => ?_); go_big_quiet_op; refine hK _ ?_; clear hK K
              refine wpMix_nil ?_
              go_wp2
              go_roundw
              case rel => exact ⟨m + 1 + 1, by omega, by go_num, allIdx_step H0.out (by rw [incOk_succ hlt]; simp [*]), hb.trans (hW.trans (hbr2S.mono hW.size) |>.mono hb.size)⟩
              case measure => simp [intOf]; omega
            · skip
              have hbf : befI xs[m] xs[m + 1] = false := by simpa using hq14
              have hcm : 0 ≤ cmpInc xs[m] xs[m + 1] := by have := cmpInc_lt xs[m] xs[m + 1]; rw [hbf] at this; simpa using this
              have e14 : decide (0 ≤ cmpInc xs[m] xs[m + 1]) = true := by simpa using hcm
              refine wpMix_pure (by kernel_rfl) (fun K hK => ?_); go_big_quiet_op; refine hK _ ?_; clear hK K
              refine wpMix_pure (by kernel_rfl) (fun K hK => ?_); go_big_quiet_op; refine hK _ ?_; clear hK K
              refine wpMix_pure (by kernel_rfl) (fun K hK => ?_); go_big_quiet_op; refine hK _ ?_; clear hK K
              refine wpMix_nil ?_
              go_wp2
              go_ret
              exact ⟨ret_bool (by rw [incsB_bad hlt (by rw [incOk_succ hlt]; simp [*])]), hb.trans (hW.trans (hbr2S.mono hW.size) |>.mono hb.size)⟩
      · have HF := Lib.hid (allIdx_full (by omega) hk H0.out)
        go_wp2
        go_ret
        exact ⟨ret_bool (by unfold incsB; rw [HF.out]; simp [hle]), hb⟩
  · go_enter Tryz.func63, Tryz.ntmps63
    go_wp2
    go_ret
    exact ⟨ret_bool (by unfold incsB; simp <;> omega), Below.refl _ _⟩

end Go.Proofs.YthabmofkjdiccaaGreatDoor

namespace Go.Proofs.YthabmofkjdiccaaGreatDoor
open Go.RowKit
set_option linter.unusedVariables false

/-- A row of the call's own that holds the list. -/
def OwnK {α : Type} (E : Flat α) (T : TypeId) (w : World) (xs : List α) (e : Ending) (w' : World) : Prop := ∃ v, e = .returned v ∧ Own E w' w.heap.size T v xs ∧ Below w.heap.size w w'
theorem rowp_ {cur A B : List Value} {n p j : Nat} {u : Value} (hct : cur.take n = A ++ B) (hA : A.length = p) (hu : B[j]? = some u) : cur[p + j]? = some u := by
  have hj : p + j < n := by
    have h1 : (A ++ B).length ≤ n := by rw [← hct, List.length_take]; omega
    rw [List.length_append] at h1
    have h2 : j < B.length := by
      rcases Nat.lt_or_ge j B.length with h | h
      · exact h
      · rw [List.getElem?_eq_none h] at hu; cases hu
    omega
  have h := congrArg (fun l : List Value => l[p + j]?) hct
  simp only [List.getElem?_take, if_pos hj] at h
  rw [h, List.getElem?_append_right (by omega), hA, Nat.add_sub_cancel_left]
  exact hu
theorem arr3_ (A : List Value) (X Y : Array Value) : (A ++ (X.toList ++ Y.toList)).toArray = A.toArray ++ X ++ Y := by
  apply Array.ext'; simp
theorem rowh_ {cur A B : List Value} {n j : Nat} {u : Value} (hct : cur.take n = A ++ B) (hu : A[j]? = some u) : cur[j]? = some u := by
  have h2 : j < A.length := by
    rcases Nat.lt_or_ge j A.length with h | h
    · exact h
    · rw [List.getElem?_eq_none h] at hu; cases hu
  have hj : j < n := by
    have h1 : (A ++ B).length ≤ n := by rw [← hct, List.length_take]; omega
    rw [List.length_append] at h1
    omega
  have h := congrArg (fun l : List Value => l[j]?) hct
  simp only [List.getElem?_take, if_pos hj] at h
  rw [h, List.getElem?_append_left h2]
  exact hu
theorem ownM_ {w : World} {base base' : Nat} {e : TypeId} {size : Nat} {v : Value} {n : Nat} {xs : List Value} (h : w.ownsRow base e size v n xs) (hb : base' ≤ base) : w.ownsRow base' e size v n xs := by
  obtain ⟨h1, h2⟩ := h
  refine ⟨h1, ?_⟩
  rcases h2 with h2 | ⟨g, cap, cur, hv, hg, r⟩
  · exact .inl h2
  · exact .inr ⟨g, cap, cur, hv, by omega, r⟩
theorem ownO_ {w : World} {base : Nat} {e : TypeId} {size : Nat} {v : Value} {n : Nat} {xs : List Value} (h : w.ownsRow base e size v n xs) (hn : 0 < n) :
    ∃ g cap, v = .slice (some ⟨g, 0, none⟩) n cap ∧ base ≤ g ∧ g < w.heap.size ∧ n ≤ cap ∧ cap ≤ 9223372036854775807 := by
  obtain ⟨h1, h2⟩ := h
  rcases h2 with ⟨_, h0⟩ | ⟨g, cap, cur, hv, hg, hh, hnc, hcm, _, _⟩
  · omega
  · refine ⟨g, cap, hv, hg, ?_, hnc, by unfold maxLen at hcm; exact hcm⟩
    rcases Nat.lt_or_ge g w.heap.size with hlt | hge
    · exact hlt
    · rw [Array.getElem?_eq_none hge] at hh; cases hh
/-- How many stand ahead. -/
def posF {α : Type} (p : α → Bool) (xs : List α) : Nat := (xs.takeWhile p).length
theorem posF_is {α : Type} (p : α → Bool) (xs : List α) (k : Nat) (hk : k ≤ xs.length) (h1 : ∀ m (h : m < xs.length), m < k → p xs[m] = true) (h2 : ∀ h : k < xs.length, p xs[k] = false) : posF p xs = k := by
  unfold posF
  induction xs generalizing k with
  | nil => simp at hk; subst hk; rfl
  | cons x xs ih =>
    cases k with
    | zero =>
      have := h2 (by simp)
      rw [List.takeWhile_cons, show p x = false from this]; rfl
    | succ k =>
      have h3 : p x = true := h1 0 (by simp) (by omega)
      rw [List.takeWhile_cons, h3, if_pos rfl, List.length_cons]
      congr 1
      refine ih k (by simpa using hk) (fun m h hm => ?_) (fun h => ?_)
      · have := h1 (m + 1) (by simpa using h) (by omega); simpa using this
      · have := h2 (by simpa using h); simpa using this
theorem posF_le {α : Type} (p : α → Bool) (xs : List α) : posF p xs ≤ xs.length := by
  unfold posF
  exact (List.takeWhile_prefix p).length_le
end Go.Proofs.YthabmofkjdiccaaGreatDoor

namespace Go.Proofs.YthabmofkjdiccaaGreatDoor
open Go.RowKit
set_option linter.unusedVariables false

def atIncident (xs : List DIncident) (t : DIncident) : Nat := posF (fun y => decide (cmpInc y t < 0)) xs
def hasIncident (xs : List DIncident) (t : DIncident) : Bool := match xs[atIncident xs t]? with | some y => cmpInc y t == 0 | none => false
set_option maxRecDepth 100000 in
set_option maxHeartbeats 4000000 in
theorem bsearchIncident_any (v : Value) (xs : List DIncident) (fp : List Nat) (t : DIncident) (w : World) (hx : Sl fIncident.cod w v xs fp) (hor : ∀ (a b : Nat) (hab : a ≤ b) (hb : b < xs.length), cmpInc xs[b] t < 0 → cmpInc (xs[a]'(by omega)) t < 0) (hl : xs.length ≤ 1000000) :
    Calls Tryz.prog 64 #[v, .agg #[.int .i64 t.day, .string t.place, .string t.cause, .int .i64 t.level, .int .i64 t.caught, .int .i64 t.buried], .func (.func 65) #[] #[]] w fun e w' => e = .returned (.tuple #[.int .i64 (atIncident xs t), .bool (hasIncident xs t)]) ∧ Below w.heap.size w w' := by
  obtain ⟨A, cap, rfl, hlen, hcap⟩ := hx.form
  have hpt := PIncident.box w t 48
  go_enter Tryz.func64, Tryz.ntmps64
  go_wp2
  refine at_world (fun W => Below w.heap.size w W ∧ PIncident W w.heap.size 0 t) ⟨(by repeat (first | exact Below.refl _ _ | assumption | refine Below.alloc ?_ (by first | omega | (simp <;> omega)) _ | refine Below.setCell ?_ (by first | (show _ ≤ _; omega) | (simp <;> omega)) _ | refine Below.drew ?_ | refine below_drewN ?_ _)), hpt⟩ ?_
  clear hpt
  rintro W0 ⟨hW0, hpt⟩
  go_loopw [9, 10] (fun i j wr => ∃ a b : Nat, a ≤ b ∧ b ≤ xs.length ∧ i = .int .i64 a ∧ j = .int .i64 b ∧ Hid (∀ m (h : m < xs.length), m < a → cmpInc xs[m] t < 0) ∧ Hid (∀ m (h : m < xs.length), b ≤ m → 0 ≤ cmpInc xs[m] t) ∧ Below w.heap.size w wr ∧ PIncident wr w.heap.size 0 t) (fun i j _ => (intOf j).toNat - (intOf i).toNat)
  case atStart => exact ⟨0, xs.length, Nat.zero_le _, Nat.le_refl _, rfl, rfl, fun m _ h => absurd h (Nat.not_lt_zero _), fun m h1 h2 => absurd h1 (by omega), hW0, hpt⟩
  case round =>
    obtain ⟨a, b, hab, hbn, rfl, rfl, HA, HB, hb, hp⟩ := hrel
    clear hpt hW0
    by_cases hlt : a < b
    · obtain ⟨m, hm⟩ : ∃ m, m = (a + b) / 2 := ⟨_, rfl⟩
      have em : ((a : Int) + (b : Int)) / 2 = (m : Int) := by omega
      have hmn : m < xs.length := by omega
      have hmb : m < b := by omega
      have ham : a ≤ m := by omega
      clear hm
      obtain ⟨b1, off, rfl, _, hok, hpm⟩ := PIncident.elem (hx.below' hb) hmn
      obtain ⟨c0, c1, c2, c3, c4, c5⟩ := id hpm
      obtain ⟨d0, d1, d2, d3, d4, d5⟩ := id hp
      by_cases hq : cmpInc xs[m] t < 0
      · have e14 : decide (cmpInc xs[m] t < 0) = true := decide_eq_true hq
        go_wp2
        have gc0 := cell_regrown c0
        have gc1 := cell_regrown c1
        have gc2 := cell_regrown c2
        have gc3 := cell_regrown c3
        have gc4 := cell_regrown c4
        have gc5 := cell_regrown c5
        have gd0 := cell_regrown d0
        have gd1 := cell_regrown d1
        have gd2 := cell_regrown d2
        have gd3 := cell_regrown d3
        have gd4 := cell_regrown d4
        have gd5 := cell_regrown d5
        refine wp_region_mix (C := fun w' => ∃ p : Regrown, w' = Go.Sort.grow (redrawn wr p.d) p.os) [true, true, true, true, true, true, false, true] (by kernel_rfl) (by kernel_rfl) (by kernel_rfl) (fun _ _ d _ _ h => by cases d <;> exact h) (regrown_of_below (Below.drew (Below.refl _ _))) ?_
        have hS0 : Below (wr.heap.size) wr wr.drew := Below.drew (Below.refl _ _)
        refine wpMix_pure (by kernel_rfl) (fun K hK => ?_); go_big_quiet_op; refine hK _ ?_; clear hK K
        refine wpMix_pure (by kernel_rfl) (fun K hK => ?_); go_big_quiet_op; refine hK _ ?_; clear hK K
        refine wpMix_pure (by kernel_rfl) (fun K hK => ?_); go_big_quiet_op; refine hK _ ?_; clear hK K
        refine wpMix_pure (by kernel_rfl) (fun K hK => ?_); go_big_quiet_op; refine hK _ ?_; clear hK K
        refine wpMix_pure (by kernel_rfl) (fun K hK => ?_); go_big_quiet_op; refine hK _ ?_; clear hK K
        refine wpMix_pure (by kernel_rfl) (fun K hK => ?_); go_big_quiet_op; refine hK _ ?_; clear hK K
        refine wpMix_act (by kernel_rfl) (fun K hK => ?_)
        go_big_op
        refine (compareIncidents_any _ _ _).mono ?_
        rintro e wr1 ⟨rfl, hbr1⟩
        have hbr1S : Below (wr.heap.size) wr wr1 := hS0.trans (hbr1.mono hS0.size)
        refine hK _ _ (regrown_of_below hbr1S) ?_
        clear hK K
        refine wpMix_pure (by kernel_rfl) (fun K hK => ?_); go_big_quiet_op; refine hK _ ?_; clear hK K
        refine wpMix_nil ?_
        have HA2 : Hid (∀ i (h : i < xs.length), i < m + 1 → cmpInc xs[i] t < 0) := fun i h him => hor i m (by omega) hmn hq
        clear HA hq
        go_wp2
        go_roundw
        case rel => exact ⟨m + 1, b, by omega, hbn, by go_num, rfl, HA2, HB, hb.trans (hbr1S.mono hb.size), hp.below' hbr1S⟩
        case measure => simp [intOf]; omega
      · have e14 : decide (cmpInc xs[m] t < 0) = false := decide_eq_false hq
        go_wp2
        have gc0 := cell_regrown c0
        have gc1 := cell_regrown c1
        have gc2 := cell_regrown c2
        have gc3 := cell_regrown c3
        have gc4 := cell_regrown c4
        have gc5 := cell_regrown c5
        have gd0 := cell_regrown d0
        have gd1 := cell_regrown d1
        have gd2 := cell_regrown d2
        have gd3 := cell_regrown d3
        have gd4 := cell_regrown d4
        have gd5 := cell_regrown d5
        refine wp_region_mix (C := fun w' => ∃ p : Regrown, w' = Go.Sort.grow (redrawn wr p.d) p.os) [true, true, true, true, true, true, false, true] (by kernel_rfl) (by kernel_rfl) (by kernel_rfl) (fun _ _ d _ _ h => by cases d <;> exact h) (regrown_of_below (Below.drew (Below.refl _ _))) ?_
        have hS0 : Below (wr.heap.size) wr wr.drew := Below.drew (Below.refl _ _)
        refine wpMix_pure (by kernel_rfl) (fun K hK => ?_); go_big_quiet_op; refine hK _ ?_; clear hK K
        refine wpMix_pure (by kernel_rfl) (fun K hK => ?_); go_big_quiet_op; refine hK _ ?_; clear hK K
        refine wpMix_pure (by kernel_rfl) (fun K hK => ?_); go_big_quiet_op; refine hK _ ?_; clear hK K
        refine wpMix_pure (by kernel_rfl) (fun K hK => ?_); go_big_quiet_op; refine hK _ ?_; clear hK K
        refine wpMix_pure (by kernel_rfl) (fun K hK => ?_); go_big_quiet_op; refine hK _ ?_; clear hK K
        refine wpMix_pure (by kernel_rfl) (fun K hK => ?_); go_big_quiet_op; refine hK _ ?_; clear hK K
        refine wpMix_act (by kernel_rfl) (fun K hK => ?_)
        go_big_op
        refine (compareIncidents_any _ _ _).mono ?_
        rintro e wr1 ⟨rfl, hbr1⟩
        have hbr1S : Below (wr.heap.size) wr wr1 := hS0.trans (hbr1.mono hS0.size)
        refine hK _ _ (regrown_of_below hbr1S) ?_
        clear hK K
        refine wpMix_pure (by kernel_rfl) (fun K hK => ?_); go_big_quiet_op; refine hK _ ?_; clear hK K
        refine wpMix_nil ?_
        have HB2 : Hid (∀ i (h : i < xs.length), m ≤ i → 0 ≤ cmpInc xs[i] t) := fun i h him => by rcases Int.lt_or_le (cmpInc xs[i] t) 0 with hc | hc; exact absurd (hor m i him h hc) (by omega); exact hc
        clear HB hq
        go_wp2
        go_roundw
        case rel => exact ⟨a, m, ham, by omega, rfl, by go_num, HA, HB2, hb.trans (hbr1S.mono hb.size), hp.below' hbr1S⟩
        case measure => simp [intOf]; omega
    · obtain rfl : b = a := by omega
      have HAT : Hid (atIncident xs t = b) := posF_is _ xs b hbn (fun m h1 h2 => decide_eq_true (HA.out m h1 h2)) (fun h => decide_eq_false (by have := HB.out b h (Nat.le_refl _); omega))
      obtain ⟨d0, d1, d2, d3, d4, d5⟩ := id hp
      by_cases hlt2 : b < xs.length
      · obtain ⟨b1, off, rfl, _, hok, hpm⟩ := PIncident.elem (hx.below' hb) hlt2
        obtain ⟨c0, c1, c2, c3, c4, c5⟩ := id hpm
        have HK : Hid (hasIncident xs t = (cmpInc xs[b] t == 0)) := by
          show hasIncident xs t = _
          unfold hasIncident
          rw [HAT.out, List.getElem?_eq_getElem hlt2]
        go_wp2
        have gc0 := cell_regrown c0
        have gc1 := cell_regrown c1
        have gc2 := cell_regrown c2
        have gc3 := cell_regrown c3
        have gc4 := cell_regrown c4
        have gc5 := cell_regrown c5
        have gd0 := cell_regrown d0
        have gd1 := cell_regrown d1
        have gd2 := cell_regrown d2
        have gd3 := cell_regrown d3
        have gd4 := cell_regrown d4
        have gd5 := cell_regrown d5
        refine wp_region_mix (C := fun w' => ∃ p : Regrown, w' = Go.Sort.grow (redrawn wr p.d) p.os) [true, true, true, true, true, true, true, true, true, true, true, false, true, true, true, true] (by kernel_rfl) (by kernel_rfl) (by kernel_rfl) (fun _ _ d _ _ h => by cases d <;> exact h) (regrown_of_below (Below.drew (Below.refl _ _))) ?_
        have hS0 : Below (wr.heap.size) wr wr.drew := Below.drew (Below.refl _ _)
        refine wpMix_pure (by kernel_rfl) (fun K hK => ?_); go_big_quiet_op; refine hK _ ?_; clear hK K
        refine wpMix_pure (by kernel_rfl) (fun K hK => ?_); go_big_quiet_op; refine hK _ ?_; clear hK K
        refine wpMix_pure (by kernel_rfl) (fun K hK => ?_); go_big_quiet_op; refine hK _ ?_; clear hK K
        refine wpMix_pure (by kernel_rfl) (fun K hK => ?_); go_big_quiet_op; refine hK _ ?_; clear hK K
        refine wpMix_pure (by kernel_rfl) (fun K hK => ?_); go_big_quiet_op; refine hK _ ?_; clear hK K
        refine wpMix_pure (by kernel_rfl) (fun K hK => ?_); go_big_quiet_op; refine hK _ ?_; clear hK K
        refine wpMix_pure (by kernel_rfl) (fun K hK => ?_); go_big_quiet_op; refine hK _ ?_; clear hK K
        refine wpMix_pure (by kernel_rfl) (fun K hK => ?_); go_big_quiet_op; refine hK _ ?_; clear hK K
        refine wpMix_pure (by kernel_rfl) (fun K hK => ?_); go_big_quiet_op; refine hK _ ?_; clear hK K
        refine wpMix_pure (by kernel_rfl) (fun K hK => ?_); go_big_quiet_op; refine hK _ ?_; clear hK K
        refine wpMix_pure (by kernel_rfl) (fun K hK => ?_); go_big_quiet_op; refine hK _ ?_; clear hK K
        refine wpMix_act (by kernel_rfl) (fun K hK => ?_)
        go_big_op
        refine (compareIncidents_any _ _ _).mono ?_
        rintro e wr1 ⟨rfl, hbr1⟩
        have hbr1S : Below (wr.heap.size) wr wr1 := hS0.trans (hbr1.mono hS0.size)
        refine hK _ _ (regrown_of_below hbr1S) ?_
        clear hK K
        refine wpMix_pure (by kernel_rfl) (fun K hK => ?_); go_big_quiet_op; refine hK _ ?_; clear hK K
        refine wpMix_pure (by kernel_rfl) (fun K hK => ?_); go_big_quiet_op; refine hK _ ?_; clear hK K
        refine wpMix_pure (by kernel_rfl) (fun K hK => ?_); go_big_quiet_op; refine hK _ ?_; clear hK K
        refine wpMix_pure (by kernel_rfl) (fun K hK => ?_); go_big_quiet_op; refine hK _ ?_; clear hK K
        refine wpMix_nil ?_
        go_wp2
        go_ret2
        exact ⟨by rw [HAT.out, HK.out]; first | rfl | simp [*], hb.trans (hbr1S.mono hb.size)⟩
      · have HK : Hid (hasIncident xs t = false) := by
          show hasIncident xs t = _
          unfold hasIncident
          rw [HAT.out, List.getElem?_eq_none (by omega)]
        go_wp2
        refine wp_region_mix (C := fun w' => ∃ p : Regrown, w' = Go.Sort.grow (redrawn wr p.d) p.os) [true, true, true, true, true, true, true, true, true, true, true, false, true, true, true, true] (by kernel_rfl) (by kernel_rfl) (by kernel_rfl) (fun _ _ d _ _ h => by cases d <;> exact h) (regrown_of_below (Below.drew (Below.refl _ _))) ?_
        have hS0 : Below (wr.heap.size) wr wr.drew := Below.drew (Below.refl _ _)
        refine wpMix_pure (by kernel_rfl) (fun K hK => ?_); go_big_quiet_op; refine hK _ ?_; clear hK K
        refine wpMix_pure (by kernel_rfl) (fun K hK => ?_); go_big_quiet_op; refine hK _ ?_; clear hK K
        refine wpMix_pure (by kernel_rfl) (fun K hK => ?_); go_big_quiet_op; refine hK _ ?_; clear hK K
        refine wpMix_pure (by kernel_rfl) (fun K hK => ?_); go_big_quiet_op; refine hK _ ?_; clear hK K
        refine wpMix_pure (by kernel_rfl) (fun K hK => ?_); go_big_quiet_op; refine hK _ ?_; clear hK K
        refine wpMix_skip (by kernel_rfl) (fun K hK => ?_)
        simp only [Act.put, List.setIfInBounds_toArray, List.set_cons_zero, List.set_cons_succ]
        refine hK _ ?_; clear hK K
        refine wpMix_skip (by kernel_rfl) (fun K hK => ?_)
        simp only [Act.put, List.setIfInBounds_toArray, List.set_cons_zero, List.set_cons_succ]
        refine hK _ ?_; clear hK K
        refine wpMix_skip (by kernel_rfl) (fun K hK => ?_)
        simp only [Act.put, List.setIfInBounds_toArray, List.set_cons_zero, List.set_cons_succ]
        refine hK _ ?_; clear hK K
        refine wpMix_skip (by kernel_rfl) (fun K hK => ?_)
        simp only [Act.put, List.setIfInBounds_toArray, List.set_cons_zero, List.set_cons_succ]
        refine hK _ ?_; clear hK K
        refine wpMix_skip (by kernel_rfl) (fun K hK => ?_)
        simp only [Act.put, List.setIfInBounds_toArray, List.set_cons_zero, List.set_cons_succ]
        refine hK _ ?_; clear hK K
        refine wpMix_skip (by kernel_rfl) (fun K hK => ?_)
        simp only [Act.put, List.setIfInBounds_toArray, List.set_cons_zero, List.set_cons_succ]
        refine hK _ ?_; clear hK K
        refine wpMix_skip (by kernel_rfl) (fun K hK => ?_)
        simp only [Act.put, List.setIfInBounds_toArray, List.set_cons_zero, List.set_cons_succ]
        refine hK _ ?_; clear hK K
        refine wpMix_skip (by kernel_rfl) (fun K hK => ?_)
        simp only [Act.put, List.setIfInBounds_toArray, List.set_cons_zero, List.set_cons_succ]
        refine hK _ ?_; clear hK K
        refine wpMix_pure (by kernel_rfl) (fun K hK => ?_); go_big_quiet_op; refine hK _ ?_; clear hK K
        refine wpMix_pure (by kernel_rfl) (fun K hK => ?_); go_big_quiet_op; refine hK _ ?_; clear hK K
        refine wpMix_pure (by kernel_rfl) (fun K hK => ?_); go_big_quiet_op; refine hK _ ?_; clear hK K
        refine wpMix_nil ?_
        go_wp2
        go_ret2
        exact ⟨by rw [HAT.out, HK.out]; first | rfl | simp [*], hb.trans (hS0.mono hb.size)⟩

end Go.Proofs.YthabmofkjdiccaaGreatDoor

namespace Go.Proofs.YthabmofkjdiccaaGreatDoor
open Go.RowKit
set_option linter.unusedVariables false

theorem infoIncidentK : (Tryz.prog.info? 48).map (fun i => (i.zero, i.size, i.bytes)) = some (some (.agg #[.int .i64 0, .string ⟨#[]⟩, .string ⟨#[]⟩, .int .i64 0, .int .i64 0, .int .i64 0]), 6, 64) := by kernel_rfl
set_option maxRecDepth 100000 in
set_option maxHeartbeats 1000000 in
theorem cloneIncident_any (v : Value) (xs : List DIncident) (fp : List Nat) (w : World) (hx : Sl fIncident.cod w v xs fp) (hl : xs.length ≤ 1000000) :
    Calls Tryz.prog 68 #[v] w fun e w' => OwnK fIncident 48 w xs e w' := by
  obtain ⟨A, cap, rfl, hlen, hcap⟩ := hx.form
  obtain ⟨i0, hi, hz0, hz1, hz2⟩ := info_parts infoIncidentK
  have hsrc := (hx.below' ((Below.refl _ _).alloc (Nat.le_refl _) (.cells #[] 48))).src
  have ho := Own.lit0 fIncident w 48
  have hb0 : Below w.heap.size w (w.alloc (.cells #[] 48)) := (Below.refl _ _).alloc (Nat.le_refl _) _
  have hs2 := hb0.size
  have q22 : ∀ (w : World) (a : Option Addr) (n c n' c' : Nat), (binOp .eql 46 (.slice a n c) (.slice none n' c')).run Tryz.prog w = .ok (.bool a.isNone) w := fun w a n c n' c' => Lib.run_eql_slice_nil w _ _ a n c n' c' Tryz.underlying46
  cases A with
  | none =>
    have hnil : xs = [] := by
      rcases Nat.eq_zero_or_pos xs.length with h0 | h0
      · exact List.eq_nil_of_length_eq_zero h0
      · obtain ⟨b, off, hA, _⟩ := hx.cells h0
        cases hA
    subst hnil
    go_enter Tryz.func68, Tryz.ntmps68
    go_wp2
    go_ret
    exact ⟨_, rfl, Own.nil _ _ _ _, Below.refl _ _⟩
  | some ad =>
    go_enter Tryz.func68, Tryz.ntmps68
    go_wp2_with (at_builtin; refine wpList_append_src (E := fIncident) rfl _ _ 46 rfl w.heap.size 48 i0 (.agg #[.int .i64 0, .string ⟨#[]⟩, .string ⟨#[]⟩, .int .i64 0, .int .i64 0, .int .i64 0]) 64 Tryz.underlying46 hi hz0 hz1 hz2 rfl (.slice (some ⟨w.heap.size, 0, none⟩) 0 0) [] rfl ho _ xs rfl hsrc (by simp; omega) (by decide) hs2 ?_)
    intro v' u hown hbu
    try rw [List.nil_append] at hown
    go_wp2
    go_ret
    exact ⟨_, rfl, hown, hb0.trans hbu⟩
theorem insert_rowIncident {cur A t B : List Value} {at_ n cap : Nat} (hlt : at_ < n) (hroom : n < cap) (hcl : cur.length = cap * 6) (hct : cur.take (n * 6) = A ++ B) (hA : A.length = at_ * 6) (hB : B.length = (n - at_) * 6) (ht : t.length = 6) :
    (splice (splice cur ((at_ + 1) * 6) B) (at_ * 6) t).length = cap * 6 ∧ (splice (splice cur ((at_ + 1) * 6) B) (at_ * 6) t).take ((n + 1) * 6) = A ++ (t ++ B) := by
  have e1 : (at_ + 1) * 6 = at_ * 6 + 6 := by omega
  have e2 : (n + 1) * 6 = at_ * 6 + 6 + (n - at_) * 6 := by omega
  have e3 : n * 6 = at_ * 6 + (n - at_) * 6 := by omega
  rw [e3] at hct
  have h1 : (splice cur (at_ * 6 + 6) B).length = cur.length := length_splice _ _ _ (by omega)
  rw [e1, e2]
  exact ⟨by rw [length_splice _ _ _ (by omega), h1, hcl], splice_shift hct hA hB ht (by omega)⟩
theorem fill_rowIncident {cur A t B : List Value} {at_ n cap : Nat} (hlt : at_ < n) (hroom : n < cap) (hcl : cur.length = cap * 6) (hct : cur.take (at_ * 6) = A) (hA : A.length = at_ * 6) (hB : B.length = (n - at_) * 6) (ht : t.length = 6) :
    (splice (splice cur (at_ * 6) t) ((at_ + 1) * 6) B).length = cap * 6 ∧ (splice (splice cur (at_ * 6) t) ((at_ + 1) * 6) B).take ((n + 1) * 6) = A ++ (t ++ B) := by
  have e1 : (at_ + 1) * 6 = at_ * 6 + 6 := by omega
  have e2 : (n + 1) * 6 = at_ * 6 + 6 + (n - at_) * 6 := by omega
  have h1 : (splice cur (at_ * 6) t).length = cur.length := length_splice _ _ _ (by omega)
  rw [e1, e2]
  exact ⟨by rw [length_splice _ _ _ (by omega), h1, hcl], splice_fill hct hA hB ht (by omega)⟩
set_option maxRecDepth 100000 in
set_option maxHeartbeats 2000000 in
/-- Put in at the end: an append. -/
theorem insertIncident_end (v : Value) (xs : List DIncident) (t : DIncident) (nb base : Nat) (w : World) (hown : Own fIncident w base 48 v xs) (hs : Src fIncident w (.slice (some ⟨nb, 0, none⟩) 1 1) [t]) (hl : xs.length ≤ 1000000) (hbase : base ≤ w.heap.size) :
    Calls Tryz.prog 67 #[v, .int .i64 xs.length, .slice (some ⟨nb, 0, none⟩) 1 1] w fun e w' => ∃ v', e = .returned v' ∧ Own fIncident w' base 48 v' (xs ++ [t]) ∧ Below base w w' := by
  obtain ⟨i0, hi, hz0, hz1, hz2⟩ := info_parts infoIncidentK
  rcases Nat.eq_zero_or_pos xs.length with h0 | h0
  · obtain rfl := List.eq_nil_of_length_eq_zero h0
    have hF : ∃ A cap, v = .slice A 0 cap := by
      obtain ⟨h1, h2⟩ := hown
      rcases h2 with ⟨hv, _⟩ | ⟨g, cap, cur, hv, _⟩
      · exact ⟨_, _, hv⟩
      · exact ⟨_, _, hv⟩
    obtain ⟨A, cap, rfl⟩ := hF
    go_enter Tryz.func67, Tryz.ntmps67
    go_wp2_with (at_builtin; refine wpList_append_src (E := fIncident) rfl _ _ 46 rfl base 48 i0 (.agg #[.int .i64 0, .string ⟨#[]⟩, .string ⟨#[]⟩, .int .i64 0, .int .i64 0, .int .i64 0]) 64 Tryz.underlying46 hi hz0 hz1 hz2 rfl _ [] rfl hown _ [t] rfl hs (by simp <;> omega) (by decide) hbase ?_)
    all_goals
      intro v' u hown' hbu
      go_wp2
      go_ret
      exact ⟨_, rfl, hown', hbu⟩
  · have hown' : w.ownsRow base 48 6 v xs.length (xs.flatMap fIncident.enc) := hown
    obtain ⟨g, cap, rfl, hg, hgw, hc1, hc2⟩ := ownO_ hown' h0
    clear hown'
    go_enter Tryz.func67, Tryz.ntmps67
    go_wp2_with (at_builtin; refine wpList_append_src (E := fIncident) rfl _ _ 46 rfl base 48 i0 (.agg #[.int .i64 0, .string ⟨#[]⟩, .string ⟨#[]⟩, .int .i64 0, .int .i64 0, .int .i64 0]) 64 Tryz.underlying46 hi hz0 hz1 hz2 rfl _ xs rfl hown _ [t] rfl hs (by simp <;> omega) (by decide) hbase ?_)
    all_goals
      intro v' u hown' hbu
      go_wp2
      go_ret
      exact ⟨_, rfl, hown', hbu⟩
set_option maxRecDepth 100000 in
set_option maxHeartbeats 4000000 in
/-- Put in ahead of others. -/
theorem insertIncident_mid (xs : List DIncident) (t : DIncident) (g cap at_ nb base : Nat) (w : World) (hown : w.ownsRow base 48 6 (.slice (some ⟨g, 0, none⟩) xs.length cap) xs.length (xs.flatMap fIncident.enc)) (hlt : at_ < xs.length)
    (hnb : w.heap[nb]? = some (.cells #[.int .i64 t.day, .string t.place, .string t.cause, .int .i64 t.level, .int .i64 t.caught, .int .i64 t.buried] 48 (0, 0))) (hne : nb ≠ g) (hl : xs.length ≤ 1000000) (hbase : base ≤ w.heap.size) :
    Calls Tryz.prog 67 #[.slice (some ⟨g, 0, none⟩) xs.length cap, .int .i64 at_, .slice (some ⟨nb, 0, none⟩) 1 1] w fun e w' => ∃ v', e = .returned v' ∧ Own fIncident w' base 48 v' (xs.take at_ ++ t :: xs.drop at_) ∧ Below base w w' := by
  obtain ⟨i0, hi, hz0, hz1, hz2⟩ := info_parts infoIncidentK
  have hsz : (Tryz.prog.info? 48).map (·.size) = some 6 := by rw [hi]; simp [hz1]
  have hszf : ∀ w : World, (Go.sizeOf 48).run Tryz.prog w = .ok 6 w := fun w => by simp [sizeOf, typeInfo, hi, hz1]
  obtain ⟨cur, hrow, hcl, hct, hc1, hc2, hg⟩ := own_row hown
  unfold maxLen at hc2
  obtain ⟨A, hA⟩ : ∃ A, A = (xs.take at_).flatMap fIncident.enc := ⟨_, rfl⟩
  obtain ⟨B, hB⟩ : ∃ B, B = (xs.drop at_).flatMap fIncident.enc := ⟨_, rfl⟩
  have hAB : xs.flatMap fIncident.enc = A ++ B := by rw [hA, hB, ← List.flatMap_append, List.take_append_drop]
  have hAl : A.length = at_ * 6 := by rw [hA, flat_len fIncident.enc 6 _ (fun x _ => fIncident.len x)]; simp; omega
  have hBl : B.length = (xs.length - at_) * 6 := by rw [hB, flat_len fIncident.enc 6 _ (fun x _ => fIncident.len x)]; simp
  have hBone : ∀ u ∈ B, u.oneCell' = true := fun u hu => by
    rw [hB] at hu
    obtain ⟨y, _, hy⟩ := List.mem_flatMap.1 hu
    exact fIncident.one y u hy
  have HE := Lib.hid (show (xs.take at_ ++ t :: xs.drop at_).flatMap fIncident.enc = A ++ (fIncident.enc t ++ B) by rw [List.flatMap_append, List.flatMap_cons, hA, hB])
  have HL := Lib.hid (show (xs.take at_ ++ t :: xs.drop at_).length = xs.length + 1 by simp; omega)
  rw [hAB] at hct
  have htl : (fIncident.enc t).length = 6 := fIncident.len t
  have htone : ∀ u ∈ fIncident.enc t, u.oneCell' = true := fIncident.one t
  have hnw : nb < w.heap.size := by
    rcases Nat.lt_or_ge nb w.heap.size with h | h
    · exact h
    · rw [Array.getElem?_eq_none h] at hnb; cases hnb
  have hgw : g < w.heap.size := by
    rcases Nat.lt_or_ge g w.heap.size with h | h
    · exact h
    · rw [Array.getElem?_eq_none h] at hrow; cases hrow
  have hsrcT : ∀ W : World, W.heap[nb]? = w.heap[nb]? → ∀ (j : Nat) u, (fIncident.enc t)[j]? = some u → W.cell? ((⟨nb, 0, none⟩ : Addr).add j) = some u := fun W hW j u hu => by
    rw [addr_add, World.cell?, hW, hnb]
    simpa [fIncident] using hu
  have hov : ∀ off lb cb, (callFunc 101 #[.slice (some ⟨nb, 0, none⟩) 1 1, .slice (some ⟨g, off, none⟩) lb cb]).run Tryz.prog w = .ok (.value (.bool false)) w := fun off lb cb => by
    rw [run_callFunc_extern Tryz.func101 (by kernel_rfl) (by kernel_rfl) (by kernel_rfl) (e := Extern.SlicesOverlaps.overlaps #[46, 46] #[4]) (by kernel_rfl),
      Lib.run_overlaps_apart w 46 4 48 Tryz.underlying46 6 hszf ⟨nb, 0, none⟩ ⟨g, off, none⟩ 1 1 lb cb hne 48 48 6 cur.length (by simp [World.shape?, hnb]) (by simp [World.shape?, hrow]) (by omega) (by simp [World.frozen?, hnb]) (by simp [World.frozen?, hnb])]
    rfl
  generalize xs.length = n at *
  have e1 : ((at_ : Int) == (n : Int)) = false := by rw [beq_eq_false_iff_ne]; omega
  clear hown hA hB hAB hnb
  rcases Nat.lt_or_ge n cap with hroom | hroom
  · have hsrcB : ∀ (j : Nat) u, B[j]? = some u → w.drew.cell? ((⟨g, at_ * 6, none⟩ : Addr).add j) = some u := fun j u hu => by
      rw [addr_add]
      exact (row_cell hrow _).trans (rowp_ hct hAl hu)
    obtain ⟨hRl, hRt⟩ := insert_rowIncident hlt hroom hcl hct hAl hBl htl
    clear hi hz0
    go_enter Tryz.func67, Tryz.ntmps67
    go_wp2_with (simp only [hov])
    refine wp_region_mix (C := fun _ => True) [true, true, true, true, true, true, true, true, false] (by kernel_rfl) (by kernel_rfl) (by kernel_rfl) (fun _ _ d _ _ h => by cases d <;> exact h) trivial ?_
    have hS0 : Below (w.heap.size) w w.drew := Below.drew (Below.refl _ _)
    refine wpMix_pure (by kernel_rfl) (fun K hK => ?_); go_big_quiet_op; refine hK _ ?_; clear hK K
    refine wpMix_pure (by kernel_rfl) (fun K hK => ?_); go_big_quiet_op; refine hK _ ?_; clear hK K
    refine wpMix_pure (by kernel_rfl) (fun K hK => ?_); go_big_quiet_op; refine hK _ ?_; clear hK K
    refine wpMix_pure (by kernel_rfl) (fun K hK => ?_); go_big_quiet_op; refine hK _ ?_; clear hK K
    refine wpMix_pure (by kernel_rfl) (fun K hK => ?_); go_big_quiet_op; refine hK _ ?_; clear hK K
    refine wpMix_pure (by kernel_rfl) (fun K hK => ?_); go_big_quiet_op; refine hK _ ?_; clear hK K
    refine wpMix_pure (by kernel_rfl) (fun K hK => ?_); go_big_quiet_op; refine hK _ ?_; clear hK K
    refine wpMix_pure (by kernel_rfl) (fun K hK => ?_); go_big_quiet_op; refine hK _ ?_; clear hK K
    refine wpMix_act (by kernel_rfl) (fun K hK => ?_)
    refine wp_copy_at _ _ 46 46 rfl 48 Tryz.underlying46 6 hsz g ((at_ + 1) * 6) _ _ ⟨g, at_ * 6, none⟩ _ _ rfl rfl cur 48 hrow B (n - at_) (by simp only [Nat.min_def]; split <;> omega) hBl hsrcB (by omega) hBone ?_
    intro w5 hrow5 hoth5 hb5
    try simp only [Act.put, List.setIfInBounds_toArray, List.set_cons_zero, List.set_cons_succ]
    refine hK _ _ trivial ?_
    clear hK K
    refine wpMix_nil ?_
    have HR5 := Lib.hid hrow5
    clear hrow5
    have hl5 : (splice cur ((at_ + 1) * 6) B).length = cur.length := length_splice _ _ _ (by omega)
    go_wp2_with (refine wpList_copy_at rfl _ _ 46 46 rfl 48 Tryz.underlying46 6 hsz g (at_ * 6) _ _ ⟨nb, 0, none⟩ _ _ rfl rfl (splice cur ((at_ + 1) * 6) B) 48 HR5.out (fIncident.enc t) (1) (by simp only [Nat.min_def]; split <;> omega) (by omega) (hsrcT w5 (hoth5 nb hne)) (by omega) htone ?_)
    intro w6 hrow6 hoth6 hb6
    have HR6 := Lib.hid hrow6
    clear hrow6
    go_wp2
    go_ret
    refine ⟨_, rfl, ?_, (((Below.refl base w).drew).trans (hb5.mono hg)).trans (hb6.mono hg)⟩
    show World.ownsRow _ base _ 6 _ (xs.take at_ ++ t :: xs.drop at_).length ((xs.take at_ ++ t :: xs.drop at_).flatMap fIncident.enc)
    rw [HL.out, HE.out]
    exact own_of_row HR6.out hg hroom (by unfold maxLen; omega) hRl hRt

  · have hbig : (n + 1) * 64 ≤ 140737488355328 := by omega
    have hcapN : ¬ ((cap : Int) = (at_ : Int)) := by omega
    have hold : (Builtin.firstCells i0.size at_ (.slice (some ⟨g, 0, none⟩) at_ cap)).run Tryz.prog w.drew = .ok A.toArray w.drew := by
      rw [hz1]
      exact run_firstCells_some w.drew 6 at_ ⟨g, 0, none⟩ at_ cap A (by rw [hAl]) (fun j v hj => by
        rw [addr_add]
        refine (row_cell (w := w.drew) hrow _).trans ?_
        rw [Nat.zero_add]
        exact rowh_ hct hj)
    have hrz : ∀ ty, (Builtin.append_ #[46, 3] ty #[.slice (some ⟨g, 0, none⟩) at_ cap, .int .i64 ((n : Int) + 1 - (at_ : Int))]).run Tryz.prog w =
        .ok (.slice (some ⟨w.heap.size, 0, none⟩) (n + 1) (grownCap w (n + 1) cap 48)) (w.drew.alloc (.cells (A.toArray ++ Builtin.zeroCells (Value.agg #[.int .i64 0, .string ⟨#[]⟩, .string ⟨#[]⟩, .int .i64 0, .int .i64 0, .int .i64 0]).cells (n + 1 - at_) ++ Builtin.zeroCells (Value.agg #[.int .i64 0, .string ⟨#[]⟩, .string ⟨#[]⟩, .int .i64 0, .int .i64 0, .int .i64 0]).cells (grownCap w (n + 1) cap 48 - (n + 1))) 48)) := fun ty => by
      have hik : at_ + (n + 1 - at_) = n + 1 := by omega
      have hkk : (n : Int) + 1 - (at_ : Int) = ((n + 1 - at_ : Nat) : Int) := by omega
      have h := Lib.run_append_grow_zeros w 46 3 ty 48 i0 _ .i64 .i64 Tryz.underlying46 Tryz.underlying3 hi hz0 (some ⟨g, 0, none⟩) at_ cap A hold (n + 1 - at_) (by omega) (by omega) (by omega) (by omega) (by rw [hz2]; omega) (by rw [hz2, hik]; exact growslice_fits (by omega) hbig)
      rw [hik] at h
      rw [hkk]
      exact h
    obtain ⟨G, hG⟩ : ∃ G, G = grownCap w (n + 1) cap 48 := ⟨_, rfl⟩
    have hGn : n + 1 ≤ G := by rw [hG]; exact grownCap_ge w _ _ _
    have hG63 : G ≤ maxLen := by rw [hG]; exact grownCap_le_maxLen w (n + 1) cap 48 (by unfold maxLen; omega)
    rw [← hG] at hrz
    obtain ⟨ROW, hROW⟩ : ∃ ROW : List Value, ROW = A ++ ((Builtin.zeroCells (Value.agg #[.int .i64 0, .string ⟨#[]⟩, .string ⟨#[]⟩, .int .i64 0, .int .i64 0, .int .i64 0]).cells (n + 1 - at_)).toList ++ (Builtin.zeroCells (Value.agg #[.int .i64 0, .string ⟨#[]⟩, .string ⟨#[]⟩, .int .i64 0, .int .i64 0, .int .i64 0]).cells (G - (n + 1))).toList) := ⟨_, rfl⟩
    have hRl : ROW.length = G * 6 := by
      rw [hROW]
      simp [Builtin.zeroCells, Value.cells, hAl]
      omega
    have hRt : ROW.take (at_ * 6) = A := by rw [hROW, List.take_append_of_le_length (by omega), List.take_of_length_le (by omega)]
    obtain ⟨W1, hW1⟩ : ∃ W1, W1 = w.drew.alloc (.cells ROW.toArray 48) := ⟨_, rfl⟩
    have hrz1 : ∀ ty, (Builtin.append_ #[46, 3] ty #[.slice (some ⟨g, 0, none⟩) at_ cap, .int .i64 ((n : Int) + 1 - (at_ : Int))]).run Tryz.prog w = .ok (.slice (some ⟨w.heap.size, 0, none⟩) (n + 1) G) W1 := fun ty => by
      rw [hrz ty, hW1, hROW, arr3_]
    have hrow1 : W1.heap[w.heap.size]? = some (.cells ROW.toArray 48 (0, 0)) := by rw [hW1]; exact heap_alloc_new w.drew _
    have hoth1 : ∀ k, k < w.heap.size → W1.heap[k]? = w.heap[k]? := fun k hk => by rw [hW1]; exact heap_alloc_old w.drew _ hk
    have hB1 : Below base w W1 := by rw [hW1]; exact ((Below.refl base w).drew).alloc hbase _
    obtain ⟨hFl, hFt⟩ := fill_rowIncident hlt (by omega) hRl hRt hAl hBl htl
    have hRs : (splice ROW (at_ * 6) (fIncident.enc t)).length = ROW.length := length_splice _ _ _ (by omega)
    have hGi : ¬ ((G : Int) = (at_ : Int)) := by omega
    have hHR1 := Lib.hid hrow1
    generalize hN : w.heap.size = N at *
    clear hrz hold hG hROW hW1 hrow1 hi hz0
    unfold maxLen at hG63
    go_enter Tryz.func67, Tryz.ntmps67
    go_wp2_with (first | (at_builtin; refine Lib.wpList_append_run _ rfl _ _ _ _ rfl _ _ rfl rfl _ _ (hrz1 _) ?_) | (refine wpList_copy_at rfl _ _ 46 46 rfl 48 Tryz.underlying46 6 hsz N (at_ * 6) _ _ ⟨nb, 0, none⟩ _ _ rfl rfl ROW 48 hHR1.out (fIncident.enc t) (1) (by simp only [Nat.min_def]; split <;> omega) (by omega) (hsrcT W1 (hoth1 nb hnw)) (by omega) htone ?_))
    intro w5 hrow5 hoth5 hb5
    have HR5 := Lib.hid hrow5
    have hsrcB : ∀ (j : Nat) u, B[j]? = some u → w5.drew.cell? ((⟨g, at_ * 6, none⟩ : Addr).add j) = some u := fun j u hu => by
      rw [addr_add]
      have h1 : w5.heap[g]? = some (.cells cur.toArray 48 (0, 0)) := ((hoth5 g (by omega)).trans (hoth1 g hgw)).trans hrow
      exact (row_cell (w := w5.drew) h1 _).trans (rowp_ hct hAl hu)
    clear hrow5 hrow
    go_wp2
    refine wp_region_mix (C := fun _ => True) [true, true, true, true, true, true, true, true, false] (by kernel_rfl) (by kernel_rfl) (by kernel_rfl) (fun _ _ d _ _ h => by cases d <;> exact h) trivial ?_
    have hS0 : Below (w5.heap.size) w5 w5.drew := Below.drew (Below.refl _ _)
    refine wpMix_pure (by kernel_rfl) (fun K hK => ?_); go_big_quiet_op; refine hK _ ?_; clear hK K
    refine wpMix_pure (by kernel_rfl) (fun K hK => ?_); go_big_quiet_op; refine hK _ ?_; clear hK K
    refine wpMix_pure (by kernel_rfl) (fun K hK => ?_); go_big_quiet_op; refine hK _ ?_; clear hK K
    refine wpMix_pure (by kernel_rfl) (fun K hK => ?_); go_big_quiet_op; refine hK _ ?_; clear hK K
    refine wpMix_pure (by kernel_rfl) (fun K hK => ?_); go_big_quiet_op; refine hK _ ?_; clear hK K
    refine wpMix_pure (by kernel_rfl) (fun K hK => ?_); go_big_quiet_op; refine hK _ ?_; clear hK K
    refine wpMix_pure (by kernel_rfl) (fun K hK => ?_); go_big_quiet_op; refine hK _ ?_; clear hK K
    refine wpMix_pure (by kernel_rfl) (fun K hK => ?_); go_big_quiet_op; refine hK _ ?_; clear hK K
    refine wpMix_act (by kernel_rfl) (fun K hK => ?_)
    refine wp_copy_at _ _ 46 46 rfl 48 Tryz.underlying46 6 hsz N ((at_ + 1) * 6) _ _ ⟨g, at_ * 6, none⟩ _ _ rfl rfl (splice ROW (at_ * 6) (fIncident.enc t)) 48 HR5.out B (n - at_) (by simp only [Nat.min_def]; split <;> omega) hBl hsrcB (by omega) hBone ?_
    intro w6 hrow6 hoth6 hb6
    try simp only [Act.put, List.setIfInBounds_toArray, List.set_cons_zero, List.set_cons_succ]
    refine hK _ _ trivial ?_
    clear hK K
    refine wpMix_nil ?_
    have HR6 := Lib.hid hrow6
    clear hrow6
    go_wp2
    go_ret
    refine ⟨_, rfl, ?_, (hB1.trans (hb5.mono hbase)).trans (((Below.refl base w5).drew).trans (hb6.mono hbase))⟩
    show World.ownsRow _ base _ 6 _ (xs.take at_ ++ t :: xs.drop at_).length ((xs.take at_ ++ t :: xs.drop at_).flatMap fIncident.enc)
    rw [HL.out, HE.out]
    exact own_of_row HR6.out hbase (by omega) (by unfold maxLen; omega) hFl hFt


/-- Put in at any place. -/
theorem insIncident_any (v : Value) (xs : List DIncident) (t : DIncident) (at_ nb base : Nat) (w : World) (hown : Own fIncident w base 48 v xs) (hat : at_ ≤ xs.length) (hnb : w.heap[nb]? = some (.cells #[.int .i64 t.day, .string t.place, .string t.cause, .int .i64 t.level, .int .i64 t.caught, .int .i64 t.buried] 48 (0, 0))) (hne : ∀ g, v.ownBlock = some g → nb ≠ g) (hl : xs.length ≤ 1000000) (hbase : base ≤ w.heap.size) :
    Calls Tryz.prog 67 #[v, .int .i64 at_, .slice (some ⟨nb, 0, none⟩) 1 1] w fun e w' => ∃ v', e = .returned v' ∧ Own fIncident w' base 48 v' (xs.take at_ ++ t :: xs.drop at_) ∧ Below base w w' := by
  rcases Nat.lt_or_ge at_ xs.length with hlt | hge
  · have hown' : w.ownsRow base 48 6 v xs.length (xs.flatMap fIncident.enc) := hown
    obtain ⟨g, cap, rfl, hg, hgw, _, _⟩ := ownO_ hown' (by omega)
    exact insertIncident_mid xs t g cap at_ nb base w hown' hlt hnb (hne g rfl) hl hbase
  · obtain rfl : at_ = xs.length := by omega
    rw [List.take_length, List.drop_length]
    refine insertIncident_end v xs t nb base w hown ⟨some ⟨nb, 0, none⟩, 1, rfl, by simp, ?_⟩ hl hbase
    intro ad had j u hu
    cases had
    rw [addr_add, World.cell?, hnb]
    simpa [fIncident] using hu

end Go.Proofs.YthabmofkjdiccaaGreatDoor

namespace Go.Proofs.YthabmofkjdiccaaGreatDoor
open Go.RowKit
section
variable {P : Program} {ops : Array Oper} {Q : Exit → Act → World → Prop} {md : Region.Mode} {C : World → Prop}

def mixF (md : Region.Mode) (ops : Array Oper) (i : Nat) (is1 : List Nat) (ks1 : List Bool) (j : Nat) (is2 : List Nat) (ks2 : List Bool) : List Nat → Array Bool → Bool
  | [], listed => (Region.ready md ops listed == [i, j]) && mixB md ops is1 ks1 (listed.setIfInBounds i true) && mixB md ops is2 ks2 (listed.setIfInBounds j true)
  | p :: ps, listed => (Region.ready md ops listed).contains p && Region.free md ops listed p && ((ops[p]?).map valueOnly).getD false && mixF md ops i is1 ks1 j is2 ks2 ps (listed.setIfInBounds p true)
def wpFork (P : Program) (ops : Array Oper) (Q : Exit → Act → World → Prop) (C : World → Prop) (ks1 : List Bool) (l1 : List Oper) (ks2 : List Bool) (l2 : List Oper) : List Oper → Act → World → Prop
  | [], a, w => wpMix P ops Q C (false :: ks1) l1 a w ∧ wpMix P ops Q C (false :: ks2) l2 a w
  | o :: lp, a, w => if Region.wanted o (yielded ops a.tmps) then o.quiet P a C (fun a' => wpFork P ops Q C ks1 l1 ks2 l2 lp a' w) else wpFork P ops Q C ks1 l1 ks2 l2 lp (a.put o.dst undef) w

theorem wpOp_of_mix (hs : Region.noSelect ops = true) (hQ : ∀ (c : _) (a : Act) (d : Option Tmp) (v : Value) (w : World), Q (.panic c) (a.put d v) w → Q (.panic c) a w)
    {i : Nat} {is : List Nat} {ks : List Bool} {listed : Array Bool} {a : Act} {w : World} (hi : i < ops.size) (his : ∀ x ∈ is, x < ops.size) (hB : mixB md ops is ks (listed.setIfInBounds i true) = true) (hC : C w)
    (h : wpMix P ops Q C (false :: ks) ((i :: is).map fun i => ops.getD i default) a w) :
    wpOp P ops Q i (fun a' w' => C w' ∧ wpAnyH P md ops Q C is.length (listed.setIfInBounds i true) a' w') a w := by
  have ho : ops[i]? = some (ops.getD i default) := by simp [hi]
  have hl : ∀ j : Nat, (is.map fun i => ops.getD i default)[j]? = (is[j]?).bind (fun i => ops[i]?) := fun j => by
    rw [List.getElem?_map]
    cases hj : is[j]? with
    | none => rfl
    | some x => have := his x (List.mem_of_getElem? hj); simp [this]
  rw [List.map_cons] at h
  simp only [wpMix] at h
  unfold wpOp
  simp only [ho]
  by_cases hw : Region.wanted (ops.getD i default) (yielded ops a.tmps) = true
  · rw [if_pos hw] at h ⊢
    exact .inl (Oper.wp_mono (fun a' w' hh => ⟨hh.1, wpAnyH_of_mix hs hQ is ks _ _ a' w' hl (by simp) hB hh.1 hh.2⟩) h)
  · rw [if_neg hw] at h ⊢
    exact ⟨hC, wpAnyH_of_mix hs hQ is ks _ _ _ w hl (by simp) hB hC h⟩

theorem wpAnyH_of_fork (hs : Region.noSelect ops = true) (hQ : ∀ (c : _) (a : Act) (d : Option Tmp) (v : Value) (w : World), Q (.panic c) (a.put d v) w → Q (.panic c) a w)
    {i : Nat} {is1 : List Nat} {ks1 : List Bool} {j : Nat} {is2 : List Nat} {ks2 : List Bool} (hi : i < ops.size) (hj : j < ops.size) (h1 : ∀ x ∈ is1, x < ops.size) (h2 : ∀ x ∈ is2, x < ops.size) (hlen : is1.length = is2.length) :
    ∀ (ps : List Nat) (listed : Array Bool) (a : Act) (w : World), (∀ x ∈ ps, x < ops.size) → mixF md ops i is1 ks1 j is2 ks2 ps listed = true → C w →
      wpFork P ops Q C ks1 ((i :: is1).map fun i => ops.getD i default) ks2 ((j :: is2).map fun i => ops.getD i default) (ps.map fun i => ops.getD i default) a w → wpAnyH P md ops Q C (ps.length + (is1.length + 1)) listed a w := by
  intro ps
  induction ps with
  | nil =>
    intro listed a w _ hB hC h
    simp only [mixF, Bool.and_eq_true, beq_iff_eq] at hB
    obtain ⟨⟨hr, hb1⟩, hb2⟩ := hB
    simp only [List.map_nil, wpFork] at h
    rw [List.length_nil, Nat.zero_add]
    refine wpAnyH_all hr (by simp) (fun x hx => ?_)
    rcases List.mem_cons.1 hx with rfl | hx
    · exact wpOp_of_mix hs hQ hi h1 hb1 hC h.1
    · rw [List.mem_singleton] at hx; subst hx
      rw [hlen]
      exact wpOp_of_mix hs hQ hj h2 hb2 hC h.2
  | cons p ps ih =>
    intro listed a w hps hB hC h
    have hp : p < ops.size := hps p (by simp)
    have ho : ops[p]? = some (ops.getD p default) := by simp [hp]
    simp only [mixF, Bool.and_eq_true, ho, Option.map_some, Option.getD_some] at hB
    obtain ⟨⟨⟨hr, hf⟩, hv⟩, hB'⟩ := hB
    rw [show ((p :: ps).map fun i => ops.getD i default) = ops.getD p default :: ps.map (fun i => ops.getD i default) from rfl] at h
    simp only [wpFork] at h
    rw [List.length_cons, show ps.length + 1 + (is1.length + 1) = (ps.length + (is1.length + 1)) + 1 by omega]
    by_cases hw : Region.wanted (ops.getD p default) (yielded ops a.tmps) = true
    · rw [if_pos hw] at h
      obtain ⟨v, q1, q2⟩ := yieldsIf_of_quiet hv h
      exact wpAnyH_take ho hs hf hr (fun c a w => hQ c a _ _ w) (.inl ⟨hw, q1⟩) hC (ih _ _ w (fun x hx => hps x (by simp [hx])) hB' hC q2)
    · rw [if_neg hw] at h
      exact wpAnyH_take ho hs hf hr (fun c a w => hQ c a _ _ w) (.inr ⟨by simpa using hw, rfl⟩) hC (ih _ _ w (fun x hx => hps x (by simp [hx])) hB' hC h)

structure Fork (P : Program) (ops : Array Oper) (Q : Exit → Act → World → Prop) (C : World → Prop) (ks1 : List Bool) (l1 : List Oper) (ks2 : List Bool) (l2 : List Oper) (lp : List Oper) (a : Act) (w : World) : Prop where
  out : wpFork P ops Q C ks1 l1 ks2 l2 lp a w
theorem wp_region_fork {id : Nat} {l : List Oper} {a : Act} {w : World} (ps : List Nat) (i : Nat) (is1 : List Nat) (ks1 : List Bool) (j : Nat) (is2 : List Nat) (ks2 : List Bool) (hm : P.follows .mixedOrders = true) (hs : Region.noSelect l.toArray = true)
    (hB : (((i :: j :: (ps ++ is1 ++ is2)).all (fun x => decide (x < l.length))) && decide (is1.length = is2.length) && decide (ps.length + (is1.length + 1) = l.length) && mixF .any l.toArray i is1 ks1 j is2 ks2 ps (Array.replicate l.length false)) = true)
    (hQ : ∀ (c : _) (a : Act) (d : Option Tmp) (v : Value) (w : World), Q (.panic c) (a.put d v) w → Q (.panic c) a w) (hC : C w.drew)
    (h : Fork P l.toArray Q C ks1 ((i :: is1).map fun i => l.getD i default) ks2 ((j :: is2).map fun i => l.getD i default) (ps.map fun i => l.getD i default) a w.drew) : (Code.region id l.toArray true).wp P Q a w := by
  simp only [Bool.and_eq_true, decide_eq_true_eq, List.all_eq_true] at hB
  obtain ⟨⟨⟨h1, h2⟩, h3⟩, h4⟩ := hB
  refine wp_region_held (S := C) hm ?_
  have hg : (fun i => l.toArray.getD i default) = (fun i => l.getD i default) := by funext x; simp [Array.getD_eq_getD_getElem?, List.getD_eq_getElem?_getD]
  have := wpAnyH_of_fork (md := .any) (ops := l.toArray) hs hQ (i := i) (is1 := is1) (ks1 := ks1) (j := j) (is2 := is2) (ks2 := ks2) (by simpa using h1 i (by simp)) (by simpa using h1 j (by simp))
    (fun x hx => by simpa using h1 x (by simp [hx])) (fun x hx => by simpa using h1 x (by simp [hx])) h2 ps (Array.replicate l.length false) a w.drew (fun x hx => by simpa using h1 x (by simp [hx])) h4 hC (by rw [hg]; exact h.out)
  rw [h3] at this
  simpa using this
theorem wpFork_pure {ks1 ks2 : List Bool} {l1 l2 : List Oper} {o : Oper} {l : List Oper} {a : Act} {w : World} (hw : Region.wanted o (yielded ops a.tmps) = true)
    (h : ∀ K : Act → Prop, (∀ a', Fork P ops Q C ks1 l1 ks2 l2 l a' w → K a') → o.quiet P a C K) : Fork P ops Q C ks1 l1 ks2 l2 (o :: l) a w := by
  refine ⟨?_⟩
  simp only [wpFork]; rw [if_pos hw]; exact h _ fun _ h => h.out
theorem wpFork_split {ks1 ks2 : List Bool} {l1 l2 : List Oper} {a : Act} {w : World} (h1 : Mix P ops Q C (false :: ks1) l1 a w) (h2 : Mix P ops Q C (false :: ks2) l2 a w) : Fork P ops Q C ks1 l1 ks2 l2 [] a w := ⟨⟨h1.out, h2.out⟩⟩
end
end Go.Proofs.YthabmofkjdiccaaGreatDoor

namespace Go.Proofs.YthabmofkjdiccaaGreatDoor
open Go.RowKit
set_option linter.unusedVariables false

theorem befI_trans {a b c : DIncident} (h1 : befI a b = true) (h2 : befI b c = true) : befI a c = true := by
  unfold befI at *
  by_cases e1 : a.day = b.day
  · rw [if_pos e1] at h1
    by_cases e2 : b.day = c.day
    · rw [if_pos e2] at h2
      rw [if_pos (e1.trans e2)]
      by_cases e3 : a.place = b.place
      · rw [if_pos e3] at h1
        by_cases e4 : b.place = c.place
        · rw [if_pos e4] at h2
          rw [if_pos (e3.trans e4)]
          exact ltS_trans h1 h2
        · rw [if_neg e4] at h2
          rw [if_neg (fun e => e4 (e3.symm.trans e)), e3]; exact h2
      · rw [if_neg e3] at h1
        by_cases e4 : b.place = c.place
        · rw [if_pos e4] at h2
          rw [if_neg (fun e => e3 (e.trans e4.symm)), ← e4]; exact h1
        · rw [if_neg e4] at h2
          have h3 := ltS_trans h1 h2
          rw [if_neg (fun e => by rw [e] at h3; exact absurd h3 (by rw [ltS_irrefl]; simp))]; exact h3
    · rw [if_neg e2] at h2
      have := of_decide_eq_true h2
      rw [if_neg (by omega)]; exact decide_eq_true (by omega)
  · rw [if_neg e1] at h1
    have h1 := of_decide_eq_true h1
    by_cases e2 : b.day = c.day
    · rw [if_neg (by omega)]; exact decide_eq_true (by omega)
    · rw [if_neg e2] at h2
      have := of_decide_eq_true h2
      rw [if_neg (by omega)]; exact decide_eq_true (by omega)
theorem inc_back {xs : List DIncident} (h : incsB xs = true) (t : DIncident) : ∀ (a b : Nat) (hab : a ≤ b) (hb : b < xs.length), cmpInc xs[b] t < 0 → cmpInc (xs[a]'(by omega)) t < 0 := by
  intro a b hab
  induction hab with
  | refl => intro hb h0; exact h0
  | @step m hm ih =>
    intro hb h0
    have h1 := incsB_two h hb
    replace h0 : cmpInc (xs[m + 1]'hb) t < 0 := h0
    have h2 : befI xs[m + 1] t = true := by rw [← cmpInc_lt]; exact decide_eq_true h0
    refine ih (by omega) ?_
    have h3 := befI_trans h1 h2
    rw [← cmpInc_lt] at h3
    exact of_decide_eq_true h3
def addIncidentC (xs : List DIncident) (x : DIncident) : Int := if incsB xs then (if incB x then (if hasIncident xs x then 4 else if xs.length = 48 then 5 else 0) else 2) else 1
def addIncidentF (xs : List DIncident) (x : DIncident) : List DIncident := if addIncidentC xs x = 0 then xs.take (atIncident xs x) ++ x :: xs.drop (atIncident xs x) else []
theorem addIncident_bad {xs : List DIncident} {x : DIncident} {c : Int} (h : addIncidentC xs x = c) (h0 : c ≠ 0) : addIncidentC xs x = c ∧ addIncidentF xs x = [] := ⟨h, by unfold addIncidentF; rw [if_neg (by rw [h]; exact h0)]⟩
theorem addIncident_ok {xs : List DIncident} {x : DIncident} (h : addIncidentC xs x = 0) : incsB xs = true ∧ incB x = true ∧ hasIncident xs x = false ∧ xs.length < 48 := by
  unfold addIncidentC at h
  split at h
  · rename_i h1
    split at h
    · rename_i h2
      split at h
      · cases h
      · rename_i h3
        split at h
        · cases h
        · rename_i h4
          simp only [Bool.not_eq_true] at h3
          refine ⟨h1, h2, h3, ?_⟩
          have : xs.length ≤ 48 := incsB_len h1
          omega
    · cases h
  · cases h
set_option maxRecDepth 100000 in
set_option maxHeartbeats 8000000 in
theorem addIncident_any (v : Value) (xs : List DIncident) (fp : List Nat) (x : DIncident) (w : World) (hx : Sl fIncident.cod w v xs fp) (hok : fIncident.ok x) :
    Calls Tryz.prog 19 #[v, .agg #[.int .i64 x.day, .string x.place, .string x.cause, .int .i64 x.level, .int .i64 x.caught, .int .i64 x.buried]] w fun e w' => NewR2 fIncident.cod w (addIncidentF xs x) (addIncidentC xs x) e w' := by
  obtain ⟨A, cap, rfl, hlen, hcap⟩ := hx.form
  have hB0 : Below w.heap.size w (w.alloc (.cells #[.int .i64 x.day, .string x.place, .string x.cause, .int .i64 x.level, .int .i64 x.caught, .int .i64 x.buried] 48)) := (Below.refl _ _).alloc (Nat.le_refl _) _
  have hp := PIncident.box w x 48
  replace hx := hx.below' hB0
  have hEC := Lib.hid (show addIncidentC xs x = _ from rfl)
  go_enter Tryz.func19, Tryz.ntmps19
  go_wp2_with fail
  refine (ValidIncidents_any _ xs fp _ hx).mono ?_
  rintro e w1 ⟨rfl, hb1⟩
  have hp1 := hp.below' hb1
  have hx1 := hx.below' hb1
  have hB1 := hB0.trans (hb1.mono hB0.size)
  clear hp hx hb1 hB0
  cases hv : incsB xs
  · have HE := Lib.hid (addIncident_bad (x := x) (show addIncidentC xs x = 1 by unfold addIncidentC; rw [hv]; rfl) (by decide))
    go_wp2
    go_ret2
    exact ⟨_, by rw [HE.out.1]; rfl, by rw [HE.out.2]; exact New.nil hB1⟩
  have hlen2 := incsB_len hv
  obtain ⟨c0, c1, c2, c3, c4, c5⟩ := id hp1
  go_wp2_with fail
  refine (bsearchIncident_any _ xs fp x _ hx1 (inc_back hv x) (by omega)).mono ?_
  rintro e w2 ⟨rfl, hb2⟩
  have hp2 := hp1.below' hb2
  have hx2 := hx1.below' hb2
  have hB2 := hB1.trans (hb2.mono hB1.size)
  have hat : atIncident xs x ≤ xs.length := posF_le _ _
  clear hp1 hx1 hb2 c0 c1 c2 c3 c4 c5
  obtain ⟨c0, c1, c2, c3, c4, c5⟩ := id hp2
  go_wp2_with fail
  refine (incValid_any x _ hok).mono ?_
  rintro e w3 ⟨rfl, hb3⟩
  have hp3 := hp2.below' hb3
  have hx3 := hx2.below' hb3
  have hB3 := hB2.trans (hb3.mono hB2.size)
  clear hp2 hx2 hb3 c0 c1 c2 c3 c4 c5
  cases ho : incB x
  · have HE := Lib.hid (addIncident_bad (show addIncidentC xs x = 2 by unfold addIncidentC; rw [hv, ho]; rfl) (by decide))
    go_wp2
    go_ret2
    exact ⟨_, by rw [HE.out.1]; rfl, by rw [HE.out.2]; exact New.nil hB3⟩
  cases hh : hasIncident xs x
  rotate_left
  · have HE := Lib.hid (addIncident_bad (show addIncidentC xs x = 4 by unfold addIncidentC; rw [hv, ho, hh]; rfl) (by decide))
    go_wp2
    go_ret2
    exact ⟨_, by rw [HE.out.1]; rfl, by rw [HE.out.2]; exact New.nil hB3⟩
  by_cases hM : xs.length = 48
  · have HE := Lib.hid (addIncident_bad (show addIncidentC xs x = 5 by unfold addIncidentC; rw [hv, ho, hh, if_pos hM]; rfl) (by decide))
    have eM : ((xs.length : Int) == 48) = true := by rw [hM]; rfl
    clear hM
    go_wp2
    go_ret2
    exact ⟨_, by rw [HE.out.1]; rfl, by rw [HE.out.2]; exact New.nil hB3⟩
  have hC0 : addIncidentC xs x = 0 := by unfold addIncidentC; rw [hv, ho, hh, if_neg hM]; rfl
  have HC := Lib.hid hC0
  have HF : Hid (addIncidentF xs x = xs.take (atIncident xs x) ++ x :: xs.drop (atIncident xs x)) := by show _ = _; unfold addIncidentF; rw [if_pos hC0]
  have eM : ((xs.length : Int) == 48) = false := by rw [beq_eq_false_iff_ne]; omega
  have hoks := hx3.oks
  have HOK : Hid (∀ y ∈ xs.take (atIncident xs x) ++ x :: xs.drop (atIncident xs x), fIncident.ok y) := fun y hy => by
    rcases List.mem_append.1 hy with hy | hy
    · exact hoks y (List.mem_of_mem_take hy)
    · rcases List.mem_cons.1 hy with rfl | hy
      · exact hok
      · exact hoks y (List.mem_of_mem_drop hy)
  clear hC0 hM hv ho hh hoks hEC
  generalize atIncident xs x = at_ at *
  obtain ⟨c0, c1, c2, c3, c4, c5⟩ := id hp3
  go_wp2
  have gc0 := cell_regrown c0
  have gc1 := cell_regrown c1
  have gc2 := cell_regrown c2
  have gc3 := cell_regrown c3
  have gc4 := cell_regrown c4
  have gc5 := cell_regrown c5
  refine wp_region_fork (C := fun w' => ∃ p : Regrown, w' = Go.Sort.grow (redrawn w3 p.d) p.os) [0, 2, 3] 1 [4, 5, 6, 7] [false, false, true, true] 4 [1, 5, 6, 7] [false, false, true, true] (by kernel_rfl) (by kernel_rfl) (by kernel_rfl) (fun _ _ d _ _ h => by cases d <;> exact h) (regrown_of_below (Below.drew (Below.refl _ _))) ?_
  simp only [List.map_cons, List.map_nil, List.getD_cons_zero, List.getD_cons_succ]
  have hS0 : Below (w3.heap.size) w3 w3.drew := Below.drew (Below.refl _ _)
  refine wpFork_pure (by kernel_rfl) (fun K hK => ?_)
  go_big_quiet_op
  refine hK _ ?_; clear hK K
  refine wpFork_pure (by kernel_rfl) (fun K hK => ?_)
  go_big_quiet_op
  refine hK _ ?_; clear hK K
  refine wpFork_pure (by kernel_rfl) (fun K hK => ?_)
  go_big_quiet_op
  refine hK _ ?_; clear hK K
  refine wpFork_split ?_ ?_
  · skip
    refine wpMix_act (by kernel_rfl) (fun K hK => ?_)
    go_big_op
    refine (cloneIncident_any _ xs fp w3.drew (hx3.below' (hS0)) (by omega)).mono ?_
    rintro e wr1 ⟨v3, rfl, hown, hbr1⟩
    have hbr1S : Below (w3.heap.size) w3 wr1 := hS0.trans (hbr1.mono hS0.size)
    refine hK _ _ (regrown_of_below hbr1S) ?_
    clear hK K
    refine wpMix_act (by kernel_rfl) (fun K hK => ?_)
    go_big_op
    refine hK _ _ (regrown_of_below (hbr1S.alloc hbr1S.size _)) ?_
    clear hK K
    refine mix_world (fun N => Below (w3.heap.size) w3 N ∧ (N.heap[wr1.heap.size]? = some (.cells #[.int .i64 x.day, .string x.place, .string x.cause, .int .i64 x.level, .int .i64 x.caught, .int .i64 x.buried] 48 (0, 0)) ∧ Below wr1.heap.size wr1 N ∧ wr1.heap.size < N.heap.size)) ⟨hbr1S.alloc hbr1S.size _, ⟨heap_alloc_new wr1 _, (Below.refl _ _).alloc (Nat.le_refl _) _, by simp⟩⟩ ?_
    rintro wr2 ⟨hbr2S, hbr2F⟩
    refine wpMix_act (by kernel_rfl) (fun K hK => ?_)
    go_big_op
    refine (insIncident_any v3 xs x at_ wr1.heap.size w3.drew.heap.size wr2 (hown.below hbr2F.2.1) hat hbr2F.1 (fun g hg => by have := (hown.lt g hg).2; omega) (by omega) (by have := hbr1S.size; have := hbr2F.2.2; have := (show w3.drew.heap.size = w3.heap.size from rfl); omega)).mono ?_
    rintro e wr3 ⟨v4, rfl, hown4, hbr3⟩
    have hbr3S : Below (w3.heap.size) w3 wr3 := hbr2S.trans (hbr3.mono (Nat.le_refl _))
    refine hK _ _ (regrown_of_below hbr3S) ?_
    clear hK K
    refine wpMix_pure (by kernel_rfl) (fun K hK => ?_); go_big_quiet_op; refine hK _ ?_; clear hK K
    refine wpMix_pure (by kernel_rfl) (fun K hK => ?_); go_big_quiet_op; refine hK _ ?_; clear hK K
    refine wpMix_nil ?_
    have hS9 : Below w3.heap.size w3 wr3 := hbr3S
    have hB9 := hB3.trans (hS9.mono hB3.size)
    have hownZ : Own fIncident wr3 w.heap.size 48 v4 (xs.take at_ ++ x :: xs.drop at_) := ownM_ hown4 (by have := hB3.size; first | exact this | (have h9 := hbr4S.size; omega) | (have h9 := hbr1S.size; omega))
    have hn := hownZ.new hB9 HOK.out
    clear hown4 hownZ
    go_wp2
    go_ret2
    exact ⟨_, by rw [HC.out]; rfl, by rw [HF.out]; exact hn⟩
  · skip
    refine wpMix_act (by kernel_rfl) (fun K hK => ?_)
    go_big_op
    refine hK _ _ (regrown_of_below (hS0.alloc hS0.size _)) ?_
    clear hK K
    refine mix_world (fun N => Below (w3.heap.size) w3 N ∧ (N.heap[w3.drew.heap.size]? = some (.cells #[.int .i64 x.day, .string x.place, .string x.cause, .int .i64 x.level, .int .i64 x.caught, .int .i64 x.buried] 48 (0, 0)) ∧ Below w3.drew.heap.size w3.drew N ∧ w3.drew.heap.size < N.heap.size)) ⟨hS0.alloc hS0.size _, ⟨heap_alloc_new w3.drew _, (Below.refl _ _).alloc (Nat.le_refl _) _, by simp⟩⟩ ?_
    rintro wr4 ⟨hbr4S, hbr4F⟩
    refine wpMix_act (by kernel_rfl) (fun K hK => ?_)
    go_big_op
    refine (cloneIncident_any _ xs fp wr4 (hx3.below' (hbr4S)) (by omega)).mono ?_
    rintro e wr5 ⟨v3, rfl, hown, hbr5⟩
    have hbr5S : Below (w3.heap.size) w3 wr5 := hbr4S.trans (hbr5.mono hbr4S.size)
    refine hK _ _ (regrown_of_below hbr5S) ?_
    clear hK K
    refine wpMix_act (by kernel_rfl) (fun K hK => ?_)
    go_big_op
    refine (insIncident_any v3 xs x at_ w3.drew.heap.size wr4.heap.size wr5 hown hat ((hbr5.block _ hbr4F.2.2).trans hbr4F.1) (fun g hg => by have := (hown.lt g hg).1; have := hbr4F.2.2; omega) (by omega) (hbr5.size)).mono ?_
    rintro e wr6 ⟨v4, rfl, hown4, hbr6⟩
    have hbr6S : Below (w3.heap.size) w3 wr6 := hbr5S.trans (hbr6.mono (Nat.le_of_lt hbr4F.2.2))
    refine hK _ _ (regrown_of_below hbr6S) ?_
    clear hK K
    refine wpMix_pure (by kernel_rfl) (fun K hK => ?_); go_big_quiet_op; refine hK _ ?_; clear hK K
    refine wpMix_pure (by kernel_rfl) (fun K hK => ?_); go_big_quiet_op; refine hK _ ?_; clear hK K
    refine wpMix_nil ?_
    have hS9 : Below w3.heap.size w3 wr6 := hbr6S
    have hB9 := hB3.trans (hS9.mono hB3.size)
    have hownZ : Own fIncident wr6 w.heap.size 48 v4 (xs.take at_ ++ x :: xs.drop at_) := ownM_ hown4 (by have := hB3.size; first | exact this | (have h9 := hbr4S.size; omega) | (have h9 := hbr1S.size; omega))
    have hn := hownZ.new hB9 HOK.out
    clear hown4 hownZ
    go_wp2
    go_ret2
    exact ⟨_, by rw [HC.out]; rfl, by rw [HF.out]; exact hn⟩

end Go.Proofs.YthabmofkjdiccaaGreatDoor

namespace Go.Proofs.YthabmofkjdiccaaGreatDoor
set_option linter.unusedVariables false

theorem ordered_lt {α : Type} {bef : α → α → Prop} (htr : ∀ a b c, bef a b → bef b c → bef a c) {xs : List α} (h : ∀ i (hi : i + 1 < xs.length), bef xs[i] xs[i + 1]) : ∀ (j i : Nat) (hj : j < xs.length) (hi : i < j), bef (xs[i]'(by omega)) xs[j] := by
  intro j
  induction j with
  | zero => intro i _ hi; omega
  | succ j ih =>
    intro i hj hi
    rcases Nat.lt_or_eq_of_le (Nat.le_of_lt_succ hi) with h1 | rfl
    · exact htr _ _ _ (ih i (by omega) h1) (h j hj)
    · exact h i hj
theorem put_ordered {α : Type} {bef : α → α → Prop} (htr : ∀ a b c, bef a b → bef b c → bef a c) {xs : List α} {x : α} {k : Nat} (h : ∀ i (hi : i + 1 < xs.length), bef xs[i] xs[i + 1]) (hle : k ≤ xs.length)
    (hb : ∀ m (hm : m < xs.length), m < k → bef xs[m] x) (ha : ∀ m (hm : m < xs.length), k ≤ m → bef x xs[m]) :
    (xs.take k ++ x :: xs.drop k).length = xs.length + 1 ∧ (∀ y ∈ xs.take k ++ x :: xs.drop k, y ∈ xs ∨ y = x) ∧ (∀ i (hi : i + 1 < (xs.take k ++ x :: xs.drop k).length), bef (xs.take k ++ x :: xs.drop k)[i] (xs.take k ++ x :: xs.drop k)[i + 1]) ∧ ∃ hk : k < (xs.take k ++ x :: xs.drop k).length, (xs.take k ++ x :: xs.drop k)[k] = x := by
  have hlt : (xs.take k).length = k := by rw [List.length_take]; omega
  have hlen : (xs.take k ++ x :: xs.drop k).length = xs.length + 1 := by rw [List.length_append, List.length_cons, List.length_drop, hlt]; omega
  have hat : ∀ i (hi : i < (xs.take k ++ x :: xs.drop k).length), (i < k → ∃ h : i < xs.length, (xs.take k ++ x :: xs.drop k)[i] = xs[i]) ∧ (i = k → (xs.take k ++ x :: xs.drop k)[i] = x) ∧ (k < i → ∃ h : i - 1 < xs.length, (xs.take k ++ x :: xs.drop k)[i] = xs[i - 1]) := fun i hi => by
    refine ⟨fun h => ⟨by omega, ?_⟩, fun h => ?_, fun h => ⟨by omega, ?_⟩⟩
    · rw [List.getElem_append_left (by omega), List.getElem_take]
    · subst h
      rw [List.getElem_append_right (by omega)]
      simp [hlt]
    · rw [List.getElem_append_right (by omega)]
      obtain ⟨j, rfl⟩ : ∃ j, i = k + 1 + j := ⟨i - (k + 1), by omega⟩
      simp only [hlt, show k + 1 + j - k = j + 1 by omega, List.getElem_cons_succ, List.getElem_drop]
      congr 1
      omega
  have hlt2 := ordered_lt htr h
  refine ⟨hlen, fun y hy => ?_, fun i hi => ?_, by omega, (hat k (by omega)).2.1 rfl⟩
  · rcases List.mem_append.1 hy with hy | hy
    · exact .inl (List.mem_of_mem_take hy)
    · rcases List.mem_cons.1 hy with rfl | hy
      · exact .inr rfl
      · exact .inl (List.mem_of_mem_drop hy)
  · rcases Nat.lt_trichotomy i k with h1 | h1 | h1
    · obtain ⟨h2, e2⟩ := (hat i (by omega)).1 h1
      rw [e2]
      rcases Nat.lt_or_ge (i + 1) k with h3 | h3
      · obtain ⟨h4, e4⟩ := (hat (i + 1) hi).1 h3
        rw [e4]; exact hlt2 (i + 1) i h4 (by omega)
      · rw [(hat (i + 1) hi).2.1 (by omega)]; exact hb i h2 h1
    · rw [(hat i (by omega)).2.1 h1]
      obtain ⟨h4, e4⟩ := (hat (i + 1) hi).2.2 (by omega)
      rw [e4]; exact ha _ h4 (by omega)
    · obtain ⟨h2, e2⟩ := (hat i (by omega)).2.2 h1
      obtain ⟨h4, e4⟩ := (hat (i + 1) hi).2.2 (by omega)
      rw [e2, e4]; exact hlt2 _ _ h4 (by omega)
theorem posF_specP {α : Type} (p : α → Bool) (xs : List α) : (∀ m (h : m < xs.length), m < posF p xs → p xs[m] = true) ∧ (∀ h : posF p xs < xs.length, p xs[posF p xs] = false) := by
  unfold posF
  induction xs with
  | nil => exact ⟨fun m h => absurd h (Nat.not_lt_zero _), fun h => absurd h (Nat.not_lt_zero _)⟩
  | cons x xs ih =>
    cases hp : p x with
    | false =>
      have e : (x :: xs).takeWhile p = [] := by rw [List.takeWhile_cons, hp]; rfl
      rw [e]
      exact ⟨fun m h hm => absurd hm (Nat.not_lt_zero _), fun h => hp⟩
    | true =>
      have e : (x :: xs).takeWhile p = x :: xs.takeWhile p := by rw [List.takeWhile_cons, hp]; rfl
      simp only [e, List.length_cons]
      refine ⟨fun m h hm => ?_, fun h => ?_⟩
      · cases m with
        | zero => exact hp
        | succ m => exact ih.1 m (by simpa using h) (by omega)
      · have := ih.2 (by omega)
        simpa using this
end Go.Proofs.YthabmofkjdiccaaGreatDoor

namespace Go.Proofs.YthabmofkjdiccaaGreatDoor
open Go.RowKit
set_option linter.unusedVariables false

theorem flat_set {α : Type} {E : Flat α} : ∀ (L : List α) (k j : Nat) (y : α) (u : Value) (hk : k < L.length), j < E.n → E.enc y = (E.enc L[k]).set j u → (L.flatMap E.enc).set (k * E.n + j) u = (L.set k y).flatMap E.enc
  | [], k, j, y, u, hk, _, _ => absurd hk (Nat.not_lt_zero _)
  | x :: L, 0, j, y, u, hk, hj, hu => by
    have hl := E.len x
    rw [List.getElem_cons_zero] at hu
    rw [Nat.zero_mul, Nat.zero_add, List.flatMap_cons, List.set_cons_zero, List.flatMap_cons, List.set_append_left _ _ (by omega), hu]
  | x :: L, k + 1, j, y, u, hk, hj, hu => by
    have hl := E.len x
    have ih := flat_set L k j y u (by simpa using hk) hj (by simpa using hu)
    have e : (k + 1) * E.n + j - (E.enc x).length = k * E.n + j := by rw [hl, Nat.succ_mul]; omega
    have h2 : (E.enc x).length ≤ (k + 1) * E.n + j := by rw [hl, Nat.succ_mul]; omega
    rw [List.flatMap_cons, List.set_cons_succ, List.flatMap_cons, List.set_append_right _ _ h2, e, ih]
theorem Own.len_eq {α : Type} {E : Flat α} {w : World} {base : Nat} {e : TypeId} {A : Option Addr} {n cap : Nat} {L : List α} (h : Own E w base e (.slice A n cap) L) (hL : L ≠ []) : n = L.length := by
  rcases h.2 with ⟨hv, h0⟩ | ⟨g', cap', cur, hv, _⟩
  · injection hv with _ h1 _
    first | omega | exact absurd (List.length_eq_zero_iff.1 (by first | exact h0.1 | exact h0 | omega)) hL
  · injection hv
theorem Own.setF {α : Type} {E : Flat α} {w : World} {base : Nat} {e : TypeId} {g n cap : Nat} {L : List α} (h : Own E w base e (.slice (some ⟨g, 0, none⟩) n cap) L) {k : Nat} (hk : k < L.length) (j : Nat) (hj : j < E.n) (y : α) (u : Value) (hu : E.enc y = (E.enc L[k]).set j u) :
    Own E (w.setCell ⟨g, k * E.n + j, none⟩ u) base e (.slice (some ⟨g, 0, none⟩) n cap) (L.set k y) := by
  have hn : n = L.length := by
    rcases h.2 with ⟨hv, _⟩ | ⟨g', cap', cur, hv, _⟩
    · cases hv
    · injection hv
  have h' : w.ownsRow base e E.n (.slice (some ⟨g, 0, none⟩) L.length cap) L.length (L.flatMap E.enc) := by rw [hn] at h; exact h
  have h2 := (h'.stored (k * E.n + j) u).1
  rw [flat_set L k j y u hk hj hu] at h2
  show World.ownsRow _ base e E.n _ (L.set k y).length _
  rw [List.length_set, hn]
  exact h2
theorem Own.cellF {α : Type} {E : Flat α} {w : World} {base : Nat} {e : TypeId} {g n cap : Nat} {L : List α} (h : Own E w base e (.slice (some ⟨g, 0, none⟩) n cap) L) {k : Nat} (hk : k < L.length) {j : Nat} (hj : j < E.n) {u : Value} (hu : (E.enc L[k])[j]? = some u) : w.cell? ⟨g, k * E.n + j, none⟩ = some u := by
  have hn : n = L.length := by
    rcases h.2 with ⟨hv, _⟩ | ⟨g', cap', cur, hv, _⟩
    · cases hv
    · injection hv
  have h' : w.ownsRow base e E.n (.slice (some ⟨g, 0, none⟩) L.length cap) L.length (L.flatMap E.enc) := by rw [hn] at h; exact h
  have hlt : k * E.n + j < L.length * E.n := by
    calc k * E.n + j < k * E.n + E.n := by omega
      _ = (k + 1) * E.n := by rw [Nat.succ_mul]
      _ ≤ L.length * E.n := Nat.mul_le_mul_right _ hk
  rw [h'.cellAt (k * E.n + j) hlt]
  have := flat_get E.enc E.n L (fun x _ => E.len x) k hk j hj
  rw [this]; exact hu
theorem Own.frozenF {α : Type} {E : Flat α} {w : World} {base : Nat} {e : TypeId} {g n cap : Nat} {L : List α} (h : Own E w base e (.slice (some ⟨g, 0, none⟩) n cap) L) (k : Nat) : w.frozen? ⟨g, k, none⟩ = false := by
  have hn : n = L.length := by
    rcases h.2 with ⟨hv, _⟩ | ⟨g', cap', cur, hv, _⟩
    · cases hv
    · injection hv
  have h' : w.ownsRow base e E.n (.slice (some ⟨g, 0, none⟩) L.length cap) L.length (L.flatMap E.enc) := by rw [hn] at h; exact h
  exact h'.frozenAt k
end Go.Proofs.YthabmofkjdiccaaGreatDoor

namespace Go.Proofs.YthabmofkjdiccaaGreatDoor
open Go.RowKit
set_option linter.unusedVariables false

theorem befI_irrefl (a : DIncident) : befI a a = false := by unfold befI; rw [if_pos rfl, if_pos rfl]; exact ltS_irrefl _
theorem befI_asymm {a b : DIncident} (h : befI a b = true) : befI b a = false := by
  cases h2 : befI b a with
  | false => rfl
  | true => have := befI_trans h h2; rw [befI_irrefl] at this; cases this
theorem befI_eq {a b : DIncident} (h1 : befI a b = false) (h2 : befI b a = false) : a.day = b.day ∧ a.place = b.place ∧ a.cause = b.cause := by
  unfold befI at h1 h2
  by_cases e1 : a.day = b.day
  · rw [if_pos e1] at h1
    rw [if_pos e1.symm] at h2
    by_cases e2 : a.place = b.place
    · rw [if_pos e2] at h1
      rw [if_pos e2.symm] at h2
      exact ⟨e1, e2, ltS_tri h1 h2⟩
    · rw [if_neg e2] at h1
      rw [if_neg (fun e => e2 e.symm)] at h2
      exact absurd (ltS_tri h1 h2) e2
  · rw [if_neg e1] at h1
    rw [if_neg (fun e => e1 e.symm)] at h2
    have := of_decide_eq_false h1
    have := of_decide_eq_false h2
    omega
theorem cmpInc_same {a b : DIncident} (h : a.day = b.day ∧ a.place = b.place ∧ a.cause = b.cause) : cmpInc a b = 0 := by
  unfold cmpInc
  rw [orI_three, if_pos (cmI_zero.2 h.1), if_pos (cmT_zero.2 h.2.1)]
  exact cmT_zero.2 h.2.2
theorem cmpInc_zero {a b : DIncident} : cmpInc a b = 0 ↔ (befI a b = false ∧ befI b a = false) := by
  constructor
  · intro h
    have h1 : befI a b = false := by rw [← cmpInc_lt]; exact decide_eq_false (by omega)
    refine ⟨h1, ?_⟩
    cases h2 : befI b a with
    | false => rfl
    | true =>
      exfalso
      have hall : a.day = b.day ∧ a.place = b.place ∧ a.cause = b.cause := by
        unfold cmpInc at h
        rw [orI_three] at h
        by_cases e1 : cmI a.day b.day = 0
        · rw [if_pos e1] at h
          by_cases e2 : cmT a.place b.place = 0
          · rw [if_pos e2] at h
            exact ⟨cmI_zero.1 e1, cmT_zero.1 e2, cmT_zero.1 h⟩
          · rw [if_neg e2] at h; exact absurd h e2
        · rw [if_neg e1] at h; exact absurd h e1
      unfold befI at h2
      rw [if_pos hall.1.symm, if_pos hall.2.1.symm, hall.2.2, ltS_irrefl] at h2
      cases h2
  · rintro ⟨h1, h2⟩
    exact cmpInc_same (befI_eq h1 h2)
theorem incs_of {L : List DIncident} (h1 : ∀ y ∈ L, incB y = true) (h2 : ∀ i (hi : i + 1 < L.length), befI L[i] L[i + 1] = true) (h3 : L.length ≤ 48) : incsB L = true := by
  unfold incsB
  rw [decide_eq_true h3, Bool.and_true, allIdx_true]
  intro i hi
  unfold incOk
  rw [getD_of_lt hi, h1 _ (List.getElem_mem hi), Bool.true_and]
  cases i with
  | zero => rfl
  | succ i =>
    rw [Nat.add_sub_cancel, getD_of_lt (show i < L.length by omega)]
    rw [h2 i hi, Bool.or_true]
theorem incs_lt {xs : List DIncident} (h : incsB xs = true) (j i : Nat) (hj : j < xs.length) (hi : i < j) : befI (xs[i]'(by omega)) xs[j] = true :=
  ordered_lt (bef := fun a b : DIncident => befI a b = true) (fun _ _ _ h1 h2 => befI_trans h1 h2) (fun i hi => incsB_two h hi) j i hj hi
/-- A list into which an incident is put. -/
theorem addInc_valid {xs : List DIncident} {x : DIncident} (hc : addIncidentC xs x = 0) :
    incsB (addIncidentF xs x) = true ∧ (addIncidentF xs x).length = xs.length + 1 ∧ ∃ k, ∃ hk : k < (addIncidentF xs x).length, (addIncidentF xs x)[k] = x := by
  obtain ⟨hv, ho, hh, hl⟩ := addIncident_ok hc
  have hF : addIncidentF xs x = xs.take (atIncident xs x) ++ x :: xs.drop (atIncident xs x) := by unfold addIncidentF; rw [if_pos hc]
  rw [hF]
  have hp := posF_specP (fun y : DIncident => decide (cmpInc y x < 0)) xs
  have hle : atIncident xs x ≤ xs.length := posF_le _ _
  have hb : ∀ m (hm : m < xs.length), m < atIncident xs x → befI xs[m] x = true := fun m hm h => by rw [← cmpInc_lt]; exact hp.1 m hm h
  have ha : ∀ m (hm : m < xs.length), atIncident xs x ≤ m → befI x xs[m] = true := fun m hm h => by
    have h1 : atIncident xs x < xs.length := by omega
    have h2 : befI xs[atIncident xs x] x = false := by rw [← cmpInc_lt]; exact hp.2 h1
    have h3 : befI x xs[atIncident xs x] = true := by
      cases h4 : befI x xs[atIncident xs x] with
      | true => rfl
      | false =>
        unfold hasIncident at hh
        rw [List.getElem?_eq_getElem h1] at hh
        have h5 : (cmpInc xs[atIncident xs x] x == 0) = false := hh
        rw [beq_eq_false_iff_ne] at h5
        exact absurd (cmpInc_zero.2 ⟨h2, h4⟩) h5
    rcases Nat.lt_or_eq_of_le h with h4 | h4
    · exact befI_trans h3 (incs_lt hv m (atIncident xs x) hm h4)
    · have e : xs[m] = xs[atIncident xs x] := by congr 1; exact h4.symm
      rw [e]; exact h3
  obtain ⟨p1, p2, p3, p4, p5⟩ := put_ordered (bef := fun a b : DIncident => befI a b = true) (fun _ _ _ h1 h2 => befI_trans h1 h2) (fun i hi => incsB_two hv hi) hle hb ha
  refine ⟨incs_of (fun y hy => ?_) p3 (by omega), p1, _, p4, p5⟩
  rcases p2 y hy with h | rfl
  · obtain ⟨m, hm, rfl⟩ := List.getElem_of_mem h
    exact incsB_one hv hm
  · exact ho
theorem addIncident_mem {xs : List DIncident} {x y : DIncident} (h : y ∈ addIncidentF xs x) : y ∈ xs ∨ y = x := by
  unfold addIncidentF at h
  split at h
  · rcases List.mem_append.1 h with h | h
    · exact .inl (List.mem_of_mem_take h)
    · rcases List.mem_cons.1 h with h | h
      · exact .inr h
      · exact .inl (List.mem_of_mem_drop h)
  · cases h
theorem addIncident_length {xs : List DIncident} {x : DIncident} : (addIncidentF xs x).length ≤ xs.length + 1 := by
  unfold addIncidentF
  split
  · simp; omega
  · simp
set_option maxRecDepth 100000 in
set_option maxHeartbeats 8000000 in
theorem specAddIncident_any (v : Value) (xs : List DIncident) (fp : List Nat) (x : DIncident) (w : World) (hx : Sl fIncident.cod w v xs fp) (hok : fIncident.ok x) :
    Calls Tryz.prog 96 #[v, .agg #[.int .i64 x.day, .string x.place, .string x.cause, .int .i64 x.level, .int .i64 x.caught, .int .i64 x.buried]] w fun e w' => ∃ v', e = .returned (.tuple #[v', .int .i64 (addIncidentC xs x)]) ∧ Own fIncident w' w.heap.size 48 v' (addIncidentF xs x) ∧ Below w.heap.size w w' := by
  obtain ⟨A, cap, rfl, hlen, hcap⟩ := hx.form
  obtain ⟨i0, hi, hz0, hz1, hz2⟩ := info_parts infoIncidentK
  have hfp := hx.lt
  have hB0 : Below w.heap.size w (w.alloc (.cells #[.int .i64 x.day, .string x.place, .string x.cause, .int .i64 x.level, .int .i64 x.caught, .int .i64 x.buried] 48)) := (Below.refl _ _).alloc (Nat.le_refl _) _
  have hp := PIncident.box w x 48
  replace hx := hx.below' hB0
  go_enter Tryz.func96, Tryz.ntmps96
  go_wp2_with fail
  refine (l28Ok_any _ xs fp _ hx).mono ?_
  rintro e w1 ⟨rfl, hb1⟩
  have hp1 := hp.below' hb1
  have hx1 := hx.below' hb1
  have hB1 := hB0.trans (hb1.mono hB0.size)
  clear hp hx hb1 hB0
  cases hv : incsB xs
  · have HE := Lib.hid (addIncident_bad (x := x) (show addIncidentC xs x = 1 by unfold addIncidentC; rw [hv]; rfl) (by decide))
    go_wp2
    go_ret2
    exact ⟨_, by rw [HE.out.1]; rfl, by rw [HE.out.2]; exact Own.nil _ _ _ _, hB1⟩
  have hlen2 := incsB_len hv
  go_wp2_with fail
  refine (l28One_any _ _ x _ hp1 hok).mono ?_
  rintro e w2 ⟨rfl, hb2⟩
  have hp2 := hp1.below' hb2
  have hx2 := hx1.below' hb2
  have hB2 := hB1.trans (hb2.mono hB1.size)
  have hgx := hp2.lt
  clear hp1 hx1 hb2 hB1
  cases ho : incB x
  · have HE := Lib.hid (addIncident_bad (show addIncidentC xs x = 2 by unfold addIncidentC; rw [hv, ho]; rfl) (by decide))
    go_wp2
    go_ret2
    exact ⟨_, by rw [HE.out.1]; rfl, by rw [HE.out.2]; exact Own.nil _ _ _ _, hB2⟩
  go_wp2
  go_loopw [6] (fun i wr => ∃ k : Nat, k ≤ xs.length ∧ i = .int .i64 k ∧ Hid (∀ m (h : m < xs.length), m < k → befI xs[m] x = true) ∧ Below w2.heap.size w2 wr) (fun i _ => xs.length - (intOf i).toNat)
  case atStart => exact ⟨0, Nat.zero_le _, rfl, fun m _ h => absurd h (Nat.not_lt_zero _), Below.refl _ _⟩
  case round =>
    obtain ⟨k, hk, rfl, HA, hb⟩ := hrel
    by_cases hlt : k < xs.length
    · obtain ⟨b1, off, rfl, _, hok1, hpm⟩ := PIncident.elem (hx2.below' hb) hlt
      go_wp2_with fail
      refine (l28Before_any _ _ _ _ _ _ _ hpm (hp2.below' hb)).mono ?_
      rintro e w3 ⟨rfl, hb3⟩
      have hpm3 := hpm.below' hb3
      have hb4 := hb.trans (hb3.mono hb.size)
      clear hb3 hpm hb
      cases hq : befI xs[k] x
      rotate_left
      · have HA2 : Hid (∀ m (h : m < xs.length), m < k + 1 → befI xs[m] x = true) := fun m h hm => by
          rcases Nat.lt_or_eq_of_le (Nat.le_of_lt_succ hm) with h1 | rfl
          · exact HA.out m h h1
          · exact hq
        clear HA
        go_wp2
        go_roundw
        case rel => exact ⟨k + 1, by omega, by go_num, HA2, hb4⟩
        case measure => simp [intOf]; omega
      have HAT : Hid (atIncident xs x = k) := posF_is _ xs k hk (fun m h hm => by show decide _ = true; rw [cmpInc_lt]; exact HA.out m h hm) (fun h => by show decide _ = false; rw [cmpInc_lt]; exact hq)
      go_wp2_with fail
      refine (l28Before_any _ _ _ _ _ _ _ (hp2.below' hb4) hpm3).mono ?_
      rintro e w5 ⟨rfl, hb5⟩
      have hb6 := hb4.trans (hb5.mono hb4.size)
      have hB8 := hB2.trans (hb6.mono hB2.size)
      have hx8 := hx2.below' hb6
      have hp8 := hp2.below' hb6
      clear hb5 hb4 hpm3 HA hb6
      cases hr : befI x xs[k]
      · have hh : hasIncident xs x = true := by
          unfold hasIncident
          rw [HAT.out, List.getElem?_eq_getElem hlt]
          show (cmpInc _ _ == 0) = true
          rw [beq_iff_eq]; exact cmpInc_zero.2 ⟨hq, hr⟩
        have HE := Lib.hid (addIncident_bad (show addIncidentC xs x = 4 by unfold addIncidentC; rw [hv, ho, hh]; rfl) (by decide))
        clear hh ho hv hq hr
        go_wp2
        go_ret2
        exact ⟨_, by rw [HE.out.1]; rfl, by rw [HE.out.2]; exact Own.nil _ _ _ _, hB8⟩
      have hh : hasIncident xs x = false := by
        unfold hasIncident
        rw [HAT.out, List.getElem?_eq_getElem hlt]
        show (cmpInc _ _ == 0) = false
        rw [beq_eq_false_iff_ne]; exact fun h => by have := (cmpInc_zero.1 h).2; rw [hr] at this; cases this
      generalize hW8 : w5 = W8 at *
      clear hW8 hq hr
      by_cases hM : xs.length = 48
      · have HE := Lib.hid (addIncident_bad (show addIncidentC xs x = 5 by unfold addIncidentC; rw [hv, ho, hh, if_pos hM]; rfl) (by decide))
        have eM : ((xs.length : Int) == 48) = true := by rw [hM]; rfl
        clear hM hh ho hv
        go_wp2
        go_ret2
        exact ⟨_, by rw [HE.out.1]; rfl, by rw [HE.out.2]; exact Own.nil _ _ _ _, hB8⟩
      have hC0 : addIncidentC xs x = 0 := by unfold addIncidentC; rw [hv, ho, hh, if_neg hM]; rfl
      have HC := Lib.hid hC0
      have HF : Hid (addIncidentF xs x = xs.take k ++ x :: xs.drop k) := by show _ = _; unfold addIncidentF; rw [if_pos hC0, HAT.out]
      have eM : ((xs.length : Int) == 48) = false := by rw [beq_eq_false_iff_ne]; omega
      clear hC0 hM hh ho hv HAT
      have hB10 : Below W8.heap.size W8 (W8.alloc (.cells #[] 48)) := (Below.refl _ _).alloc (Nat.le_refl _) _
      have hx9 := hx8.below' hB10
      have hp9 := hp8.below' hB10
      have hB11 := hB8.trans (hB10.mono hB8.size)
      have hsz8 : w.heap.size + 1 ≤ W8.heap.size := hp8.lt
      have hs11 : w.heap.size + 1 ≤ (W8.alloc (.cells #[] 48)).heap.size := by simp; omega
      have ho5 := Own.lit0m fIncident (w := W8) (base := w.heap.size + 1) hsz8 (e := 48)
      have hsrc := hx9.src_take (k := k) (c := cap) (by omega)
      go_wp2_with (at_builtin; refine wpList_append_src (E := fIncident) rfl _ _ 46 rfl (w.heap.size + 1) 48 i0 (.agg #[.int .i64 0, .string ⟨#[]⟩, .string ⟨#[]⟩, .int .i64 0, .int .i64 0, .int .i64 0]) 64 Tryz.underlying46 hi hz0 hz1 hz2 rfl (.slice (some ⟨W8.heap.size, 0, none⟩) 0 0) [] rfl ho5 _ (xs.take k) rfl hsrc (by simp <;> omega) (by decide) hs11 ?_)
      intro v' u hown hbu
      try rw [List.nil_append] at hown
      have hB12 := hB11.trans (hbu.mono (Nat.le_succ _))
      have hx10 := hx9.below hbu (fun b hb => by have := hfp b hb; omega)
      have hp10 := hp9.below hbu (Nat.lt_succ_self _)
      have hlk : (xs.take k).length = k := by rw [List.length_take]; omega
      have hown1 : u.ownsRow (w.heap.size + 1) 48 6 v' k ((xs.take k).flatMap fIncident.enc) := by
        have h : u.ownsRow (w.heap.size + 1) 48 6 v' (xs.take k).length ((xs.take k).flatMap fIncident.enc) := hown
        rw [hlk] at h; exact h
      have hs12 : w.heap.size + 1 ≤ u.heap.size := hp10.lt
      obtain ⟨d0, d1, d2, d3, d4, d5⟩ := id hp10
      clear hown hx9 hp9 hx8 hp8 hsrc hbu
      go_wp2_with (at_builtin; refine wpList_append_one rfl _ _ 46 rfl (w.heap.size + 1) 48 i0 (.agg #[.int .i64 0, .string ⟨#[]⟩, .string ⟨#[]⟩, .int .i64 0, .int .i64 0, .int .i64 0]) 6 64 Tryz.underlying46 hi hz0 hz1 hz2 rfl (by decide) v' k _ rfl hown1 [.int .i64 x.day, .string x.place, .string x.cause, .int .i64 x.level, .int .i64 x.caught, .int .i64 x.buried] rfl (by intro u hu; simp only [List.mem_cons, List.not_mem_nil, or_false] at hu; rcases hu with rfl | rfl | rfl | rfl | rfl | rfl <;> rfl) rfl (by omega) (by decide) hs12 ?_)
      intro v2 u2 hown2 hbu2 _ _
      have hB13 := hB12.trans (hbu2.mono (Nat.le_succ _))
      have hx11 := hx10.below hbu2 (fun b hb => by have := hfp b hb; omega)
      have hp11 := hp10.below hbu2 (Nat.lt_succ_self _)
      have ho6 : Own fIncident u2 (w.heap.size + 1) 48 v2 (xs.take k ++ [x]) := Own.push x (by rw [hlk]) hown2
      have hs13 : w.heap.size + 1 ≤ u2.heap.size := hp11.lt
      clear hown2 hown1 hx10 hp10 hbu2 d0 d1 d2 d3 d4 d5
      have hcl : k < cap := by omega
      have hsrc2 := hx11.src_drop (k := k) (c := cap - k) (by omega)
      go_wp2_with (at_builtin; refine wpList_append_src (E := fIncident) rfl _ _ 46 rfl (w.heap.size + 1) 48 i0 (.agg #[.int .i64 0, .string ⟨#[]⟩, .string ⟨#[]⟩, .int .i64 0, .int .i64 0, .int .i64 0]) 64 Tryz.underlying46 hi hz0 hz1 hz2 rfl v2 (xs.take k ++ [x]) rfl ho6 _ (xs.drop k) rfl hsrc2 (by simp <;> omega) (by decide) hs13 ?_)
      intro v3 u3 hown3 hbu3
      have hB14 := hB13.trans (hbu3.mono (Nat.le_succ _))
      have hEQ : xs.take k ++ [x] ++ xs.drop k = xs.take k ++ x :: xs.drop k := by simp
      have ho7 : Own fIncident u3 w.heap.size 48 v3 (addIncidentF xs x) := by rw [HF.out]; first | exact ownM_ hown3 (Nat.le_succ _) | (rw [← hEQ]; exact ownM_ hown3 (Nat.le_succ _)) | (have h9 := hown3; simp only [List.append_nil, List.take_length, List.drop_length] at h9 ⊢; exact ownM_ h9 (Nat.le_succ _))
      clear hown3 ho6
      go_wp2
      go_ret2
      exact ⟨_, by rw [HC.out]; rfl, ho7, hB14⟩
    · have hkl : k = xs.length := by omega
      have HAT : Hid (atIncident xs x = k) := posF_is _ xs k hk (fun m h hm => by show decide _ = true; rw [cmpInc_lt]; exact HA.out m h hm) (fun h => absurd h hlt)
      have hh : hasIncident xs x = false := by
        unfold hasIncident
        rw [HAT.out, List.getElem?_eq_none (by omega)]
      have hB8 := hB2.trans (hb.mono hB2.size)
      have hx8 := hx2.below' hb
      have hp8 := hp2.below' hb
      clear HA hkl hb
      generalize hW8 : wr = W8 at *
      clear hW8
      by_cases hM : xs.length = 48
      · have HE := Lib.hid (addIncident_bad (show addIncidentC xs x = 5 by unfold addIncidentC; rw [hv, ho, hh, if_pos hM]; rfl) (by decide))
        have eM : ((xs.length : Int) == 48) = true := by rw [hM]; rfl
        clear hM hh ho hv
        go_wp2
        go_ret2
        exact ⟨_, by rw [HE.out.1]; rfl, by rw [HE.out.2]; exact Own.nil _ _ _ _, hB8⟩
      have hC0 : addIncidentC xs x = 0 := by unfold addIncidentC; rw [hv, ho, hh, if_neg hM]; rfl
      have HC := Lib.hid hC0
      have HF : Hid (addIncidentF xs x = xs.take k ++ x :: xs.drop k) := by show _ = _; unfold addIncidentF; rw [if_pos hC0, HAT.out]
      have eM : ((xs.length : Int) == 48) = false := by rw [beq_eq_false_iff_ne]; omega
      clear hC0 hM hh ho hv HAT
      have hB10 : Below W8.heap.size W8 (W8.alloc (.cells #[] 48)) := (Below.refl _ _).alloc (Nat.le_refl _) _
      have hx9 := hx8.below' hB10
      have hp9 := hp8.below' hB10
      have hB11 := hB8.trans (hB10.mono hB8.size)
      have hsz8 : w.heap.size + 1 ≤ W8.heap.size := hp8.lt
      have hs11 : w.heap.size + 1 ≤ (W8.alloc (.cells #[] 48)).heap.size := by simp; omega
      have ho5 := Own.lit0m fIncident (w := W8) (base := w.heap.size + 1) hsz8 (e := 48)
      have hsrc := hx9.src_take (k := k) (c := cap) (by omega)
      go_wp2_with (at_builtin; refine wpList_append_src (E := fIncident) rfl _ _ 46 rfl (w.heap.size + 1) 48 i0 (.agg #[.int .i64 0, .string ⟨#[]⟩, .string ⟨#[]⟩, .int .i64 0, .int .i64 0, .int .i64 0]) 64 Tryz.underlying46 hi hz0 hz1 hz2 rfl (.slice (some ⟨W8.heap.size, 0, none⟩) 0 0) [] rfl ho5 _ (xs.take k) rfl hsrc (by simp <;> omega) (by decide) hs11 ?_)
      intro v' u hown hbu
      try rw [List.nil_append] at hown
      have hB12 := hB11.trans (hbu.mono (Nat.le_succ _))
      have hx10 := hx9.below hbu (fun b hb => by have := hfp b hb; omega)
      have hp10 := hp9.below hbu (Nat.lt_succ_self _)
      have hlk : (xs.take k).length = k := by rw [List.length_take]; omega
      have hown1 : u.ownsRow (w.heap.size + 1) 48 6 v' k ((xs.take k).flatMap fIncident.enc) := by
        have h : u.ownsRow (w.heap.size + 1) 48 6 v' (xs.take k).length ((xs.take k).flatMap fIncident.enc) := hown
        rw [hlk] at h; exact h
      have hs12 : w.heap.size + 1 ≤ u.heap.size := hp10.lt
      obtain ⟨d0, d1, d2, d3, d4, d5⟩ := id hp10
      clear hown hx9 hp9 hx8 hp8 hsrc hbu
      go_wp2_with (at_builtin; refine wpList_append_one rfl _ _ 46 rfl (w.heap.size + 1) 48 i0 (.agg #[.int .i64 0, .string ⟨#[]⟩, .string ⟨#[]⟩, .int .i64 0, .int .i64 0, .int .i64 0]) 6 64 Tryz.underlying46 hi hz0 hz1 hz2 rfl (by decide) v' k _ rfl hown1 [.int .i64 x.day, .string x.place, .string x.cause, .int .i64 x.level, .int .i64 x.caught, .int .i64 x.buried] rfl (by intro u hu; simp only [List.mem_cons, List.not_mem_nil, or_false] at hu; rcases hu with rfl | rfl | rfl | rfl | rfl | rfl <;> rfl) rfl (by omega) (by decide) hs12 ?_)
      intro v2 u2 hown2 hbu2 _ _
      have hB13 := hB12.trans (hbu2.mono (Nat.le_succ _))
      have hx11 := hx10.below hbu2 (fun b hb => by have := hfp b hb; omega)
      have hp11 := hp10.below hbu2 (Nat.lt_succ_self _)
      have ho6 : Own fIncident u2 (w.heap.size + 1) 48 v2 (xs.take k ++ [x]) := Own.push x (by rw [hlk]) hown2
      have hs13 : w.heap.size + 1 ≤ u2.heap.size := hp11.lt
      clear hown2 hown1 hx10 hp10 hbu2 d0 d1 d2 d3 d4 d5
      obtain rfl : k = xs.length := by omega
      have hD0 : xs.drop xs.length = [] := List.drop_length
      rcases Nat.eq_or_lt_of_le hlen with hce | hcl
      · subst hce
        have hsrc2 : ∀ A, Src fIncident u2 (.slice A 0 0) ([] : List DIncident) := fun A => Src.empty
        cases A
        all_goals
          go_wp2_with (at_builtin; refine wpList_append_src (E := fIncident) rfl _ _ 46 rfl (w.heap.size + 1) 48 i0 (.agg #[.int .i64 0, .string ⟨#[]⟩, .string ⟨#[]⟩, .int .i64 0, .int .i64 0, .int .i64 0]) 64 Tryz.underlying46 hi hz0 hz1 hz2 rfl v2 (xs.take xs.length ++ [x]) rfl ho6 _ [] rfl (hsrc2 _) (by simp <;> omega) (by decide) hs13 ?_)
          intro v3 u3 hown3 hbu3
          have hB14 := hB13.trans (hbu3.mono (Nat.le_succ _))
          have hEQ : xs.take xs.length ++ [x] ++ xs.drop xs.length = xs.take xs.length ++ x :: xs.drop xs.length := by simp
          have ho7 : Own fIncident u3 w.heap.size 48 v3 (addIncidentF xs x) := by rw [HF.out]; first | exact ownM_ hown3 (Nat.le_succ _) | (rw [← hEQ]; exact ownM_ hown3 (Nat.le_succ _)) | (have h9 := hown3; simp only [List.append_nil, List.take_length, List.drop_length] at h9 ⊢; exact ownM_ h9 (Nat.le_succ _))
          clear hown3 ho6
          go_wp2
          go_ret2
          exact ⟨_, by rw [HC.out]; rfl, ho7, hB14⟩
      · have hsrc2 : ∀ A c, Src fIncident u2 (.slice A 0 c) ([] : List DIncident) := fun A c => Src.empty
        cases A
        all_goals
          go_wp2_with (at_builtin; refine wpList_append_src (E := fIncident) rfl _ _ 46 rfl (w.heap.size + 1) 48 i0 (.agg #[.int .i64 0, .string ⟨#[]⟩, .string ⟨#[]⟩, .int .i64 0, .int .i64 0, .int .i64 0]) 64 Tryz.underlying46 hi hz0 hz1 hz2 rfl v2 (xs.take xs.length ++ [x]) rfl ho6 _ [] rfl (hsrc2 _ _) (by simp <;> omega) (by decide) hs13 ?_)
          intro v3 u3 hown3 hbu3
          have hB14 := hB13.trans (hbu3.mono (Nat.le_succ _))
          have hEQ : xs.take xs.length ++ [x] ++ xs.drop xs.length = xs.take xs.length ++ x :: xs.drop xs.length := by simp
          have ho7 : Own fIncident u3 w.heap.size 48 v3 (addIncidentF xs x) := by rw [HF.out]; first | exact ownM_ hown3 (Nat.le_succ _) | (rw [← hEQ]; exact ownM_ hown3 (Nat.le_succ _)) | (have h9 := hown3; simp only [List.append_nil, List.take_length, List.drop_length] at h9 ⊢; exact ownM_ h9 (Nat.le_succ _))
          clear hown3 ho6
          go_wp2
          go_ret2
          exact ⟨_, by rw [HC.out]; rfl, ho7, hB14⟩

end Go.Proofs.YthabmofkjdiccaaGreatDoor

namespace Go.Proofs.YthabmofkjdiccaaGreatDoor
open Go.RowKit
section
variable {P : Program} {ops : Array Oper} {Q : Exit → Act → World → Prop} {md : Region.Mode} {C : World → Prop} {t : Nat}

/-- Whichever comes up: behind each but number 't' the class holds. -/
def wpSink (P : Program) (md : Region.Mode) (ops : Array Oper) (Q : Exit → Act → World → Prop) (C : World → Prop) (t : Nat) : Nat → Array Bool → Act → World → Prop
  | 0, L, a, w => Region.ready md ops L = [] ∧ Q .normal a w
  | n + 1, L, a, w => (Region.ready md ops L = [] → Q .normal a w) ∧ ∀ i, i ∈ Region.ready md ops L → wpOp P ops Q i (fun b v => (i ≠ t → C v) ∧ wpSink P md ops Q C t n (L.setIfInBounds i true) b v) a w
theorem any_of_sink : ∀ (n : Nat) (L : Array Bool) (a : Act) (w : World), wpSink P md ops Q C t n L a w → wpAny P md ops Q n L a w
  | 0, _, _, _, h => h
  | n + 1, _, _, _, h => And.intro h.1 fun i hi => wpOp_mono (fun b v g => any_of_sink n _ b v g.2) (h.2 i hi)
/-- Does number 't' wait for number 'i'? -/
def waitsOn (md : Region.Mode) (ops : Array Oper) (t i : Nat) : Bool := match ops[t]? with | some o => o.after.any (fun e => Region.binds md e && e.on == i) | none => false
theorem waitsOn_not {i : Nat} {L : Array Bool} (hw : waitsOn md ops t i = true) (hi : L.getD i true = false) : t ∉ Region.ready md ops L := by
  intro ht
  obtain ⟨_, o, ho, hall⟩ := mem_ready.1 ht
  unfold waitsOn at hw
  rw [ho] at hw
  simp only at hw
  obtain ⟨e, he, hb⟩ := Array.any_eq_true'.1 hw
  simp only [Bool.and_eq_true, beq_iff_eq] at hb
  have h1 := hall e he hb.1
  rw [hb.2] at h1
  rcases Nat.lt_or_ge i L.size with h' | h'
  · simp [h'] at hi h1; rw [hi] at h1; cases h1
  · simp [Array.getElem?_eq_none h'] at h1
theorem sink_first {i : Nat} {o : Oper} {v : Value} (ho : ops[i]? = some o) (hs : Region.noSelect ops = true) (hit : i ≠ t) (hwt : waitsOn md ops t i = true)
    (hQ : ∀ c a w, Q (.panic c) (a.put o.dst v) w → Q (.panic c) a w) : ∀ (n : Nat) (L : Array Bool) (a : Act) (w : World),
      (∀ j p, ops[j]? = some p → j ≠ i → L.getD j true = false → (∀ e ∈ p.after, Region.binds md e = true → e.on ≠ i) → o.apart ops p = true) →
      i ∈ Region.ready md ops L → YieldsIf P ops C o v a → C w → wpSink P md ops Q C t n (L.setIfInBounds i true) (a.put o.dst v) w → wpSink P md ops Q C t (n + 1) L a w := by
  intro n
  induction n with
  | zero =>
    intro L a w _ hr hy hC H
    constructor
    · intro h; rw [h] at hr; exact absurd hr List.not_mem_nil
    · intro j hj
      rcases Decidable.em (j = i) with rfl | e
      · exact hy.wpOp ho hC ⟨fun _ => hC, H⟩
      · have h2 := ready_mono hj e
        rw [H.1] at h2
        exact absurd h2 List.not_mem_nil
  | succ n ih =>
    intro L a w hf hr hy hC H
    constructor
    · intro h; rw [h] at hr; exact absurd hr List.not_mem_nil
    · intro j hj
      rcases Decidable.em (j = i) with rfl | e
      · exact hy.wpOp ho hC ⟨fun _ => hC, H⟩
      · have hun := (mem_ready.1 hr).1
        have hjt : j ≠ t := fun h => waitsOn_not hwt hun (h ▸ hj)
        obtain ⟨hju, p, hp, hall⟩ := mem_ready.1 hj
        have hno : ∀ e ∈ p.after, Region.binds md e = true → e.on ≠ i := fun e he hb h => by
          have h1 := hall e he hb
          rw [h] at h1
          rcases Nat.lt_or_ge i L.size with h' | h'
          · simp [h'] at hun h1; rw [hun] at h1; cases h1
          · simp [Array.getElem?_eq_none h'] at h1
        have h2 := wpOp_putIf hp (hf j p hp e hju hno) (fun cs b => Region.noSelect_spec hs i o cs b ho) (fun cs b => Region.noSelect_spec hs j p cs b hp) hQ hy (H.2 j (ready_mono hj e))
        refine wpOp_mono (fun b u g => ?_) h2
        have hCu := g.2.1 hjt
        refine ⟨fun _ => hCu, ih _ b u (fun k q hk hki hku hkn => ?_) (ready_mono hr (Ne.symm e)) g.1 hCu ?_⟩
        · refine hf k q hk hki ?_ hkn
          rcases Decidable.em (j = k) with rfl | hjk
          · exact hju
          · rw [getD_set_ne true hjk] at hku; exact hku
        · rw [Array.setIfInBounds_comm _ _ e]
          exact g.2.2

def wpMixS (P : Program) (ops : Array Oper) (Q : Exit → Act → World → Prop) (C : World → Prop) : List Bool → List Oper → Act → World → Prop
  | _, [], a, w => Q .normal a w
  | [], _ :: _, _, _ => False
  | true :: ks, o :: l, a, w => if Region.wanted o (yielded ops a.tmps) then o.quiet P a C (fun a' => wpMixS P ops Q C ks l a' w) else wpMixS P ops Q C ks l (a.put o.dst undef) w
  | false :: ks, o :: l, a, w => if Region.wanted o (yielded ops a.tmps) then o.wp P a w (fun a' w' => (l ≠ [] → C w') ∧ wpMixS P ops Q C ks l a' w') Q else wpMixS P ops Q C ks l (a.put o.dst undef) w
def mixSB (md : Region.Mode) (ops : Array Oper) (t : Nat) : List Nat → List Bool → Array Bool → Bool
  | [], _, L => (Region.ready md ops L).isEmpty
  | i :: is, true :: ks, L => (Region.ready md ops L).contains i && Region.free md ops L i && ((ops[i]?).map valueOnly).getD false && !(i == t) && waitsOn md ops t i && mixSB md ops t is ks (L.setIfInBounds i true)
  | i :: is, false :: ks, L => (Region.ready md ops L == [i]) && (is.isEmpty == (i == t)) && mixSB md ops t is ks (L.setIfInBounds i true)
  | _ :: _, [], _ => false
theorem sink_of_mix (hs : Region.noSelect ops = true) (hQ : ∀ (c : _) (a : Act) (d : Option Tmp) (v : Value) (w : World), Q (.panic c) (a.put d v) w → Q (.panic c) a w) :
    ∀ (is : List Nat) (ks : List Bool) (l : List Oper) (L : Array Bool) (a : Act) (w : World), (∀ j : Nat, l[j]? = (is[j]?).bind (fun i => ops[i]?)) → l.length = is.length →
      mixSB md ops t is ks L = true → (l ≠ [] → C w) → wpMixS P ops Q C ks l a w → wpSink P md ops Q C t is.length L a w := by
  intro is
  induction is with
  | nil =>
    intro ks l L a w _ hn hB _ h
    obtain rfl : l = [] := List.eq_nil_of_length_eq_zero hn
    have h' : Q .normal a w := by cases ks <;> exact h
    exact ⟨by simpa [mixSB] using hB, h'⟩
  | cons i is ih =>
    intro ks l L a w hl hn hB hC h
    cases l with
    | nil => simp at hn
    | cons o l =>
      have hC := hC (by simp)
      have ho : ops[i]? = some o := by simpa using (hl 0).symm
      have hl' : ∀ j : Nat, l[j]? = (is[j]?).bind (fun i => ops[i]?) := fun j => by simpa using hl (j + 1)
      have hn' : l.length = is.length := by simpa using hn
      cases ks with
      | nil => simp [mixSB] at hB
      | cons k ks =>
        cases k with
        | true =>
          simp only [mixSB, Bool.and_eq_true, ho, Option.map_some, Option.getD_some, Bool.not_eq_true', beq_eq_false_iff_ne] at hB
          obtain ⟨⟨⟨⟨⟨hr, hf⟩, hv⟩, hit⟩, hwt⟩, hB'⟩ := hB
          simp only [wpMixS] at h
          have hr' : i ∈ Region.ready md ops L := by simpa using hr
          by_cases hw : Region.wanted o (yielded ops a.tmps) = true
          · rw [if_pos hw] at h
            obtain ⟨v, h1, h2⟩ := yieldsIf_of_quiet hv h
            exact sink_first ho hs hit hwt (fun c a w => hQ c a _ _ w) _ L a w (Region.free_spec ho hf) hr' (.inl ⟨hw, h1⟩) hC (ih ks l _ _ w hl' hn' hB' (fun _ => hC) h2)
          · rw [if_neg hw] at h
            exact sink_first ho hs hit hwt (fun c a w => hQ c a _ _ w) _ L a w (Region.free_spec ho hf) hr' (.inr ⟨by simpa using hw, rfl⟩) hC (ih ks l _ _ w hl' hn' hB' (fun _ => hC) h)
        | false =>
          simp only [mixSB, Bool.and_eq_true, beq_iff_eq] at hB
          obtain ⟨⟨hr, he⟩, hB'⟩ := hB
          simp only [wpMixS] at h
          have hlt : i ≠ t → l ≠ [] := fun hne hl0 => by
            subst hl0
            have : is = [] := List.eq_nil_of_length_eq_zero hn'.symm
            rw [this] at he
            exact hne (by simpa using he.symm)
          refine ⟨fun h0 => by rw [h0] at hr; simp at hr, fun j hj => ?_⟩
          rw [hr, List.mem_singleton] at hj
          subst hj
          unfold wpOp
          simp only [ho]
          by_cases hw : Region.wanted o (yielded ops a.tmps) = true
          · rw [if_pos hw] at h ⊢
            exact .inl (Oper.wp_mono (fun a' w' hh => ⟨fun hne => hh.1 (hlt hne), ih ks l _ a' w' hl' hn' hB' hh.1 hh.2⟩) h)
          · rw [if_neg hw] at h ⊢
            exact ⟨fun _ => hC, ih ks l _ _ w hl' hn' hB' (fun _ => hC) h⟩
structure MixS (P : Program) (ops : Array Oper) (Q : Exit → Act → World → Prop) (C : World → Prop) (ks : List Bool) (l : List Oper) (a : Act) (w : World) : Prop where
  out : wpMixS P ops Q C ks l a w
theorem wp_region_sink {id : Nat} {l : List Oper} {a : Act} {w : World} (is : List Nat) (ks : List Bool) (t : Nat) (hm : P.follows .mixedOrders = true) (hs : Region.noSelect l.toArray = true)
    (hB : (is.all (fun i => decide (i < l.length)) && decide (is.length = l.length) && mixSB .any l.toArray t is ks (Array.replicate l.length false)) = true)
    (hQ : ∀ (c : _) (a : Act) (d : Option Tmp) (v : Value) (w : World), Q (.panic c) (a.put d v) w → Q (.panic c) a w) (hC : C w.drew) (h : MixS P l.toArray Q C ks (is.map fun i => l.getD i default) a w.drew) : (Code.region id l.toArray true).wp P Q a w := by
  simp only [Bool.and_eq_true, decide_eq_true_eq, List.all_eq_true] at hB
  obtain ⟨⟨h1, h2⟩, h3⟩ := hB
  refine wp_region_any hm (any_of_sink (C := C) (t := t) _ _ _ _ ?_)
  have := sink_of_mix (md := .any) hs hQ is ks (is.map fun i => l.getD i default) (Array.replicate l.length false) a w.drew (fun j => by
    rw [List.getElem?_map]
    cases hj : is[j]? with
    | none => rfl
    | some i =>
      have hi := h1 i (List.mem_of_getElem? hj)
      simp [hi, List.getD_eq_getElem?_getD]) (by simp) h3 (fun _ => hC) h.out
  rw [h2] at this
  simpa using this
theorem wpMixS_pure {ks : List Bool} {o : Oper} {l : List Oper} {a : Act} {w : World} (hw : Region.wanted o (yielded ops a.tmps) = true)
    (h : ∀ K : Act → Prop, (∀ a', MixS P ops Q C ks l a' w → K a') → o.quiet P a C K) : MixS P ops Q C (true :: ks) (o :: l) a w := by
  refine ⟨?_⟩
  simp only [wpMixS]; rw [if_pos hw]; exact h _ fun _ h => h.out
theorem wpMixS_skip {k : Bool} {ks : List Bool} {o : Oper} {l : List Oper} {a : Act} {w : World} (hw : Region.wanted o (yielded ops a.tmps) = false)
    (h : ∀ K : Act → Prop, (∀ a', MixS P ops Q C ks l a' w → K a') → K (a.put o.dst undef)) : MixS P ops Q C (k :: ks) (o :: l) a w := by
  have h' : wpMixS P ops Q C ks l (a.put o.dst undef) w := h _ fun _ h => h.out
  refine ⟨?_⟩
  cases k <;> (simp only [wpMixS]; rw [if_neg (by rw [hw]; exact Bool.false_ne_true)]; exact h')
theorem wpMixS_act {ks : List Bool} {o : Oper} {l : List Oper} {a : Act} {w : World} (hw : Region.wanted o (yielded ops a.tmps) = true)
    (h : ∀ K : Act → World → Prop, (∀ a' w', C w' → MixS P ops Q C ks l a' w' → K a' w') → o.wp P a w K Q) : MixS P ops Q C (false :: ks) (o :: l) a w := by
  refine ⟨?_⟩
  simp only [wpMixS]; rw [if_pos hw]; exact h _ fun _ _ hc h => ⟨fun _ => hc, h.out⟩
theorem wpMixS_last {ks : List Bool} {o : Oper} {a : Act} {w : World} (hw : Region.wanted o (yielded ops a.tmps) = true)
    (h : ∀ K : Act → World → Prop, (∀ a' w', Q .normal a' w' → K a' w') → o.wp P a w K Q) : MixS P ops Q C (false :: ks) [o] a w := by
  refine ⟨?_⟩
  simp only [wpMixS]; rw [if_pos hw]; exact h _ fun _ _ hq => ⟨fun h0 => absurd rfl h0, by cases ks <;> exact hq⟩
theorem mixS_world {ks : List Bool} {l : List Oper} {a : Act} {w : World} (X : World → Prop) (hX : X w) (h : ∀ N, X N → MixS P ops Q C ks l a N) : MixS P ops Q C ks l a w := h w hX
end
end Go.Proofs.YthabmofkjdiccaaGreatDoor
