/- Contracts of the functions on one block and on lists of blocks, the program's and the reference's. Written by wip/gen/bk.py. -/
import Derived.Test.YtaaholabodchaaaGreatDoorPBlock
import Derived.Test.YtaaholabodchaaaGreatDoorNm
import Derived.Test.YtaaholabodchaaaGreatDoorAll
import Derived.Test.YtaaholabodchaaaGreatDoorSeg
import Derived.Test.YtaaholabodchaaaGreatDoorColl
import Derived.Test.YtaaholabodchaaaGreatDoorShelf
import Derived.Lib.IndexLaws
namespace Go.Proofs.YtaaholabodchaaaGreatDoor
open Go.RowKit
set_option linter.unusedVariables false

def noNl (l : List UInt8) : Bool := l.all (fun c => !(c == 10))
theorem noNl_step {s : ByteArray} {k : Nat} (h : k < s.size) (h0 : noNl (s.data.toList.take k) = true) (h1 : ¬ (s[k].toNat : Int) = 10) : noNl (s.data.toList.take (k + 1)) = true := by
  rw [List.take_succ_eq_append_getElem (by simpa using h)]
  unfold noNl at *
  rw [List.all_append, h0]
  have : ¬ s[k] = 10 := fun e => h1 (by rw [e]; rfl)
  simp only [List.all_cons, List.all_nil, Bool.and_true, Bool.true_and, Bool.not_eq_true', beq_eq_false_iff_ne]
  exact this
theorem noNl_bad {s : ByteArray} {k : Nat} (h : k < s.size) (h1 : (s[k].toNat : Int) = 10) : noNl s.data.toList = false := by
  unfold noNl
  rw [List.all_eq_false]
  refine ⟨s[k], Array.mem_toList_iff.2 (Array.getElem_mem _), ?_⟩
  have : s[k] = 10 := UInt8.toNat_inj.1 (by have : s[k].toNat = 10 := by omega
                                            rw [this]; rfl)
  simp [this]
theorem noNl_full {s : ByteArray} {k : Nat} (h : s.size ≤ k) (h0 : noNl (s.data.toList.take k) = true) : noNl s.data.toList = true := by
  rwa [List.take_of_length_le (by simpa using h)] at h0
theorem noNl_index (l : List UInt8) : decide (0 ≤ Lib.indexByte l 10) = !(noNl l) := by
  induction l with
  | nil => rfl
  | cons b l ih =>
    have hg := Lib.indexByte_ge l 10
    unfold Lib.indexByte noNl
    by_cases h : b = 10
    · subst h; simp
    · rw [if_neg (by simpa using h)]
      have ih' : decide (0 ≤ Lib.indexByte l 10) = !(l.all fun c => !(c == 10)) := ih
      have hb : (!(b == (10 : UInt8))) = true := by simpa using h
      rw [List.all_cons, hb, Bool.true_and, ← ih']
      by_cases h1 : Lib.indexByte l 10 = -1
      · rw [h1]; rfl
      · rw [if_neg (by simpa using h1)]; simp; omega

def blockB (b : DBlock) : Bool := noNl b.text.data.toList && nameB b.kind && nameB b.name && decide (b.text.size ≤ 400)

set_option maxRecDepth 100000 in
set_option maxHeartbeats 2000000 in
theorem l29One_any (pb po : Nat) (x : DBlock) (w : World) (hp : PBlock w pb po x) (hok : fBlock.ok x) :
    Calls Tryz.prog 43 #[.pointer (some ⟨pb, po, none⟩)] w fun e w' => e = .returned (.bool (blockB x)) ∧ Below w.heap.size w w' := by
  obtain ⟨c0, c1, c2⟩ := hp
  have hok0 : x.kind.size ≤ 9223372036854775807 := hok.1
  have hok1 : x.name.size ≤ 9223372036854775807 := hok.2.1
  have hok2 : x.text.size ≤ 9223372036854775807 := hok.2.2
  go_enter Tryz.func43, Tryz.ntmps43
  go_wp2
  go_loop [3] (fun i => ∃ k : Nat, k ≤ x.text.size ∧ i = .int .i64 k ∧ Hid (noNl (x.text.data.toList.take k) = true)) (fun i => x.text.size - (intOf i).toNat)
  case atStart => exact ⟨0, Nat.zero_le _, rfl, rfl⟩
  case round =>
    obtain ⟨k, hk, rfl, H0⟩ := hrel
    by_cases hlt : k < x.text.size
    · by_cases h10 : (x.text[k].toNat : Int) = 10
      · have e1 : ((x.text[k].toNat : Int) == 10) = true := by simpa using h10
        have HB := Lib.hid (noNl_bad hlt h10)
        clear h10
        go_wp2
        go_ret
        exact ⟨ret_bool (by unfold blockB; rw [HB.out]; rfl), (by repeat (first | exact Below.refl _ _ | assumption | refine Below.alloc ?_ (by first | omega | (simp <;> omega)) _ | refine Below.setCell ?_ (by first | (show _ ≤ _; omega) | (simp <;> omega)) _ | refine Below.drew ?_ | refine below_drewN ?_ _))⟩
      · have e1 : ((x.text[k].toNat : Int) == 10) = false := by simpa using h10
        have HB := Lib.hid (noNl_step hlt H0.out h10)
        clear h10
        go_wp2
        go_round
        case rel => exact ⟨k + 1, by omega, by go_num, HB⟩
        case measure => simp [intOf]; omega
    · have HN := Lib.hid (noNl_full (by omega) H0.out)
      clear H0
      cases h1 : nameB x.kind
      · go_wp2_with (go_at_call 62; refine (l01Name_any _ _ hok0).mono ?_; rintro e w' ⟨rfl, rfl⟩)
        go_ret
        exact ⟨ret_bool (by unfold blockB; rw [HN.out]; simp [*]), (by repeat (first | exact Below.refl _ _ | assumption | refine Below.alloc ?_ (by first | omega | (simp <;> omega)) _ | refine Below.setCell ?_ (by first | (show _ ≤ _; omega) | (simp <;> omega)) _ | refine Below.drew ?_ | refine below_drewN ?_ _))⟩
      · cases h2 : nameB x.name
        · go_wp2_with (go_at_call 62; refine (l01Name_any _ _ (by first | exact hok0 | exact hok1)).mono ?_; rintro e w' ⟨rfl, rfl⟩)
          go_ret
          exact ⟨ret_bool (by unfold blockB; rw [HN.out]; simp [*]), (by repeat (first | exact Below.refl _ _ | assumption | refine Below.alloc ?_ (by first | omega | (simp <;> omega)) _ | refine Below.setCell ?_ (by first | (show _ ≤ _; omega) | (simp <;> omega)) _ | refine Below.drew ?_ | refine below_drewN ?_ _))⟩
        · by_cases h3 : x.text.size ≤ 400
          all_goals
            go_wp2_with (go_at_call 62; refine (l01Name_any _ _ (by first | exact hok0 | exact hok1)).mono ?_; rintro e w' ⟨rfl, rfl⟩)
            go_ret
            exact ⟨ret_bool (by unfold blockB; rw [HN.out]; simp [*] <;> omega), (by repeat (first | exact Below.refl _ _ | assumption | refine Below.alloc ?_ (by first | omega | (simp <;> omega)) _ | refine Below.setCell ?_ (by first | (show _ ≤ _; omega) | (simp <;> omega)) _ | refine Below.drew ?_ | refine below_drewN ?_ _))⟩
set_option maxRecDepth 100000 in
set_option maxHeartbeats 2000000 in
theorem implValidBlock_any (x : DBlock) (w : World) (hok : fBlock.ok x) :
    Calls Tryz.prog 53 #[.agg #[.string x.kind, .string x.name, .string x.text]] w fun e w' => e = .returned (.bool (blockB x)) ∧ Below w.heap.size w w' := by
  have hok0 : x.kind.size ≤ 9223372036854775807 := hok.1
  have hok1 : x.name.size ≤ 9223372036854775807 := hok.2.1
  have hok2 : x.text.size ≤ 9223372036854775807 := hok.2.2
  have HI := Lib.hid (noNl_index x.text.data.toList)
  cases h0 : nameB x.kind
  · go_enter Tryz.func53, Tryz.ntmps53
    go_wp2_with (go_at_call 74; refine (implIsName_any _ _ hok0).mono ?_; rintro e w' ⟨rfl, rfl⟩)
    go_ret
    exact ⟨ret_bool (by simp [blockB, *]), (by repeat (first | exact Below.refl _ _ | assumption | refine Below.alloc ?_ (by first | omega | (simp <;> omega)) _ | refine Below.setCell ?_ (by first | (show _ ≤ _; omega) | (simp <;> omega)) _ | refine Below.drew ?_ | refine below_drewN ?_ _))⟩
  · cases h1 : nameB x.name
    · go_enter Tryz.func53, Tryz.ntmps53
      go_wp2_with (go_at_call 74; refine (implIsName_any _ _ (by first | exact hok0 | exact hok1)).mono ?_; rintro e w' ⟨rfl, rfl⟩)
      go_ret
      exact ⟨ret_bool (by simp [blockB, *]), (by repeat (first | exact Below.refl _ _ | assumption | refine Below.alloc ?_ (by first | omega | (simp <;> omega)) _ | refine Below.setCell ?_ (by first | (show _ ≤ _; omega) | (simp <;> omega)) _ | refine Below.drew ?_ | refine below_drewN ?_ _))⟩
    · by_cases h2 : x.text.size ≤ 400
      all_goals
        go_enter Tryz.func53, Tryz.ntmps53
        go_wp2_with (first | (go_at_call 74; refine (implIsName_any _ _ (by first | exact hok0 | exact hok1)).mono ?_; rintro e w' ⟨rfl, rfl⟩) | (go_at_call 75; refine (Tryz.strings_Contains_one _ _ _).mono ?_; rintro e w' ⟨rfl, rfl⟩))
        go_ret
        exact ⟨ret_bool (by simp [blockB, HI.out, *]), (by repeat (first | exact Below.refl _ _ | assumption | refine Below.alloc ?_ (by first | omega | (simp <;> omega)) _ | refine Below.setCell ?_ (by first | (show _ ≤ _; omega) | (simp <;> omega)) _ | refine Below.drew ?_ | refine below_drewN ?_ _))⟩


def beforeB (a b : DBlock) : Bool := ltS a.kind b.kind || (decide (a.kind = b.kind) && ltS a.name b.name)
def b0 : DBlock := ⟨⟨#[]⟩, ⟨#[]⟩, ⟨#[]⟩⟩
def bOk (xs : List DBlock) (i : Nat) : Bool := blockB (xs.getD i b0) && (decide (i = 0) || beforeB (xs.getD (i - 1) b0) (xs.getD i b0))
def blocksB (xs : List DBlock) : Bool := allIdx (bOk xs) xs.length && decide (xs.length ≤ 32)
theorem bOk_zero {xs : List DBlock} (h : 0 < xs.length) : bOk xs 0 = blockB xs[0] := by simp [bOk, h]
theorem bOk_succ {xs : List DBlock} {m : Nat} (h : m + 1 < xs.length) : bOk xs (m + 1) = (blockB xs[m + 1] && beforeB xs[m] xs[m + 1]) := by
  have h1 : m < xs.length := by omega
  simp [bOk, h, h1]
theorem blocksB_bad {xs : List DBlock} {k : Nat} (h : k < xs.length) (h1 : bOk xs k = false) : blocksB xs = false := by
  unfold blocksB; rw [allIdx_bad h h1]; rfl
theorem blocksB_len {xs : List DBlock} (h : blocksB xs = true) : xs.length ≤ 32 := by
  unfold blocksB at h; simp at h; exact h.2
theorem blocksB_one {xs : List DBlock} (h : blocksB xs = true) {k : Nat} (hk : k < xs.length) : blockB xs[k] = true := by
  unfold blocksB at h
  simp only [Bool.and_eq_true] at h
  have := allIdx_true.1 h.1 k hk
  unfold bOk at this
  simp only [Bool.and_eq_true] at this
  rw [getD_of_lt hk] at this
  exact this.1
theorem blocksB_two {xs : List DBlock} (h : blocksB xs = true) {m : Nat} (hm : m + 1 < xs.length) : beforeB xs[m] xs[m + 1] = true := by
  unfold blocksB at h
  simp only [Bool.and_eq_true] at h
  have := allIdx_true.1 h.1 (m + 1) hm
  rw [bOk_succ hm, Bool.and_eq_true] at this
  exact this.2
def cmpS (a b : ByteArray) : Int := if ltS a b then -1 else if ltS b a then 1 else 0
def cmpB (a b : DBlock) : Int := if cmpS a.kind b.kind = 0 then cmpS a.name b.name else cmpS a.kind b.kind
theorem cmpS_zero {a b : ByteArray} : cmpS a b = 0 ↔ a = b := by
  unfold cmpS
  constructor
  · intro h
    cases h1 : ltS a b with
    | true => rw [h1] at h; simp at h
    | false =>
      cases h2 : ltS b a with
      | true => rw [h1, h2] at h; simp at h
      | false => exact ltS_tri h1 h2
  · rintro rfl; simp [ltS_irrefl]
theorem cmpS_lt {a b : ByteArray} : cmpS a b < 0 ↔ ltS a b = true := by
  unfold cmpS
  cases h1 : ltS a b with
  | true => simp
  | false => cases h2 : ltS b a <;> simp
theorem cmpS_bounds (a b : ByteArray) : -1 ≤ cmpS a b ∧ cmpS a b ≤ 1 := by
  unfold cmpS
  cases ltS a b <;> cases ltS b a <;> simp
theorem cmpB_bounds (a b : DBlock) : -1 ≤ cmpB a b ∧ cmpB a b ≤ 1 := by
  unfold cmpB; split <;> exact cmpS_bounds _ _
theorem cmpB_lt (a b : DBlock) : decide (cmpB a b < 0) = beforeB a b := by
  unfold cmpB beforeB
  by_cases h : a.kind = b.kind
  · rw [if_pos (cmpS_zero.2 h), h, ltS_irrefl]
    rw [Bool.eq_iff_iff]; simp [cmpS_lt]
  · rw [if_neg (fun e => h (cmpS_zero.1 e))]
    rw [Bool.eq_iff_iff]; simp [cmpS_lt, h]
theorem cmpB_zero {a b : DBlock} : cmpB a b = 0 ↔ a.kind = b.kind ∧ a.name = b.name := by
  unfold cmpB
  split
  · rename_i h; rw [cmpS_zero] at *; exact ⟨fun e => ⟨h, e⟩, fun e => e.2⟩
  · rename_i h; exact ⟨fun e => absurd e h, fun e => absurd (cmpS_zero.2 e.1) h⟩
set_option maxRecDepth 100000 in
set_option maxHeartbeats 2000000 in
theorem l29Before_any (pa oa pb ob : Nat) (a b : DBlock) (w : World) (ha : PBlock w pa oa a) (hb : PBlock w pb ob b) :
    Calls Tryz.prog 20 #[.pointer (some ⟨pa, oa, none⟩), .pointer (some ⟨pb, ob, none⟩)] w fun e w' => e = .returned (.bool (beforeB a b)) ∧ Below w.heap.size w w' := by
  obtain ⟨c0, c1, c2⟩ := ha
  obtain ⟨d0, d1, d2⟩ := hb
  go_enter Tryz.func20, Tryz.ntmps20
  go_wp2
  have gc0 := cell_regrown c0
  have gc1 := cell_regrown c1
  have gd0 := cell_regrown d0
  have gd1 := cell_regrown d1
  refine wp_region_mix (C := fun w' => ∃ p : Regrown, w' = Go.Sort.grow (redrawn w p.d) p.os) [true, true, true, true, true, true, true, true, true, true, true, true, true, true, true, true, true, true, true, true, true, true, true, true, true, true, true, true, true, true, true, true] (by kernel_rfl) (by kernel_rfl) (by kernel_rfl) (fun _ _ d _ _ h => by cases d <;> exact h) (regrown_of_below (Below.drew (Below.refl _ _))) ?_
  have hS0 : Below w.heap.size w w.drew := Below.drew (Below.refl _ _)
  refine wpMix_pure (by kernel_rfl) (fun K hK => ?_)
  go_big_quiet_op
  refine hK _ ?_; clear hK K
  refine wpMix_pure (by kernel_rfl) (fun K hK => ?_)
  go_big_quiet_op
  refine hK _ ?_; clear hK K
  refine wpMix_pure (by kernel_rfl) (fun K hK => ?_)
  go_big_quiet_op
  refine hK _ ?_; clear hK K
  refine wpMix_pure (by kernel_rfl) (fun K hK => ?_)
  go_big_quiet_op
  refine hK _ ?_; clear hK K
  refine wpMix_pure (by kernel_rfl) (fun K hK => ?_)
  go_big_quiet_op
  refine hK _ ?_; clear hK K
  refine wpMix_pure (by kernel_rfl) (fun K hK => ?_)
  go_big_quiet_op
  refine hK _ ?_; clear hK K
  refine wpMix_pure (by kernel_rfl) (fun K hK => ?_)
  go_big_quiet_op
  refine hK _ ?_; clear hK K
  refine wpMix_pure (by kernel_rfl) (fun K hK => ?_)
  go_big_quiet_op
  refine hK _ ?_; clear hK K
  by_cases hq8 : ltS a.kind b.kind = true
  · skip
    have e1 : Op.bytesLess a.kind.toList b.kind.toList = true := hq8
    refine wpMix_pure (by kernel_rfl) (fun K hK => ?_)
    go_big_quiet_op
    refine hK _ ?_; clear hK K
    refine wpMix_pure (by kernel_rfl) (fun K hK => ?_)
    go_big_quiet_op
    refine hK _ ?_; clear hK K
    refine wpMix_skip (by kernel_rfl) (fun K hK => ?_)
    simp only [Act.put, List.setIfInBounds_toArray, List.set_cons_zero, List.set_cons_succ]
    refine hK _ ?_; clear hK K
    refine wpMix_skip (by kernel_rfl) (fun K hK => ?_)
    simp only [Act.put, List.setIfInBounds_toArray, List.set_cons_zero, List.set_cons_succ]
    refine hK _ ?_; clear hK K
    refine wpMix_skip (by kernel_rfl) (fun K hK => ?_)
    simp only [Act.put, List.setIfInBounds_toArray, List.set_cons_zero, List.set_cons_succ]
    refine hK _ ?_; clear hK K
    refine wpMix_skip (by kernel_rfl) (fun K hK => ?_)
    simp only [Act.put, List.setIfInBounds_toArray, List.set_cons_zero, List.set_cons_succ]
    refine hK _ ?_; clear hK K
    refine wpMix_skip (by kernel_rfl) (fun K hK => ?_)
    simp only [Act.put, List.setIfInBounds_toArray, List.set_cons_zero, List.set_cons_succ]
    refine hK _ ?_; clear hK K
    refine wpMix_skip (by kernel_rfl) (fun K hK => ?_)
    simp only [Act.put, List.setIfInBounds_toArray, List.set_cons_zero, List.set_cons_succ]
    refine hK _ ?_; clear hK K
    refine wpMix_skip (by kernel_rfl) (fun K hK => ?_)
    simp only [Act.put, List.setIfInBounds_toArray, List.set_cons_zero, List.set_cons_succ]
    refine hK _ ?_; clear hK K
    refine wpMix_skip (by kernel_rfl) (fun K hK => ?_)
    simp only [Act.put, List.setIfInBounds_toArray, List.set_cons_zero, List.set_cons_succ]
    refine hK _ ?_; clear hK K
    refine wpMix_skip (by kernel_rfl) (fun K hK => ?_)
    simp only [Act.put, List.setIfInBounds_toArray, List.set_cons_zero, List.set_cons_succ]
    refine hK _ ?_; clear hK K
    refine wpMix_skip (by kernel_rfl) (fun K hK => ?_)
    simp only [Act.put, List.setIfInBounds_toArray, List.set_cons_zero, List.set_cons_succ]
    refine hK _ ?_; clear hK K
    refine wpMix_skip (by kernel_rfl) (fun K hK => ?_)
    simp only [Act.put, List.setIfInBounds_toArray, List.set_cons_zero, List.set_cons_succ]
    refine hK _ ?_; clear hK K
    refine wpMix_skip (by kernel_rfl) (fun K hK => ?_)
    simp only [Act.put, List.setIfInBounds_toArray, List.set_cons_zero, List.set_cons_succ]
    refine hK _ ?_; clear hK K
    refine wpMix_skip (by kernel_rfl) (fun K hK => ?_)
    simp only [Act.put, List.setIfInBounds_toArray, List.set_cons_zero, List.set_cons_succ]
    refine hK _ ?_; clear hK K
    refine wpMix_skip (by kernel_rfl) (fun K hK => ?_)
    simp only [Act.put, List.setIfInBounds_toArray, List.set_cons_zero, List.set_cons_succ]
    refine hK _ ?_; clear hK K
    refine wpMix_skip (by kernel_rfl) (fun K hK => ?_)
    simp only [Act.put, List.setIfInBounds_toArray, List.set_cons_zero, List.set_cons_succ]
    refine hK _ ?_; clear hK K
    refine wpMix_skip (by kernel_rfl) (fun K hK => ?_)
    simp only [Act.put, List.setIfInBounds_toArray, List.set_cons_zero, List.set_cons_succ]
    refine hK _ ?_; clear hK K
    refine wpMix_skip (by kernel_rfl) (fun K hK => ?_)
    simp only [Act.put, List.setIfInBounds_toArray, List.set_cons_zero, List.set_cons_succ]
    refine hK _ ?_; clear hK K
    refine wpMix_skip (by kernel_rfl) (fun K hK => ?_)
    simp only [Act.put, List.setIfInBounds_toArray, List.set_cons_zero, List.set_cons_succ]
    refine hK _ ?_; clear hK K
    refine wpMix_skip (by kernel_rfl) (fun K hK => ?_)
    simp only [Act.put, List.setIfInBounds_toArray, List.set_cons_zero, List.set_cons_succ]
    refine hK _ ?_; clear hK K
    refine wpMix_skip (by kernel_rfl) (fun K hK => ?_)
    simp only [Act.put, List.setIfInBounds_toArray, List.set_cons_zero, List.set_cons_succ]
    refine hK _ ?_; clear hK K
    refine wpMix_pure (by kernel_rfl) (fun K hK => ?_)
    go_big_quiet_op
    refine hK _ ?_; clear hK K
    refine wpMix_pure (by kernel_rfl) (fun K hK => ?_)
    go_big_quiet_op
    refine hK _ ?_; clear hK K
    refine wpMix_nil ?_
    go_wp2
    go_ret
    exact ⟨ret_bool (by unfold beforeB; simp [*, ltS_irrefl]), hS0⟩
  · skip
    have e1 : Op.bytesLess a.kind.toList b.kind.toList = false := by simpa [ltS] using hq8
    refine wpMix_pure (by kernel_rfl) (fun K hK => ?_)
    go_big_quiet_op
    refine hK _ ?_; clear hK K
    refine wpMix_pure (by kernel_rfl) (fun K hK => ?_)
    go_big_quiet_op
    refine hK _ ?_; clear hK K
    refine wpMix_pure (by kernel_rfl) (fun K hK => ?_)
    go_big_quiet_op
    refine hK _ ?_; clear hK K
    refine wpMix_pure (by kernel_rfl) (fun K hK => ?_)
    go_big_quiet_op
    refine hK _ ?_; clear hK K
    refine wpMix_pure (by kernel_rfl) (fun K hK => ?_)
    go_big_quiet_op
    refine hK _ ?_; clear hK K
    refine wpMix_pure (by kernel_rfl) (fun K hK => ?_)
    go_big_quiet_op
    refine hK _ ?_; clear hK K
    refine wpMix_pure (by kernel_rfl) (fun K hK => ?_)
    go_big_quiet_op
    refine hK _ ?_; clear hK K
    refine wpMix_pure (by kernel_rfl) (fun K hK => ?_)
    go_big_quiet_op
    refine hK _ ?_; clear hK K
    refine wpMix_pure (by kernel_rfl) (fun K hK => ?_)
    go_big_quiet_op
    refine hK _ ?_; clear hK K
    refine wpMix_pure (by kernel_rfl) (fun K hK => ?_)
    go_big_quiet_op
    refine hK _ ?_; clear hK K
    by_cases hq18 : a.kind = b.kind
    · skip
      have e2 : (a.kind.toList == b.kind.toList) = true := eqS_true.2 hq18
      refine wpMix_pure (by kernel_rfl) (fun K hK => ?_)
      go_big_quiet_op
      refine hK _ ?_; clear hK K
      refine wpMix_pure (by kernel_rfl) (fun K hK => ?_)
      go_big_quiet_op
      refine hK _ ?_; clear hK K
      refine wpMix_pure (by kernel_rfl) (fun K hK => ?_)
      go_big_quiet_op
      refine hK _ ?_; clear hK K
      refine wpMix_pure (by kernel_rfl) (fun K hK => ?_)
      go_big_quiet_op
      refine hK _ ?_; clear hK K
      refine wpMix_pure (by kernel_rfl) (fun K hK => ?_)
      go_big_quiet_op
      refine hK _ ?_; clear hK K
      refine wpMix_pure (by kernel_rfl) (fun K hK => ?_)
      go_big_quiet_op
      refine hK _ ?_; clear hK K
      refine wpMix_pure (by kernel_rfl) (fun K hK => ?_)
      go_big_quiet_op
      refine hK _ ?_; clear hK K
      refine wpMix_pure (by kernel_rfl) (fun K hK => ?_)
      go_big_quiet_op
      refine hK _ ?_; clear hK K
      refine wpMix_pure (by kernel_rfl) (fun K hK => ?_)
      go_big_quiet_op
      refine hK _ ?_; clear hK K
      refine wpMix_pure (by kernel_rfl) (fun K hK => ?_)
      go_big_quiet_op
      refine hK _ ?_; clear hK K
      by_cases hq28 : ltS a.name b.name = true
      · skip
        have e3 : Op.bytesLess a.name.toList b.name.toList = true := hq28
        refine wpMix_pure (by kernel_rfl) (fun K hK => ?_)
        go_big_quiet_op
        refine hK _ ?_; clear hK K
        refine wpMix_pure (by kernel_rfl) (fun K hK => ?_)
        go_big_quiet_op
        refine hK _ ?_; clear hK K
        refine wpMix_pure (by kernel_rfl) (fun K hK => ?_)
        go_big_quiet_op
        refine hK _ ?_; clear hK K
        refine wpMix_pure (by kernel_rfl) (fun K hK => ?_)
        go_big_quiet_op
        refine hK _ ?_; clear hK K
        refine wpMix_nil ?_
        go_wp2
        go_ret
        exact ⟨ret_bool (by unfold beforeB; simp [*, ltS_irrefl]), hS0⟩
      · skip
        have e3 : Op.bytesLess a.name.toList b.name.toList = false := by simpa [ltS] using hq28
        refine wpMix_pure (by kernel_rfl) (fun K hK => ?_)
        go_big_quiet_op
        refine hK _ ?_; clear hK K
        refine wpMix_pure (by kernel_rfl) (fun K hK => ?_)
        go_big_quiet_op
        refine hK _ ?_; clear hK K
        refine wpMix_pure (by kernel_rfl) (fun K hK => ?_)
        go_big_quiet_op
        refine hK _ ?_; clear hK K
        refine wpMix_pure (by kernel_rfl) (fun K hK => ?_)
        go_big_quiet_op
        refine hK _ ?_; clear hK K
        refine wpMix_nil ?_
        go_wp2
        go_ret
        exact ⟨ret_bool (by unfold beforeB; simp [*, ltS_irrefl]), hS0⟩
    · skip
      have e2 : (a.kind.toList == b.kind.toList) = false := bytes_beq_false hq18
      refine wpMix_pure (by kernel_rfl) (fun K hK => ?_)
      go_big_quiet_op
      refine hK _ ?_; clear hK K
      refine wpMix_pure (by kernel_rfl) (fun K hK => ?_)
      go_big_quiet_op
      refine hK _ ?_; clear hK K
      refine wpMix_skip (by kernel_rfl) (fun K hK => ?_)
      simp only [Act.put, List.setIfInBounds_toArray, List.set_cons_zero, List.set_cons_succ]
      refine hK _ ?_; clear hK K
      refine wpMix_skip (by kernel_rfl) (fun K hK => ?_)
      simp only [Act.put, List.setIfInBounds_toArray, List.set_cons_zero, List.set_cons_succ]
      refine hK _ ?_; clear hK K
      refine wpMix_skip (by kernel_rfl) (fun K hK => ?_)
      simp only [Act.put, List.setIfInBounds_toArray, List.set_cons_zero, List.set_cons_succ]
      refine hK _ ?_; clear hK K
      refine wpMix_skip (by kernel_rfl) (fun K hK => ?_)
      simp only [Act.put, List.setIfInBounds_toArray, List.set_cons_zero, List.set_cons_succ]
      refine hK _ ?_; clear hK K
      refine wpMix_skip (by kernel_rfl) (fun K hK => ?_)
      simp only [Act.put, List.setIfInBounds_toArray, List.set_cons_zero, List.set_cons_succ]
      refine hK _ ?_; clear hK K
      refine wpMix_skip (by kernel_rfl) (fun K hK => ?_)
      simp only [Act.put, List.setIfInBounds_toArray, List.set_cons_zero, List.set_cons_succ]
      refine hK _ ?_; clear hK K
      refine wpMix_skip (by kernel_rfl) (fun K hK => ?_)
      simp only [Act.put, List.setIfInBounds_toArray, List.set_cons_zero, List.set_cons_succ]
      refine hK _ ?_; clear hK K
      refine wpMix_skip (by kernel_rfl) (fun K hK => ?_)
      simp only [Act.put, List.setIfInBounds_toArray, List.set_cons_zero, List.set_cons_succ]
      refine hK _ ?_; clear hK K
      refine wpMix_skip (by kernel_rfl) (fun K hK => ?_)
      simp only [Act.put, List.setIfInBounds_toArray, List.set_cons_zero, List.set_cons_succ]
      refine hK _ ?_; clear hK K
      refine wpMix_pure (by kernel_rfl) (fun K hK => ?_)
      go_big_quiet_op
      refine hK _ ?_; clear hK K
      refine wpMix_pure (by kernel_rfl) (fun K hK => ?_)
      go_big_quiet_op
      refine hK _ ?_; clear hK K
      refine wpMix_pure (by kernel_rfl) (fun K hK => ?_)
      go_big_quiet_op
      refine hK _ ?_; clear hK K
      refine wpMix_nil ?_
      go_wp2
      go_ret
      exact ⟨ret_bool (by unfold beforeB; simp [*, ltS_irrefl]), hS0⟩

end Go.Proofs.YtaaholabodchaaaGreatDoor
