/- Parts of the proof: Cq, Ig, BsVerified, InVerified, Fk, AdVerified, Ov, Ow, Vb, Vc, Qd, Vs2, Pz, Ms. -/
import Derived.Test.YthabmofkjdiccaaGreatDoorG01
import Derived.Test.YthabmofkjdiccaaGreatDoorG02
import Derived.Lib.AppendZerosOnto
import Derived.Lib.Overlaps
import Derived.Laws.Externs
import Derived.Deep.RegionHeld
import Derived.Test.YthabmofkjdiccaaGreatDoorG04
namespace Go.Proofs.YthabmofkjdiccaaGreatDoor
open Go.RowKit
set_option linter.unusedVariables false

def cmT (a b : ByteArray) : Int := if ltS a b then -1 else if ltS b a then 1 else 0
theorem cmT_zero {a b : ByteArray} : cmT a b = 0 ↔ a = b := by
  unfold cmT
  constructor
  · intro h
    cases h1 : ltS a b with
    | true => rw [h1] at h; simp at h
    | false =>
      cases h2 : ltS b a with
      | true => rw [h1, h2] at h; simp at h
      | false => exact ltS_tri h1 h2
  · rintro rfl; simp [ltS_irrefl]
theorem cmT_lt {a b : ByteArray} : cmT a b < 0 ↔ ltS a b = true := by
  unfold cmT
  cases h1 : ltS a b with
  | true => simp
  | false => cases h2 : ltS b a <;> simp
theorem cmT_bounds (a b : ByteArray) : -1 ≤ cmT a b ∧ cmT a b ≤ 1 := by
  unfold cmT
  cases ltS a b <;> cases ltS b a <;> simp
def cmI (a b : Int) : Int := if a < b then -1 else if b < a then 1 else 0
theorem cmI_zero {a b : Int} : cmI a b = 0 ↔ a = b := by
  unfold cmI
  split
  · constructor
    · intro h; cases h
    · intro h; omega
  · split
    · constructor
      · intro h; cases h
      · intro h; omega
    · constructor
      · intro _; omega
      · intro _; rfl
theorem cmI_lt {a b : Int} : cmI a b < 0 ↔ a < b := by
  unfold cmI
  split
  · rename_i h; simp [h]
  · rename_i h
    split <;> simp <;> omega
theorem cmI_bounds (a b : Int) : -1 ≤ cmI a b ∧ cmI a b ≤ 1 := by
  unfold cmI
  (repeat' split) <;> simp
set_option maxRecDepth 100000 in
set_option maxHeartbeats 400000 in
theorem isNaNT_any (a : ByteArray) (w : World) : Calls Tryz.prog 119 #[.string a] w fun e w' => e = .returned (.bool false) ∧ w = w' := by
  have e1 : (a.toList == a.toList) = true := by simp
  go_enter Tryz.func119, Tryz.ntmps119
  go_wp2
  go_ret
  exact ⟨rfl, rfl⟩
set_option maxRecDepth 100000 in
set_option maxHeartbeats 1000000 in
theorem compareT_any (a b : ByteArray) (w : World) : Calls Tryz.prog 98 #[.string a, .string b] w fun e w' => e = .returned (.int .i64 (cmT a b)) ∧ w = w' := by
  cases h1 : ltS a b
  · have e1 : Op.bytesLess a.toList b.toList = false := h1
    cases h2 : ltS b a
    · have e2 : (Op.bytesLess a.toList b.toList || a.toList == b.toList) = true := by rw [leS_eq, h2]; rfl
      have e3 : (a.toList == b.toList) = true := eqS_true.2 (ltS_tri h1 h2)
      go_enter Tryz.func98, Tryz.ntmps98
      go_wp2_with (go_at_call 119; refine (isNaNT_any _ _).mono ?_; rintro e w' ⟨rfl, rfl⟩)
      go_ret
      exact ⟨ret_int (by unfold cmT; rw [h1, h2]; rfl), rfl⟩
    · have e2 : (Op.bytesLess a.toList b.toList || a.toList == b.toList) = false := by rw [leS_eq, h2]; rfl
      have e3 : (a.toList == b.toList) = false := bytes_beq_false (fun e => by subst e; rw [ltS_irrefl] at h2; cases h2)
      go_enter Tryz.func98, Tryz.ntmps98
      go_wp2_with (go_at_call 119; refine (isNaNT_any _ _).mono ?_; rintro e w' ⟨rfl, rfl⟩)
      go_ret
      exact ⟨ret_int (by unfold cmT; rw [h1, h2]; rfl), rfl⟩
  · have e1 : Op.bytesLess a.toList b.toList = true := h1
    go_enter Tryz.func98, Tryz.ntmps98
    go_wp2_with (go_at_call 119; refine (isNaNT_any _ _).mono ?_; rintro e w' ⟨rfl, rfl⟩)
    go_ret
    exact ⟨ret_int (by unfold cmT; rw [h1]; rfl), rfl⟩
set_option maxRecDepth 100000 in
set_option maxHeartbeats 400000 in
theorem isNaNI_any (a : Int) (w : World) : Calls Tryz.prog 84 #[.int .i64 a] w fun e w' => e = .returned (.bool false) ∧ w = w' := by
  go_enter Tryz.func84, Tryz.ntmps84
  go_wp2
  go_ret
  exact ⟨rfl, rfl⟩
set_option maxRecDepth 100000 in
set_option maxHeartbeats 1000000 in
theorem compareI_any (a b : Int) (w : World) : Calls Tryz.prog 51 #[.int .i64 a, .int .i64 b] w fun e w' => e = .returned (.int .i64 (cmI a b)) ∧ w = w' := by
  by_cases h1 : a < b
  · go_enter Tryz.func51, Tryz.ntmps51
    go_wp2_with (go_at_call 84; refine (isNaNI_any _ _).mono ?_; rintro e w' ⟨rfl, rfl⟩)
    go_ret
    exact ⟨ret_int (by unfold cmI; rw [if_pos h1]), rfl⟩
  · by_cases h2 : b < a
    · go_enter Tryz.func51, Tryz.ntmps51
      go_wp2_with (go_at_call 84; refine (isNaNI_any _ _).mono ?_; rintro e w' ⟨rfl, rfl⟩)
      go_ret
      exact ⟨ret_int (by unfold cmI; rw [if_neg (Int.not_lt.2 h1), if_pos h2]), rfl⟩
    · go_enter Tryz.func51, Tryz.ntmps51
      go_wp2_with (go_at_call 84; refine (isNaNI_any _ _).mono ?_; rintro e w' ⟨rfl, rfl⟩)
      go_ret
      exact ⟨ret_int (by unfold cmI; rw [if_neg (Int.not_lt.2 h1), if_neg (Int.not_lt.2 h2)]), rfl⟩
def orI : List Int → Int
  | [] => 0
  | x :: xs => if x = 0 then orI xs else x
theorem orI_cons (x : Int) (xs : List Int) : orI (x :: xs) = if x = 0 then orI xs else x := rfl
theorem orI_two (a b : Int) : orI [a, b] = if a = 0 then b else a := by
  unfold orI; split
  · unfold orI orI; split <;> simp_all
  · rfl
set_option maxRecDepth 100000 in
set_option maxHeartbeats 1000000 in
theorem orJ_any (v : Value) (xs : List Int) (fp : List Nat) (w : World) (hx : Sl fInt.cod w v xs fp) :
    Calls Tryz.prog 76 #[v] w fun e w' => e = .returned (.int .i64 (orI xs)) ∧ w = w' := by
  obtain ⟨A, cap, rfl, hlen, hcap⟩ := hx.form
  go_enter Tryz.func76, Tryz.ntmps76
  go_wp2
  go_loop [8] (fun i => ∃ k : Nat, k ≤ xs.length ∧ i = .int .i64 k ∧ Hid (orI xs = orI (xs.drop k))) (fun i => xs.length - (intOf i).toNat)
  case atStart => exact ⟨0, Nat.zero_le _, rfl, rfl⟩
  case round =>
    obtain ⟨k, hk, rfl, H0⟩ := hrel
    by_cases hlt : k < xs.length
    · obtain ⟨b, off, rfl, _, hok, hc, _⟩ := hx.cell1 rfl hlt rfl
      have hd : xs.drop k = xs[k] :: xs.drop (k + 1) := List.drop_eq_getElem_cons hlt
      by_cases hz : xs[k] = 0
      · have HN : Hid (orI xs = orI (xs.drop (k + 1))) := by show _ = _; rw [H0.out, hd, orI_cons, if_pos hz]
        have e1 : (xs[k] == 0) = true := by simpa using hz
        have e2 : (xs[k] != 0) = false := by simpa using hz
        clear hd hz H0
        go_wp2
        go_round
        case rel => exact ⟨k + 1, by omega, by go_num, HN⟩
        case measure => simp [intOf]; omega
      · have HN : Hid (orI xs = xs[k]) := by show _ = _; rw [H0.out, hd, orI_cons, if_neg hz]
        have e1 : (xs[k] == 0) = false := by simpa using hz
        have e2 : (xs[k] != 0) = true := by simpa using hz
        clear hd hz H0
        go_wp2
        go_ret
        exact ⟨ret_int HN.out.symm, rfl⟩
    · have HN : Hid (orI xs = 0) := by show _ = _; rw [H0.out, List.drop_of_length_le (by omega)]; rfl
      clear H0
      go_wp2
      go_ret
      exact ⟨ret_int HN.out.symm, rfl⟩
theorem orI_three (a b c : Int) : orI [a, b, c] = if a = 0 then (if b = 0 then c else b) else a := by
  rw [orI_cons]
  split
  · exact orI_two b c
  · rfl
theorem cmT_ok (a b : ByteArray) : fInt.ok (cmT a b) := by
  have := cmT_bounds a b
  show _ ∧ _
  omega
theorem cmI_ok (a b : Int) : fInt.ok (cmI a b) := by
  have := cmI_bounds a b
  show _ ∧ _
  omega
end Go.Proofs.YthabmofkjdiccaaGreatDoor

namespace Go.Proofs.YthabmofkjdiccaaGreatDoor
open Go.RowKit
set_option linter.unusedVariables false

/-- A row of the call's own that holds the list. -/
def OwnK {α : Type} (E : Flat α) (T : TypeId) (w : World) (xs : List α) (e : Ending) (w' : World) : Prop := ∃ v, e = .returned v ∧ Own E w' w.heap.size T v xs ∧ Below w.heap.size w w'
theorem rowp_ {cur A B : List Value} {n p j : Nat} {u : Value} (hct : cur.take n = A ++ B) (hA : A.length = p) (hu : B[j]? = some u) : cur[p + j]? = some u := by
  have hj : p + j < n := by
    have h1 : (A ++ B).length ≤ n := by rw [← hct, List.length_take]; omega
    rw [List.length_append] at h1
    have h2 : j < B.length := by
      rcases Nat.lt_or_ge j B.length with h | h
      · exact h
      · rw [List.getElem?_eq_none h] at hu; cases hu
    omega
  have h := congrArg (fun l : List Value => l[p + j]?) hct
  simp only [List.getElem?_take, if_pos hj] at h
  rw [h, List.getElem?_append_right (by omega), hA, Nat.add_sub_cancel_left]
  exact hu
theorem arr3_ (A : List Value) (X Y : Array Value) : (A ++ (X.toList ++ Y.toList)).toArray = A.toArray ++ X ++ Y := by
  apply Array.ext'; simp
theorem rowh_ {cur A B : List Value} {n j : Nat} {u : Value} (hct : cur.take n = A ++ B) (hu : A[j]? = some u) : cur[j]? = some u := by
  have h2 : j < A.length := by
    rcases Nat.lt_or_ge j A.length with h | h
    · exact h
    · rw [List.getElem?_eq_none h] at hu; cases hu
  have hj : j < n := by
    have h1 : (A ++ B).length ≤ n := by rw [← hct, List.length_take]; omega
    rw [List.length_append] at h1
    omega
  have h := congrArg (fun l : List Value => l[j]?) hct
  simp only [List.getElem?_take, if_pos hj] at h
  rw [h, List.getElem?_append_left h2]
  exact hu
theorem ownM_ {w : World} {base base' : Nat} {e : TypeId} {size : Nat} {v : Value} {n : Nat} {xs : List Value} (h : w.ownsRow base e size v n xs) (hb : base' ≤ base) : w.ownsRow base' e size v n xs := by
  obtain ⟨h1, h2⟩ := h
  refine ⟨h1, ?_⟩
  rcases h2 with h2 | ⟨g, cap, cur, hv, hg, r⟩
  · exact .inl h2
  · exact .inr ⟨g, cap, cur, hv, by omega, r⟩
theorem ownO_ {w : World} {base : Nat} {e : TypeId} {size : Nat} {v : Value} {n : Nat} {xs : List Value} (h : w.ownsRow base e size v n xs) (hn : 0 < n) :
    ∃ g cap, v = .slice (some ⟨g, 0, none⟩) n cap ∧ base ≤ g ∧ g < w.heap.size ∧ n ≤ cap ∧ cap ≤ 9223372036854775807 := by
  obtain ⟨h1, h2⟩ := h
  rcases h2 with ⟨_, h0⟩ | ⟨g, cap, cur, hv, hg, hh, hnc, hcm, _, _⟩
  · omega
  · refine ⟨g, cap, hv, hg, ?_, hnc, by unfold maxLen at hcm; exact hcm⟩
    rcases Nat.lt_or_ge g w.heap.size with hlt | hge
    · exact hlt
    · rw [Array.getElem?_eq_none hge] at hh; cases hh
/-- How many stand ahead. -/
def posF {α : Type} (p : α → Bool) (xs : List α) : Nat := (xs.takeWhile p).length
theorem posF_is {α : Type} (p : α → Bool) (xs : List α) (k : Nat) (hk : k ≤ xs.length) (h1 : ∀ m (h : m < xs.length), m < k → p xs[m] = true) (h2 : ∀ h : k < xs.length, p xs[k] = false) : posF p xs = k := by
  unfold posF
  induction xs generalizing k with
  | nil => simp at hk; subst hk; rfl
  | cons x xs ih =>
    cases k with
    | zero =>
      have := h2 (by simp)
      rw [List.takeWhile_cons, show p x = false from this]; rfl
    | succ k =>
      have h3 : p x = true := h1 0 (by simp) (by omega)
      rw [List.takeWhile_cons, h3, if_pos rfl, List.length_cons]
      congr 1
      refine ih k (by simpa using hk) (fun m h hm => ?_) (fun h => ?_)
      · have := h1 (m + 1) (by simpa using h) (by omega); simpa using this
      · have := h2 (by simpa using h); simpa using this
theorem posF_le {α : Type} (p : α → Bool) (xs : List α) : posF p xs ≤ xs.length := by
  unfold posF
  exact (List.takeWhile_prefix p).length_le
end Go.Proofs.YthabmofkjdiccaaGreatDoor

namespace Go.Proofs.YthabmofkjdiccaaGreatDoor
open Go.RowKit
set_option linter.unusedVariables false

set_option maxRecDepth 100000 in
set_option maxHeartbeats 1000000 in
theorem cmpVer_any (a b : DVerified) (w : World) :
    Calls Tryz.prog 50 #[.agg #[.int .i64 a.day, .int .i64 a.told, .int .i64 a.seen], .agg #[.int .i64 b.day, .int .i64 b.told, .int .i64 b.seen]] w fun e w' => e = .returned (.int .i64 (cmI a.day b.day)) ∧ Below w.heap.size w w' := by
  go_enter Tryz.func50, Tryz.ntmps50
  go_wp2_with fail
  refine (compareI_any _ _ _).mono ?_
  rintro e w' ⟨rfl, rfl⟩
  go_wp2
  go_ret
  exact ⟨rfl, (by repeat (first | exact Below.refl _ _ | assumption | refine Below.alloc ?_ (by first | omega | (simp <;> omega)) _ | refine Below.setCell ?_ (by first | (show _ ≤ _; omega) | (simp <;> omega)) _ | refine Below.drew ?_ | refine below_drewN ?_ _))⟩
def atVerified (xs : List DVerified) (t : DVerified) : Nat := posF (fun y => decide (cmI y.day t.day < 0)) xs
def hasVerified (xs : List DVerified) (t : DVerified) : Bool := match xs[atVerified xs t]? with | some y => cmI y.day t.day == 0 | none => false
set_option maxRecDepth 100000 in
set_option maxHeartbeats 4000000 in
theorem bsearchVerified_any (v : Value) (xs : List DVerified) (fp : List Nat) (t : DVerified) (w : World) (hx : Sl fVerified.cod w v xs fp) (hor : ∀ (a b : Nat) (hab : a ≤ b) (hb : b < xs.length), cmI xs[b].day t.day < 0 → cmI (xs[a]'(by omega)).day t.day < 0) (hl : xs.length ≤ 1000000) :
    Calls Tryz.prog 49 #[v, .agg #[.int .i64 t.day, .int .i64 t.told, .int .i64 t.seen], .func (.func 50) #[] #[]] w fun e w' => e = .returned (.tuple #[.int .i64 (atVerified xs t), .bool (hasVerified xs t)]) ∧ Below w.heap.size w w' := by
  obtain ⟨A, cap, rfl, hlen, hcap⟩ := hx.form
  have hpt := PVerified.box w t 34
  go_enter Tryz.func49, Tryz.ntmps49
  go_wp2
  refine at_world (fun W => Below w.heap.size w W ∧ PVerified W w.heap.size 0 t) ⟨(by repeat (first | exact Below.refl _ _ | assumption | refine Below.alloc ?_ (by first | omega | (simp <;> omega)) _ | refine Below.setCell ?_ (by first | (show _ ≤ _; omega) | (simp <;> omega)) _ | refine Below.drew ?_ | refine below_drewN ?_ _)), hpt⟩ ?_
  clear hpt
  rintro W0 ⟨hW0, hpt⟩
  go_loopw [9, 10] (fun i j wr => ∃ a b : Nat, a ≤ b ∧ b ≤ xs.length ∧ i = .int .i64 a ∧ j = .int .i64 b ∧ Hid (∀ m (h : m < xs.length), m < a → cmI xs[m].day t.day < 0) ∧ Hid (∀ m (h : m < xs.length), b ≤ m → 0 ≤ cmI xs[m].day t.day) ∧ Below w.heap.size w wr ∧ PVerified wr w.heap.size 0 t) (fun i j _ => (intOf j).toNat - (intOf i).toNat)
  case atStart => exact ⟨0, xs.length, Nat.zero_le _, Nat.le_refl _, rfl, rfl, fun m _ h => absurd h (Nat.not_lt_zero _), fun m h1 h2 => absurd h1 (by omega), hW0, hpt⟩
  case round =>
    obtain ⟨a, b, hab, hbn, rfl, rfl, HA, HB, hb, hp⟩ := hrel
    clear hpt hW0
    by_cases hlt : a < b
    · obtain ⟨m, hm⟩ : ∃ m, m = (a + b) / 2 := ⟨_, rfl⟩
      have em : ((a : Int) + (b : Int)) / 2 = (m : Int) := by omega
      have hmn : m < xs.length := by omega
      have hmb : m < b := by omega
      have ham : a ≤ m := by omega
      clear hm
      obtain ⟨b1, off, rfl, _, hok, hpm⟩ := PVerified.elem (hx.below' hb) hmn
      obtain ⟨c0, c1, c2⟩ := id hpm
      obtain ⟨d0, d1, d2⟩ := id hp
      by_cases hq : cmI xs[m].day t.day < 0
      · have e14 : decide (cmI xs[m].day t.day < 0) = true := decide_eq_true hq
        go_wp2
        have gc0 := cell_regrown c0
        have gc1 := cell_regrown c1
        have gc2 := cell_regrown c2
        have gd0 := cell_regrown d0
        have gd1 := cell_regrown d1
        have gd2 := cell_regrown d2
        refine wp_region_mix (C := fun w' => ∃ p : Regrown, w' = Go.Sort.grow (redrawn wr p.d) p.os) [true, true, true, true, true, true, false, true] (by kernel_rfl) (by kernel_rfl) (by kernel_rfl) (fun _ _ d _ _ h => by cases d <;> exact h) (regrown_of_below (Below.drew (Below.refl _ _))) ?_
        have hS0 : Below (wr.heap.size) wr wr.drew := Below.drew (Below.refl _ _)
        refine wpMix_pure (by kernel_rfl) (fun K hK => ?_); go_big_quiet_op; refine hK _ ?_; clear hK K
        refine wpMix_pure (by kernel_rfl) (fun K hK => ?_); go_big_quiet_op; refine hK _ ?_; clear hK K
        refine wpMix_pure (by kernel_rfl) (fun K hK => ?_); go_big_quiet_op; refine hK _ ?_; clear hK K
        refine wpMix_pure (by kernel_rfl) (fun K hK => ?_); go_big_quiet_op; refine hK _ ?_; clear hK K
        refine wpMix_pure (by kernel_rfl) (fun K hK => ?_); go_big_quiet_op; refine hK _ ?_; clear hK K
        refine wpMix_pure (by kernel_rfl) (fun K hK => ?_); go_big_quiet_op; refine hK _ ?_; clear hK K
        refine wpMix_act (by kernel_rfl) (fun K hK => ?_)
        go_big_op
        refine (cmpVer_any _ _ _).mono ?_
        rintro e wr1 ⟨rfl, hbr1⟩
        have hbr1S : Below (wr.heap.size) wr wr1 := hS0.trans (hbr1.mono hS0.size)
        refine hK _ _ (regrown_of_below hbr1S) ?_
        clear hK K
        refine wpMix_pure (by kernel_rfl) (fun K hK => ?_); go_big_quiet_op; refine hK _ ?_; clear hK K
        refine wpMix_nil ?_
        have HA2 : Hid (∀ i (h : i < xs.length), i < m + 1 → cmI xs[i].day t.day < 0) := fun i h him => hor i m (by omega) hmn hq
        clear HA hq
        go_wp2
        go_roundw
        case rel => exact ⟨m + 1, b, by omega, hbn, by go_num, rfl, HA2, HB, hb.trans (hbr1S.mono hb.size), hp.below' hbr1S⟩
        case measure => simp [intOf]; omega
      · have e14 : decide (cmI xs[m].day t.day < 0) = false := decide_eq_false hq
        go_wp2
        have gc0 := cell_regrown c0
        have gc1 := cell_regrown c1
        have gc2 := cell_regrown c2
        have gd0 := cell_regrown d0
        have gd1 := cell_regrown d1
        have gd2 := cell_regrown d2
        refine wp_region_mix (C := fun w' => ∃ p : Regrown, w' = Go.Sort.grow (redrawn wr p.d) p.os) [true, true, true, true, true, true, false, true] (by kernel_rfl) (by kernel_rfl) (by kernel_rfl) (fun _ _ d _ _ h => by cases d <;> exact h) (regrown_of_below (Below.drew (Below.refl _ _))) ?_
        have hS0 : Below (wr.heap.size) wr wr.drew := Below.drew (Below.refl _ _)
        refine wpMix_pure (by kernel_rfl) (fun K hK => ?_); go_big_quiet_op; refine hK _ ?_; clear hK K
        refine wpMix_pure (by kernel_rfl) (fun K hK => ?_); go_big_quiet_op; refine hK _ ?_; clear hK K
        refine wpMix_pure (by kernel_rfl) (fun K hK => ?_); go_big_quiet_op; refine hK _ ?_; clear hK K
        refine wpMix_pure (by kernel_rfl) (fun K hK => ?_); go_big_quiet_op; refine hK _ ?_; clear hK K
        refine wpMix_pure (by kernel_rfl) (fun K hK => ?_); go_big_quiet_op; refine hK _ ?_; clear hK K
        refine wpMix_pure (by kernel_rfl) (fun K hK => ?_); go_big_quiet_op; refine hK _ ?_; clear hK K
        refine wpMix_act (by kernel_rfl) (fun K hK => ?_)
        go_big_op
        refine (cmpVer_any _ _ _).mono ?_
        rintro e wr1 ⟨rfl, hbr1⟩
        have hbr1S : Below (wr.heap.size) wr wr1 := hS0.trans (hbr1.mono hS0.size)
        refine hK _ _ (regrown_of_below hbr1S) ?_
        clear hK K
        refine wpMix_pure (by kernel_rfl) (fun K hK => ?_); go_big_quiet_op; refine hK _ ?_; clear hK K
        refine wpMix_nil ?_
        have HB2 : Hid (∀ i (h : i < xs.length), m ≤ i → 0 ≤ cmI xs[i].day t.day) := fun i h him => by rcases Int.lt_or_le (cmI xs[i].day t.day) 0 with hc | hc; exact absurd (hor m i him h hc) (by omega); exact hc
        clear HB hq
        go_wp2
        go_roundw
        case rel => exact ⟨a, m, ham, by omega, rfl, by go_num, HA, HB2, hb.trans (hbr1S.mono hb.size), hp.below' hbr1S⟩
        case measure => simp [intOf]; omega
    · obtain rfl : b = a := by omega
      have HAT : Hid (atVerified xs t = b) := posF_is _ xs b hbn (fun m h1 h2 => decide_eq_true (HA.out m h1 h2)) (fun h => decide_eq_false (by have := HB.out b h (Nat.le_refl _); omega))
      obtain ⟨d0, d1, d2⟩ := id hp
      by_cases hlt2 : b < xs.length
      · obtain ⟨b1, off, rfl, _, hok, hpm⟩ := PVerified.elem (hx.below' hb) hlt2
        obtain ⟨c0, c1, c2⟩ := id hpm
        have HK : Hid (hasVerified xs t = (cmI xs[b].day t.day == 0)) := by
          show hasVerified xs t = _
          unfold hasVerified
          rw [HAT.out, List.getElem?_eq_getElem hlt2]
        go_wp2
        have gc0 := cell_regrown c0
        have gc1 := cell_regrown c1
        have gc2 := cell_regrown c2
        have gd0 := cell_regrown d0
        have gd1 := cell_regrown d1
        have gd2 := cell_regrown d2
        refine wp_region_mix (C := fun w' => ∃ p : Regrown, w' = Go.Sort.grow (redrawn wr p.d) p.os) [true, true, true, true, true, true, true, true, true, true, true, false, true, true, true, true] (by kernel_rfl) (by kernel_rfl) (by kernel_rfl) (fun _ _ d _ _ h => by cases d <;> exact h) (regrown_of_below (Below.drew (Below.refl _ _))) ?_
        have hS0 : Below (wr.heap.size) wr wr.drew := Below.drew (Below.refl _ _)
        refine wpMix_pure (by kernel_rfl) (fun K hK => ?_); go_big_quiet_op; refine hK _ ?_; clear hK K
        refine wpMix_pure (by kernel_rfl) (fun K hK => ?_); go_big_quiet_op; refine hK _ ?_; clear hK K
        refine wpMix_pure (by kernel_rfl) (fun K hK => ?_); go_big_quiet_op; refine hK _ ?_; clear hK K
        refine wpMix_pure (by kernel_rfl) (fun K hK => ?_); go_big_quiet_op; refine hK _ ?_; clear hK K
        refine wpMix_pure (by kernel_rfl) (fun K hK => ?_); go_big_quiet_op; refine hK _ ?_; clear hK K
        refine wpMix_pure (by kernel_rfl) (fun K hK => ?_); go_big_quiet_op; refine hK _ ?_; clear hK K
        refine wpMix_pure (by kernel_rfl) (fun K hK => ?_); go_big_quiet_op; refine hK _ ?_; clear hK K
        refine wpMix_pure (by kernel_rfl) (fun K hK => ?_); go_big_quiet_op; refine hK _ ?_; clear hK K
        refine wpMix_pure (by kernel_rfl) (fun K hK => ?_); go_big_quiet_op; refine hK _ ?_; clear hK K
        refine wpMix_pure (by kernel_rfl) (fun K hK => ?_); go_big_quiet_op; refine hK _ ?_; clear hK K
        refine wpMix_pure (by kernel_rfl) (fun K hK => ?_); go_big_quiet_op; refine hK _ ?_; clear hK K
        refine wpMix_act (by kernel_rfl) (fun K hK => ?_)
        go_big_op
        refine (cmpVer_any _ _ _).mono ?_
        rintro e wr1 ⟨rfl, hbr1⟩
        have hbr1S : Below (wr.heap.size) wr wr1 := hS0.trans (hbr1.mono hS0.size)
        refine hK _ _ (regrown_of_below hbr1S) ?_
        clear hK K
        refine wpMix_pure (by kernel_rfl) (fun K hK => ?_); go_big_quiet_op; refine hK _ ?_; clear hK K
        refine wpMix_pure (by kernel_rfl) (fun K hK => ?_); go_big_quiet_op; refine hK _ ?_; clear hK K
        refine wpMix_pure (by kernel_rfl) (fun K hK => ?_); go_big_quiet_op; refine hK _ ?_; clear hK K
        refine wpMix_pure (by kernel_rfl) (fun K hK => ?_); go_big_quiet_op; refine hK _ ?_; clear hK K
        refine wpMix_nil ?_
        go_wp2
        go_ret2
        exact ⟨by rw [HAT.out, HK.out]; first | rfl | simp [*], hb.trans (hbr1S.mono hb.size)⟩
      · have HK : Hid (hasVerified xs t = false) := by
          show hasVerified xs t = _
          unfold hasVerified
          rw [HAT.out, List.getElem?_eq_none (by omega)]
        go_wp2
        refine wp_region_mix (C := fun w' => ∃ p : Regrown, w' = Go.Sort.grow (redrawn wr p.d) p.os) [true, true, true, true, true, true, true, true, true, true, true, false, true, true, true, true] (by kernel_rfl) (by kernel_rfl) (by kernel_rfl) (fun _ _ d _ _ h => by cases d <;> exact h) (regrown_of_below (Below.drew (Below.refl _ _))) ?_
        have hS0 : Below (wr.heap.size) wr wr.drew := Below.drew (Below.refl _ _)
        refine wpMix_pure (by kernel_rfl) (fun K hK => ?_); go_big_quiet_op; refine hK _ ?_; clear hK K
        refine wpMix_pure (by kernel_rfl) (fun K hK => ?_); go_big_quiet_op; refine hK _ ?_; clear hK K
        refine wpMix_pure (by kernel_rfl) (fun K hK => ?_); go_big_quiet_op; refine hK _ ?_; clear hK K
        refine wpMix_pure (by kernel_rfl) (fun K hK => ?_); go_big_quiet_op; refine hK _ ?_; clear hK K
        refine wpMix_pure (by kernel_rfl) (fun K hK => ?_); go_big_quiet_op; refine hK _ ?_; clear hK K
        refine wpMix_skip (by kernel_rfl) (fun K hK => ?_)
        simp only [Act.put, List.setIfInBounds_toArray, List.set_cons_zero, List.set_cons_succ]
        refine hK _ ?_; clear hK K
        refine wpMix_skip (by kernel_rfl) (fun K hK => ?_)
        simp only [Act.put, List.setIfInBounds_toArray, List.set_cons_zero, List.set_cons_succ]
        refine hK _ ?_; clear hK K
        refine wpMix_skip (by kernel_rfl) (fun K hK => ?_)
        simp only [Act.put, List.setIfInBounds_toArray, List.set_cons_zero, List.set_cons_succ]
        refine hK _ ?_; clear hK K
        refine wpMix_skip (by kernel_rfl) (fun K hK => ?_)
        simp only [Act.put, List.setIfInBounds_toArray, List.set_cons_zero, List.set_cons_succ]
        refine hK _ ?_; clear hK K
        refine wpMix_skip (by kernel_rfl) (fun K hK => ?_)
        simp only [Act.put, List.setIfInBounds_toArray, List.set_cons_zero, List.set_cons_succ]
        refine hK _ ?_; clear hK K
        refine wpMix_skip (by kernel_rfl) (fun K hK => ?_)
        simp only [Act.put, List.setIfInBounds_toArray, List.set_cons_zero, List.set_cons_succ]
        refine hK _ ?_; clear hK K
        refine wpMix_skip (by kernel_rfl) (fun K hK => ?_)
        simp only [Act.put, List.setIfInBounds_toArray, List.set_cons_zero, List.set_cons_succ]
        refine hK _ ?_; clear hK K
        refine wpMix_skip (by kernel_rfl) (fun K hK => ?_)
        simp only [Act.put, List.setIfInBounds_toArray, List.set_cons_zero, List.set_cons_succ]
        refine hK _ ?_; clear hK K
        refine wpMix_pure (by kernel_rfl) (fun K hK => ?_); go_big_quiet_op; refine hK _ ?_; clear hK K
        refine wpMix_pure (by kernel_rfl) (fun K hK => ?_); go_big_quiet_op; refine hK _ ?_; clear hK K
        refine wpMix_pure (by kernel_rfl) (fun K hK => ?_); go_big_quiet_op; refine hK _ ?_; clear hK K
        refine wpMix_nil ?_
        go_wp2
        go_ret2
        exact ⟨by rw [HAT.out, HK.out]; first | rfl | simp [*], hb.trans (hS0.mono hb.size)⟩

end Go.Proofs.YthabmofkjdiccaaGreatDoor

namespace Go.Proofs.YthabmofkjdiccaaGreatDoor
open Go.RowKit
set_option linter.unusedVariables false

theorem infoVerifiedK : (Tryz.prog.info? 34).map (fun i => (i.zero, i.size, i.bytes)) = some (some (.agg #[.int .i64 0, .int .i64 0, .int .i64 0]), 3, 24) := by kernel_rfl
set_option maxRecDepth 100000 in
set_option maxHeartbeats 1000000 in
theorem cloneVerified_any (v : Value) (xs : List DVerified) (fp : List Nat) (w : World) (hx : Sl fVerified.cod w v xs fp) (hl : xs.length ≤ 1000000) :
    Calls Tryz.prog 54 #[v] w fun e w' => OwnK fVerified 34 w xs e w' := by
  obtain ⟨A, cap, rfl, hlen, hcap⟩ := hx.form
  obtain ⟨i0, hi, hz0, hz1, hz2⟩ := info_parts infoVerifiedK
  have hsrc := (hx.below' ((Below.refl _ _).alloc (Nat.le_refl _) (.cells #[] 34))).src
  have ho := Own.lit0 fVerified w 34
  have hb0 : Below w.heap.size w (w.alloc (.cells #[] 34)) := (Below.refl _ _).alloc (Nat.le_refl _) _
  have hs2 := hb0.size
  have q22 : ∀ (w : World) (a : Option Addr) (n c n' c' : Nat), (binOp .eql 24 (.slice a n c) (.slice none n' c')).run Tryz.prog w = .ok (.bool a.isNone) w := fun w a n c n' c' => Lib.run_eql_slice_nil w _ _ a n c n' c' Tryz.underlying24
  cases A with
  | none =>
    have hnil : xs = [] := by
      rcases Nat.eq_zero_or_pos xs.length with h0 | h0
      · exact List.eq_nil_of_length_eq_zero h0
      · obtain ⟨b, off, hA, _⟩ := hx.cells h0
        cases hA
    subst hnil
    go_enter Tryz.func54, Tryz.ntmps54
    go_wp2
    go_ret
    exact ⟨_, rfl, Own.nil _ _ _ _, Below.refl _ _⟩
  | some ad =>
    go_enter Tryz.func54, Tryz.ntmps54
    go_wp2_with (at_builtin; refine wpList_append_src (E := fVerified) rfl _ _ 24 rfl w.heap.size 34 i0 (.agg #[.int .i64 0, .int .i64 0, .int .i64 0]) 24 Tryz.underlying24 hi hz0 hz1 hz2 rfl (.slice (some ⟨w.heap.size, 0, none⟩) 0 0) [] rfl ho _ xs rfl hsrc (by simp; omega) (by decide) hs2 ?_)
    intro v' u hown hbu
    try rw [List.nil_append] at hown
    go_wp2
    go_ret
    exact ⟨_, rfl, hown, hb0.trans hbu⟩
theorem insert_rowVerified {cur A t B : List Value} {at_ n cap : Nat} (hlt : at_ < n) (hroom : n < cap) (hcl : cur.length = cap * 3) (hct : cur.take (n * 3) = A ++ B) (hA : A.length = at_ * 3) (hB : B.length = (n - at_) * 3) (ht : t.length = 3) :
    (splice (splice cur ((at_ + 1) * 3) B) (at_ * 3) t).length = cap * 3 ∧ (splice (splice cur ((at_ + 1) * 3) B) (at_ * 3) t).take ((n + 1) * 3) = A ++ (t ++ B) := by
  have e1 : (at_ + 1) * 3 = at_ * 3 + 3 := by omega
  have e2 : (n + 1) * 3 = at_ * 3 + 3 + (n - at_) * 3 := by omega
  have e3 : n * 3 = at_ * 3 + (n - at_) * 3 := by omega
  rw [e3] at hct
  have h1 : (splice cur (at_ * 3 + 3) B).length = cur.length := length_splice _ _ _ (by omega)
  rw [e1, e2]
  exact ⟨by rw [length_splice _ _ _ (by omega), h1, hcl], splice_shift hct hA hB ht (by omega)⟩
theorem fill_rowVerified {cur A t B : List Value} {at_ n cap : Nat} (hlt : at_ < n) (hroom : n < cap) (hcl : cur.length = cap * 3) (hct : cur.take (at_ * 3) = A) (hA : A.length = at_ * 3) (hB : B.length = (n - at_) * 3) (ht : t.length = 3) :
    (splice (splice cur (at_ * 3) t) ((at_ + 1) * 3) B).length = cap * 3 ∧ (splice (splice cur (at_ * 3) t) ((at_ + 1) * 3) B).take ((n + 1) * 3) = A ++ (t ++ B) := by
  have e1 : (at_ + 1) * 3 = at_ * 3 + 3 := by omega
  have e2 : (n + 1) * 3 = at_ * 3 + 3 + (n - at_) * 3 := by omega
  have h1 : (splice cur (at_ * 3) t).length = cur.length := length_splice _ _ _ (by omega)
  rw [e1, e2]
  exact ⟨by rw [length_splice _ _ _ (by omega), h1, hcl], splice_fill hct hA hB ht (by omega)⟩
set_option maxRecDepth 100000 in
set_option maxHeartbeats 2000000 in
/-- Put in at the end: an append. -/
theorem insertVerified_end (v : Value) (xs : List DVerified) (t : DVerified) (nb base : Nat) (w : World) (hown : Own fVerified w base 34 v xs) (hs : Src fVerified w (.slice (some ⟨nb, 0, none⟩) 1 1) [t]) (hl : xs.length ≤ 1000000) (hbase : base ≤ w.heap.size) :
    Calls Tryz.prog 53 #[v, .int .i64 xs.length, .slice (some ⟨nb, 0, none⟩) 1 1] w fun e w' => ∃ v', e = .returned v' ∧ Own fVerified w' base 34 v' (xs ++ [t]) ∧ Below base w w' := by
  obtain ⟨i0, hi, hz0, hz1, hz2⟩ := info_parts infoVerifiedK
  rcases Nat.eq_zero_or_pos xs.length with h0 | h0
  · obtain rfl := List.eq_nil_of_length_eq_zero h0
    have hF : ∃ A cap, v = .slice A 0 cap := by
      obtain ⟨h1, h2⟩ := hown
      rcases h2 with ⟨hv, _⟩ | ⟨g, cap, cur, hv, _⟩
      · exact ⟨_, _, hv⟩
      · exact ⟨_, _, hv⟩
    obtain ⟨A, cap, rfl⟩ := hF
    go_enter Tryz.func53, Tryz.ntmps53
    go_wp2_with (at_builtin; refine wpList_append_src (E := fVerified) rfl _ _ 24 rfl base 34 i0 (.agg #[.int .i64 0, .int .i64 0, .int .i64 0]) 24 Tryz.underlying24 hi hz0 hz1 hz2 rfl _ [] rfl hown _ [t] rfl hs (by simp <;> omega) (by decide) hbase ?_)
    all_goals
      intro v' u hown' hbu
      go_wp2
      go_ret
      exact ⟨_, rfl, hown', hbu⟩
  · have hown' : w.ownsRow base 34 3 v xs.length (xs.flatMap fVerified.enc) := hown
    obtain ⟨g, cap, rfl, hg, hgw, hc1, hc2⟩ := ownO_ hown' h0
    clear hown'
    go_enter Tryz.func53, Tryz.ntmps53
    go_wp2_with (at_builtin; refine wpList_append_src (E := fVerified) rfl _ _ 24 rfl base 34 i0 (.agg #[.int .i64 0, .int .i64 0, .int .i64 0]) 24 Tryz.underlying24 hi hz0 hz1 hz2 rfl _ xs rfl hown _ [t] rfl hs (by simp <;> omega) (by decide) hbase ?_)
    all_goals
      intro v' u hown' hbu
      go_wp2
      go_ret
      exact ⟨_, rfl, hown', hbu⟩
set_option maxRecDepth 100000 in
set_option maxHeartbeats 4000000 in
/-- Put in ahead of others. -/
theorem insertVerified_mid (xs : List DVerified) (t : DVerified) (g cap at_ nb base : Nat) (w : World) (hown : w.ownsRow base 34 3 (.slice (some ⟨g, 0, none⟩) xs.length cap) xs.length (xs.flatMap fVerified.enc)) (hlt : at_ < xs.length)
    (hnb : w.heap[nb]? = some (.cells #[.int .i64 t.day, .int .i64 t.told, .int .i64 t.seen] 34 (0, 0))) (hne : nb ≠ g) (hl : xs.length ≤ 1000000) (hbase : base ≤ w.heap.size) :
    Calls Tryz.prog 53 #[.slice (some ⟨g, 0, none⟩) xs.length cap, .int .i64 at_, .slice (some ⟨nb, 0, none⟩) 1 1] w fun e w' => ∃ v', e = .returned v' ∧ Own fVerified w' base 34 v' (xs.take at_ ++ t :: xs.drop at_) ∧ Below base w w' := by
  obtain ⟨i0, hi, hz0, hz1, hz2⟩ := info_parts infoVerifiedK
  have hsz : (Tryz.prog.info? 34).map (·.size) = some 3 := by rw [hi]; simp [hz1]
  have hszf : ∀ w : World, (Go.sizeOf 34).run Tryz.prog w = .ok 3 w := fun w => by simp [sizeOf, typeInfo, hi, hz1]
  obtain ⟨cur, hrow, hcl, hct, hc1, hc2, hg⟩ := own_row hown
  unfold maxLen at hc2
  obtain ⟨A, hA⟩ : ∃ A, A = (xs.take at_).flatMap fVerified.enc := ⟨_, rfl⟩
  obtain ⟨B, hB⟩ : ∃ B, B = (xs.drop at_).flatMap fVerified.enc := ⟨_, rfl⟩
  have hAB : xs.flatMap fVerified.enc = A ++ B := by rw [hA, hB, ← List.flatMap_append, List.take_append_drop]
  have hAl : A.length = at_ * 3 := by rw [hA, flat_len fVerified.enc 3 _ (fun x _ => fVerified.len x)]; simp; omega
  have hBl : B.length = (xs.length - at_) * 3 := by rw [hB, flat_len fVerified.enc 3 _ (fun x _ => fVerified.len x)]; simp
  have hBone : ∀ u ∈ B, u.oneCell' = true := fun u hu => by
    rw [hB] at hu
    obtain ⟨y, _, hy⟩ := List.mem_flatMap.1 hu
    exact fVerified.one y u hy
  have HE := Lib.hid (show (xs.take at_ ++ t :: xs.drop at_).flatMap fVerified.enc = A ++ (fVerified.enc t ++ B) by rw [List.flatMap_append, List.flatMap_cons, hA, hB])
  have HL := Lib.hid (show (xs.take at_ ++ t :: xs.drop at_).length = xs.length + 1 by simp; omega)
  rw [hAB] at hct
  have htl : (fVerified.enc t).length = 3 := fVerified.len t
  have htone : ∀ u ∈ fVerified.enc t, u.oneCell' = true := fVerified.one t
  have hnw : nb < w.heap.size := by
    rcases Nat.lt_or_ge nb w.heap.size with h | h
    · exact h
    · rw [Array.getElem?_eq_none h] at hnb; cases hnb
  have hgw : g < w.heap.size := by
    rcases Nat.lt_or_ge g w.heap.size with h | h
    · exact h
    · rw [Array.getElem?_eq_none h] at hrow; cases hrow
  have hsrcT : ∀ W : World, W.heap[nb]? = w.heap[nb]? → ∀ (j : Nat) u, (fVerified.enc t)[j]? = some u → W.cell? ((⟨nb, 0, none⟩ : Addr).add j) = some u := fun W hW j u hu => by
    rw [addr_add, World.cell?, hW, hnb]
    simpa [fVerified] using hu
  have hov : ∀ off lb cb, (callFunc 86 #[.slice (some ⟨nb, 0, none⟩) 1 1, .slice (some ⟨g, off, none⟩) lb cb]).run Tryz.prog w = .ok (.value (.bool false)) w := fun off lb cb => by
    rw [run_callFunc_extern Tryz.func86 (by kernel_rfl) (by kernel_rfl) (by kernel_rfl) (e := Extern.SlicesOverlaps.overlaps #[24, 24] #[4]) (by kernel_rfl),
      Lib.run_overlaps_apart w 24 4 34 Tryz.underlying24 3 hszf ⟨nb, 0, none⟩ ⟨g, off, none⟩ 1 1 lb cb hne 34 34 3 cur.length (by simp [World.shape?, hnb]) (by simp [World.shape?, hrow]) (by omega) (by simp [World.frozen?, hnb]) (by simp [World.frozen?, hnb])]
    rfl
  generalize xs.length = n at *
  have e1 : ((at_ : Int) == (n : Int)) = false := by rw [beq_eq_false_iff_ne]; omega
  clear hown hA hB hAB hnb
  rcases Nat.lt_or_ge n cap with hroom | hroom
  · have hsrcB : ∀ (j : Nat) u, B[j]? = some u → w.drew.cell? ((⟨g, at_ * 3, none⟩ : Addr).add j) = some u := fun j u hu => by
      rw [addr_add]
      exact (row_cell hrow _).trans (rowp_ hct hAl hu)
    obtain ⟨hRl, hRt⟩ := insert_rowVerified hlt hroom hcl hct hAl hBl htl
    clear hi hz0
    go_enter Tryz.func53, Tryz.ntmps53
    go_wp2_with (simp only [hov])
    refine wp_region_mix (C := fun _ => True) [true, true, true, true, true, true, true, true, false] (by kernel_rfl) (by kernel_rfl) (by kernel_rfl) (fun _ _ d _ _ h => by cases d <;> exact h) trivial ?_
    have hS0 : Below (w.heap.size) w w.drew := Below.drew (Below.refl _ _)
    refine wpMix_pure (by kernel_rfl) (fun K hK => ?_); go_big_quiet_op; refine hK _ ?_; clear hK K
    refine wpMix_pure (by kernel_rfl) (fun K hK => ?_); go_big_quiet_op; refine hK _ ?_; clear hK K
    refine wpMix_pure (by kernel_rfl) (fun K hK => ?_); go_big_quiet_op; refine hK _ ?_; clear hK K
    refine wpMix_pure (by kernel_rfl) (fun K hK => ?_); go_big_quiet_op; refine hK _ ?_; clear hK K
    refine wpMix_pure (by kernel_rfl) (fun K hK => ?_); go_big_quiet_op; refine hK _ ?_; clear hK K
    refine wpMix_pure (by kernel_rfl) (fun K hK => ?_); go_big_quiet_op; refine hK _ ?_; clear hK K
    refine wpMix_pure (by kernel_rfl) (fun K hK => ?_); go_big_quiet_op; refine hK _ ?_; clear hK K
    refine wpMix_pure (by kernel_rfl) (fun K hK => ?_); go_big_quiet_op; refine hK _ ?_; clear hK K
    refine wpMix_act (by kernel_rfl) (fun K hK => ?_)
    refine wp_copy_at _ _ 24 24 rfl 34 Tryz.underlying24 3 hsz g ((at_ + 1) * 3) _ _ ⟨g, at_ * 3, none⟩ _ _ rfl rfl cur 34 hrow B (n - at_) (by simp only [Nat.min_def]; split <;> omega) hBl hsrcB (by omega) hBone ?_
    intro w5 hrow5 hoth5 hb5
    try simp only [Act.put, List.setIfInBounds_toArray, List.set_cons_zero, List.set_cons_succ]
    refine hK _ _ trivial ?_
    clear hK K
    refine wpMix_nil ?_
    have HR5 := Lib.hid hrow5
    clear hrow5
    have hl5 : (splice cur ((at_ + 1) * 3) B).length = cur.length := length_splice _ _ _ (by omega)
    go_wp2_with (refine wpList_copy_at rfl _ _ 24 24 rfl 34 Tryz.underlying24 3 hsz g (at_ * 3) _ _ ⟨nb, 0, none⟩ _ _ rfl rfl (splice cur ((at_ + 1) * 3) B) 34 HR5.out (fVerified.enc t) (1) (by simp only [Nat.min_def]; split <;> omega) (by omega) (hsrcT w5 (hoth5 nb hne)) (by omega) htone ?_)
    intro w6 hrow6 hoth6 hb6
    have HR6 := Lib.hid hrow6
    clear hrow6
    go_wp2
    go_ret
    refine ⟨_, rfl, ?_, (((Below.refl base w).drew).trans (hb5.mono hg)).trans (hb6.mono hg)⟩
    show World.ownsRow _ base _ 3 _ (xs.take at_ ++ t :: xs.drop at_).length ((xs.take at_ ++ t :: xs.drop at_).flatMap fVerified.enc)
    rw [HL.out, HE.out]
    exact own_of_row HR6.out hg hroom (by unfold maxLen; omega) hRl hRt

  · have hbig : (n + 1) * 24 ≤ 140737488355328 := by omega
    have hcapN : ¬ ((cap : Int) = (at_ : Int)) := by omega
    have hold : (Builtin.firstCells i0.size at_ (.slice (some ⟨g, 0, none⟩) at_ cap)).run Tryz.prog w.drew = .ok A.toArray w.drew := by
      rw [hz1]
      exact run_firstCells_some w.drew 3 at_ ⟨g, 0, none⟩ at_ cap A (by rw [hAl]) (fun j v hj => by
        rw [addr_add]
        refine (row_cell (w := w.drew) hrow _).trans ?_
        rw [Nat.zero_add]
        exact rowh_ hct hj)
    have hrz : ∀ ty, (Builtin.append_ #[24, 3] ty #[.slice (some ⟨g, 0, none⟩) at_ cap, .int .i64 ((n : Int) + 1 - (at_ : Int))]).run Tryz.prog w =
        .ok (.slice (some ⟨w.heap.size, 0, none⟩) (n + 1) (grownCap w (n + 1) cap 34)) (w.drew.alloc (.cells (A.toArray ++ Builtin.zeroCells (Value.agg #[.int .i64 0, .int .i64 0, .int .i64 0]).cells (n + 1 - at_) ++ Builtin.zeroCells (Value.agg #[.int .i64 0, .int .i64 0, .int .i64 0]).cells (grownCap w (n + 1) cap 34 - (n + 1))) 34)) := fun ty => by
      have hik : at_ + (n + 1 - at_) = n + 1 := by omega
      have hkk : (n : Int) + 1 - (at_ : Int) = ((n + 1 - at_ : Nat) : Int) := by omega
      have h := Lib.run_append_grow_zeros w 24 3 ty 34 i0 _ .i64 .i64 Tryz.underlying24 Tryz.underlying3 hi hz0 (some ⟨g, 0, none⟩) at_ cap A hold (n + 1 - at_) (by omega) (by omega) (by omega) (by omega) (by rw [hz2]; omega) (by rw [hz2, hik]; exact growslice_fits (by omega) hbig)
      rw [hik] at h
      rw [hkk]
      exact h
    obtain ⟨G, hG⟩ : ∃ G, G = grownCap w (n + 1) cap 34 := ⟨_, rfl⟩
    have hGn : n + 1 ≤ G := by rw [hG]; exact grownCap_ge w _ _ _
    have hG63 : G ≤ maxLen := by rw [hG]; exact grownCap_le_maxLen w (n + 1) cap 34 (by unfold maxLen; omega)
    rw [← hG] at hrz
    obtain ⟨ROW, hROW⟩ : ∃ ROW : List Value, ROW = A ++ ((Builtin.zeroCells (Value.agg #[.int .i64 0, .int .i64 0, .int .i64 0]).cells (n + 1 - at_)).toList ++ (Builtin.zeroCells (Value.agg #[.int .i64 0, .int .i64 0, .int .i64 0]).cells (G - (n + 1))).toList) := ⟨_, rfl⟩
    have hRl : ROW.length = G * 3 := by
      rw [hROW]
      simp [Builtin.zeroCells, Value.cells, hAl]
      omega
    have hRt : ROW.take (at_ * 3) = A := by rw [hROW, List.take_append_of_le_length (by omega), List.take_of_length_le (by omega)]
    obtain ⟨W1, hW1⟩ : ∃ W1, W1 = w.drew.alloc (.cells ROW.toArray 34) := ⟨_, rfl⟩
    have hrz1 : ∀ ty, (Builtin.append_ #[24, 3] ty #[.slice (some ⟨g, 0, none⟩) at_ cap, .int .i64 ((n : Int) + 1 - (at_ : Int))]).run Tryz.prog w = .ok (.slice (some ⟨w.heap.size, 0, none⟩) (n + 1) G) W1 := fun ty => by
      rw [hrz ty, hW1, hROW, arr3_]
    have hrow1 : W1.heap[w.heap.size]? = some (.cells ROW.toArray 34 (0, 0)) := by rw [hW1]; exact heap_alloc_new w.drew _
    have hoth1 : ∀ k, k < w.heap.size → W1.heap[k]? = w.heap[k]? := fun k hk => by rw [hW1]; exact heap_alloc_old w.drew _ hk
    have hB1 : Below base w W1 := by rw [hW1]; exact ((Below.refl base w).drew).alloc hbase _
    obtain ⟨hFl, hFt⟩ := fill_rowVerified hlt (by omega) hRl hRt hAl hBl htl
    have hRs : (splice ROW (at_ * 3) (fVerified.enc t)).length = ROW.length := length_splice _ _ _ (by omega)
    have hGi : ¬ ((G : Int) = (at_ : Int)) := by omega
    have hHR1 := Lib.hid hrow1
    generalize hN : w.heap.size = N at *
    clear hrz hold hG hROW hW1 hrow1 hi hz0
    unfold maxLen at hG63
    go_enter Tryz.func53, Tryz.ntmps53
    go_wp2_with (first | (at_builtin; refine Lib.wpList_append_run _ rfl _ _ _ _ rfl _ _ rfl rfl _ _ (hrz1 _) ?_) | (refine wpList_copy_at rfl _ _ 24 24 rfl 34 Tryz.underlying24 3 hsz N (at_ * 3) _ _ ⟨nb, 0, none⟩ _ _ rfl rfl ROW 34 hHR1.out (fVerified.enc t) (1) (by simp only [Nat.min_def]; split <;> omega) (by omega) (hsrcT W1 (hoth1 nb hnw)) (by omega) htone ?_))
    intro w5 hrow5 hoth5 hb5
    have HR5 := Lib.hid hrow5
    have hsrcB : ∀ (j : Nat) u, B[j]? = some u → w5.drew.cell? ((⟨g, at_ * 3, none⟩ : Addr).add j) = some u := fun j u hu => by
      rw [addr_add]
      have h1 : w5.heap[g]? = some (.cells cur.toArray 34 (0, 0)) := ((hoth5 g (by omega)).trans (hoth1 g hgw)).trans hrow
      exact (row_cell (w := w5.drew) h1 _).trans (rowp_ hct hAl hu)
    clear hrow5 hrow
    go_wp2
    refine wp_region_mix (C := fun _ => True) [true, true, true, true, true, true, true, true, false] (by kernel_rfl) (by kernel_rfl) (by kernel_rfl) (fun _ _ d _ _ h => by cases d <;> exact h) trivial ?_
    have hS0 : Below (w5.heap.size) w5 w5.drew := Below.drew (Below.refl _ _)
    refine wpMix_pure (by kernel_rfl) (fun K hK => ?_); go_big_quiet_op; refine hK _ ?_; clear hK K
    refine wpMix_pure (by kernel_rfl) (fun K hK => ?_); go_big_quiet_op; refine hK _ ?_; clear hK K
    refine wpMix_pure (by kernel_rfl) (fun K hK => ?_); go_big_quiet_op; refine hK _ ?_; clear hK K
    refine wpMix_pure (by kernel_rfl) (fun K hK => ?_); go_big_quiet_op; refine hK _ ?_; clear hK K
    refine wpMix_pure (by kernel_rfl) (fun K hK => ?_); go_big_quiet_op; refine hK _ ?_; clear hK K
    refine wpMix_pure (by kernel_rfl) (fun K hK => ?_); go_big_quiet_op; refine hK _ ?_; clear hK K
    refine wpMix_pure (by kernel_rfl) (fun K hK => ?_); go_big_quiet_op; refine hK _ ?_; clear hK K
    refine wpMix_pure (by kernel_rfl) (fun K hK => ?_); go_big_quiet_op; refine hK _ ?_; clear hK K
    refine wpMix_act (by kernel_rfl) (fun K hK => ?_)
    refine wp_copy_at _ _ 24 24 rfl 34 Tryz.underlying24 3 hsz N ((at_ + 1) * 3) _ _ ⟨g, at_ * 3, none⟩ _ _ rfl rfl (splice ROW (at_ * 3) (fVerified.enc t)) 34 HR5.out B (n - at_) (by simp only [Nat.min_def]; split <;> omega) hBl hsrcB (by omega) hBone ?_
    intro w6 hrow6 hoth6 hb6
    try simp only [Act.put, List.setIfInBounds_toArray, List.set_cons_zero, List.set_cons_succ]
    refine hK _ _ trivial ?_
    clear hK K
    refine wpMix_nil ?_
    have HR6 := Lib.hid hrow6
    clear hrow6
    go_wp2
    go_ret
    refine ⟨_, rfl, ?_, (hB1.trans (hb5.mono hbase)).trans (((Below.refl base w5).drew).trans (hb6.mono hbase))⟩
    show World.ownsRow _ base _ 3 _ (xs.take at_ ++ t :: xs.drop at_).length ((xs.take at_ ++ t :: xs.drop at_).flatMap fVerified.enc)
    rw [HL.out, HE.out]
    exact own_of_row HR6.out hbase (by omega) (by unfold maxLen; omega) hFl hFt


/-- Put in at any place. -/
theorem insVerified_any (v : Value) (xs : List DVerified) (t : DVerified) (at_ nb base : Nat) (w : World) (hown : Own fVerified w base 34 v xs) (hat : at_ ≤ xs.length) (hnb : w.heap[nb]? = some (.cells #[.int .i64 t.day, .int .i64 t.told, .int .i64 t.seen] 34 (0, 0))) (hne : ∀ g, v.ownBlock = some g → nb ≠ g) (hl : xs.length ≤ 1000000) (hbase : base ≤ w.heap.size) :
    Calls Tryz.prog 53 #[v, .int .i64 at_, .slice (some ⟨nb, 0, none⟩) 1 1] w fun e w' => ∃ v', e = .returned v' ∧ Own fVerified w' base 34 v' (xs.take at_ ++ t :: xs.drop at_) ∧ Below base w w' := by
  rcases Nat.lt_or_ge at_ xs.length with hlt | hge
  · have hown' : w.ownsRow base 34 3 v xs.length (xs.flatMap fVerified.enc) := hown
    obtain ⟨g, cap, rfl, hg, hgw, _, _⟩ := ownO_ hown' (by omega)
    exact insertVerified_mid xs t g cap at_ nb base w hown' hlt hnb (hne g rfl) hl hbase
  · obtain rfl : at_ = xs.length := by omega
    rw [List.take_length, List.drop_length]
    refine insertVerified_end v xs t nb base w hown ⟨some ⟨nb, 0, none⟩, 1, rfl, by simp, ?_⟩ hl hbase
    intro ad had j u hu
    cases had
    rw [addr_add, World.cell?, hnb]
    simpa [fVerified] using hu

end Go.Proofs.YthabmofkjdiccaaGreatDoor

namespace Go.Proofs.YthabmofkjdiccaaGreatDoor
open Go.RowKit
section
variable {P : Program} {ops : Array Oper} {Q : Exit → Act → World → Prop} {md : Region.Mode} {C : World → Prop}

def mixF (md : Region.Mode) (ops : Array Oper) (i : Nat) (is1 : List Nat) (ks1 : List Bool) (j : Nat) (is2 : List Nat) (ks2 : List Bool) : List Nat → Array Bool → Bool
  | [], listed => (Region.ready md ops listed == [i, j]) && mixB md ops is1 ks1 (listed.setIfInBounds i true) && mixB md ops is2 ks2 (listed.setIfInBounds j true)
  | p :: ps, listed => (Region.ready md ops listed).contains p && Region.free md ops listed p && ((ops[p]?).map valueOnly).getD false && mixF md ops i is1 ks1 j is2 ks2 ps (listed.setIfInBounds p true)
def wpFork (P : Program) (ops : Array Oper) (Q : Exit → Act → World → Prop) (C : World → Prop) (ks1 : List Bool) (l1 : List Oper) (ks2 : List Bool) (l2 : List Oper) : List Oper → Act → World → Prop
  | [], a, w => wpMix P ops Q C (false :: ks1) l1 a w ∧ wpMix P ops Q C (false :: ks2) l2 a w
  | o :: lp, a, w => if Region.wanted o (yielded ops a.tmps) then o.quiet P a C (fun a' => wpFork P ops Q C ks1 l1 ks2 l2 lp a' w) else wpFork P ops Q C ks1 l1 ks2 l2 lp (a.put o.dst undef) w

theorem wpOp_of_mix (hs : Region.noSelect ops = true) (hQ : ∀ (c : _) (a : Act) (d : Option Tmp) (v : Value) (w : World), Q (.panic c) (a.put d v) w → Q (.panic c) a w)
    {i : Nat} {is : List Nat} {ks : List Bool} {listed : Array Bool} {a : Act} {w : World} (hi : i < ops.size) (his : ∀ x ∈ is, x < ops.size) (hB : mixB md ops is ks (listed.setIfInBounds i true) = true) (hC : C w)
    (h : wpMix P ops Q C (false :: ks) ((i :: is).map fun i => ops.getD i default) a w) :
    wpOp P ops Q i (fun a' w' => C w' ∧ wpAnyH P md ops Q C is.length (listed.setIfInBounds i true) a' w') a w := by
  have ho : ops[i]? = some (ops.getD i default) := by simp [hi]
  have hl : ∀ j : Nat, (is.map fun i => ops.getD i default)[j]? = (is[j]?).bind (fun i => ops[i]?) := fun j => by
    rw [List.getElem?_map]
    cases hj : is[j]? with
    | none => rfl
    | some x => have := his x (List.mem_of_getElem? hj); simp [this]
  rw [List.map_cons] at h
  simp only [wpMix] at h
  unfold wpOp
  simp only [ho]
  by_cases hw : Region.wanted (ops.getD i default) (yielded ops a.tmps) = true
  · rw [if_pos hw] at h ⊢
    exact .inl (Oper.wp_mono (fun a' w' hh => ⟨hh.1, wpAnyH_of_mix hs hQ is ks _ _ a' w' hl (by simp) hB hh.1 hh.2⟩) h)
  · rw [if_neg hw] at h ⊢
    exact ⟨hC, wpAnyH_of_mix hs hQ is ks _ _ _ w hl (by simp) hB hC h⟩

theorem wpAnyH_of_fork (hs : Region.noSelect ops = true) (hQ : ∀ (c : _) (a : Act) (d : Option Tmp) (v : Value) (w : World), Q (.panic c) (a.put d v) w → Q (.panic c) a w)
    {i : Nat} {is1 : List Nat} {ks1 : List Bool} {j : Nat} {is2 : List Nat} {ks2 : List Bool} (hi : i < ops.size) (hj : j < ops.size) (h1 : ∀ x ∈ is1, x < ops.size) (h2 : ∀ x ∈ is2, x < ops.size) (hlen : is1.length = is2.length) :
    ∀ (ps : List Nat) (listed : Array Bool) (a : Act) (w : World), (∀ x ∈ ps, x < ops.size) → mixF md ops i is1 ks1 j is2 ks2 ps listed = true → C w →
      wpFork P ops Q C ks1 ((i :: is1).map fun i => ops.getD i default) ks2 ((j :: is2).map fun i => ops.getD i default) (ps.map fun i => ops.getD i default) a w → wpAnyH P md ops Q C (ps.length + (is1.length + 1)) listed a w := by
  intro ps
  induction ps with
  | nil =>
    intro listed a w _ hB hC h
    simp only [mixF, Bool.and_eq_true, beq_iff_eq] at hB
    obtain ⟨⟨hr, hb1⟩, hb2⟩ := hB
    simp only [List.map_nil, wpFork] at h
    rw [List.length_nil, Nat.zero_add]
    refine wpAnyH_all hr (by simp) (fun x hx => ?_)
    rcases List.mem_cons.1 hx with rfl | hx
    · exact wpOp_of_mix hs hQ hi h1 hb1 hC h.1
    · rw [List.mem_singleton] at hx; subst hx
      rw [hlen]
      exact wpOp_of_mix hs hQ hj h2 hb2 hC h.2
  | cons p ps ih =>
    intro listed a w hps hB hC h
    have hp : p < ops.size := hps p (by simp)
    have ho : ops[p]? = some (ops.getD p default) := by simp [hp]
    simp only [mixF, Bool.and_eq_true, ho, Option.map_some, Option.getD_some] at hB
    obtain ⟨⟨⟨hr, hf⟩, hv⟩, hB'⟩ := hB
    rw [show ((p :: ps).map fun i => ops.getD i default) = ops.getD p default :: ps.map (fun i => ops.getD i default) from rfl] at h
    simp only [wpFork] at h
    rw [List.length_cons, show ps.length + 1 + (is1.length + 1) = (ps.length + (is1.length + 1)) + 1 by omega]
    by_cases hw : Region.wanted (ops.getD p default) (yielded ops a.tmps) = true
    · rw [if_pos hw] at h
      obtain ⟨v, q1, q2⟩ := yieldsIf_of_quiet hv h
      exact wpAnyH_take ho hs hf hr (fun c a w => hQ c a _ _ w) (.inl ⟨hw, q1⟩) hC (ih _ _ w (fun x hx => hps x (by simp [hx])) hB' hC q2)
    · rw [if_neg hw] at h
      exact wpAnyH_take ho hs hf hr (fun c a w => hQ c a _ _ w) (.inr ⟨by simpa using hw, rfl⟩) hC (ih _ _ w (fun x hx => hps x (by simp [hx])) hB' hC h)

structure Fork (P : Program) (ops : Array Oper) (Q : Exit → Act → World → Prop) (C : World → Prop) (ks1 : List Bool) (l1 : List Oper) (ks2 : List Bool) (l2 : List Oper) (lp : List Oper) (a : Act) (w : World) : Prop where
  out : wpFork P ops Q C ks1 l1 ks2 l2 lp a w
theorem wp_region_fork {id : Nat} {l : List Oper} {a : Act} {w : World} (ps : List Nat) (i : Nat) (is1 : List Nat) (ks1 : List Bool) (j : Nat) (is2 : List Nat) (ks2 : List Bool) (hm : P.follows .mixedOrders = true) (hs : Region.noSelect l.toArray = true)
    (hB : (((i :: j :: (ps ++ is1 ++ is2)).all (fun x => decide (x < l.length))) && decide (is1.length = is2.length) && decide (ps.length + (is1.length + 1) = l.length) && mixF .any l.toArray i is1 ks1 j is2 ks2 ps (Array.replicate l.length false)) = true)
    (hQ : ∀ (c : _) (a : Act) (d : Option Tmp) (v : Value) (w : World), Q (.panic c) (a.put d v) w → Q (.panic c) a w) (hC : C w.drew)
    (h : Fork P l.toArray Q C ks1 ((i :: is1).map fun i => l.getD i default) ks2 ((j :: is2).map fun i => l.getD i default) (ps.map fun i => l.getD i default) a w.drew) : (Code.region id l.toArray true).wp P Q a w := by
  simp only [Bool.and_eq_true, decide_eq_true_eq, List.all_eq_true] at hB
  obtain ⟨⟨⟨h1, h2⟩, h3⟩, h4⟩ := hB
  refine wp_region_held (S := C) hm ?_
  have hg : (fun i => l.toArray.getD i default) = (fun i => l.getD i default) := by funext x; simp [Array.getD_eq_getD_getElem?, List.getD_eq_getElem?_getD]
  have := wpAnyH_of_fork (md := .any) (ops := l.toArray) hs hQ (i := i) (is1 := is1) (ks1 := ks1) (j := j) (is2 := is2) (ks2 := ks2) (by simpa using h1 i (by simp)) (by simpa using h1 j (by simp))
    (fun x hx => by simpa using h1 x (by simp [hx])) (fun x hx => by simpa using h1 x (by simp [hx])) h2 ps (Array.replicate l.length false) a w.drew (fun x hx => by simpa using h1 x (by simp [hx])) h4 hC (by rw [hg]; exact h.out)
  rw [h3] at this
  simpa using this
theorem wpFork_pure {ks1 ks2 : List Bool} {l1 l2 : List Oper} {o : Oper} {l : List Oper} {a : Act} {w : World} (hw : Region.wanted o (yielded ops a.tmps) = true)
    (h : ∀ K : Act → Prop, (∀ a', Fork P ops Q C ks1 l1 ks2 l2 l a' w → K a') → o.quiet P a C K) : Fork P ops Q C ks1 l1 ks2 l2 (o :: l) a w := by
  refine ⟨?_⟩
  simp only [wpFork]; rw [if_pos hw]; exact h _ fun _ h => h.out
theorem wpFork_split {ks1 ks2 : List Bool} {l1 l2 : List Oper} {a : Act} {w : World} (h1 : Mix P ops Q C (false :: ks1) l1 a w) (h2 : Mix P ops Q C (false :: ks2) l2 a w) : Fork P ops Q C ks1 l1 ks2 l2 [] a w := ⟨⟨h1.out, h2.out⟩⟩
end
end Go.Proofs.YthabmofkjdiccaaGreatDoor

namespace Go.Proofs.YthabmofkjdiccaaGreatDoor
open Go.RowKit
set_option linter.unusedVariables false

theorem ver_back {xs : List DVerified} (h : versB xs = true) (t : DVerified) : ∀ (a b : Nat) (hab : a ≤ b) (hb : b < xs.length), cmI xs[b].day t.day < 0 → cmI (xs[a]'(by omega)).day t.day < 0 := by
  intro a b hab
  induction hab with
  | refl => intro hb h0; exact h0
  | @step m hm ih =>
    intro hb h0
    have h1 := versB_two h hb
    unfold verBef at h1
    have h1 := of_decide_eq_true h1
    replace h0 : cmI (xs[m + 1]'hb).day t.day < 0 := h0
    rw [cmI_lt] at h0
    exact ih (by omega) (cmI_lt.2 (by omega))
def addVerifiedC (xs : List DVerified) (x : DVerified) : Int := if versB xs then (if verB x then (if hasVerified xs x then 4 else if xs.length = 64 then 5 else 0) else 2) else 1
def addVerifiedF (xs : List DVerified) (x : DVerified) : List DVerified := if addVerifiedC xs x = 0 then xs.take (atVerified xs x) ++ x :: xs.drop (atVerified xs x) else []
theorem addVerified_bad {xs : List DVerified} {x : DVerified} {c : Int} (h : addVerifiedC xs x = c) (h0 : c ≠ 0) : addVerifiedC xs x = c ∧ addVerifiedF xs x = [] := ⟨h, by unfold addVerifiedF; rw [if_neg (by rw [h]; exact h0)]⟩
theorem addVerified_ok {xs : List DVerified} {x : DVerified} (h : addVerifiedC xs x = 0) : versB xs = true ∧ verB x = true ∧ hasVerified xs x = false ∧ xs.length < 64 := by
  unfold addVerifiedC at h
  split at h
  · rename_i h1
    split at h
    · rename_i h2
      split at h
      · cases h
      · rename_i h3
        split at h
        · cases h
        · rename_i h4
          simp only [Bool.not_eq_true] at h3
          refine ⟨h1, h2, h3, ?_⟩
          have : xs.length ≤ 64 := versB_len h1
          omega
    · cases h
  · cases h
set_option maxRecDepth 100000 in
set_option maxHeartbeats 8000000 in
theorem addVerified_any (v : Value) (xs : List DVerified) (fp : List Nat) (x : DVerified) (w : World) (hx : Sl fVerified.cod w v xs fp) (hok : fVerified.ok x) :
    Calls Tryz.prog 13 #[v, .agg #[.int .i64 x.day, .int .i64 x.told, .int .i64 x.seen]] w fun e w' => NewR2 fVerified.cod w (addVerifiedF xs x) (addVerifiedC xs x) e w' := by
  obtain ⟨A, cap, rfl, hlen, hcap⟩ := hx.form
  have hB0 : Below w.heap.size w (w.alloc (.cells #[.int .i64 x.day, .int .i64 x.told, .int .i64 x.seen] 34)) := (Below.refl _ _).alloc (Nat.le_refl _) _
  have hp := PVerified.box w x 34
  replace hx := hx.below' hB0
  have hEC := Lib.hid (show addVerifiedC xs x = _ from rfl)
  go_enter Tryz.func13, Tryz.ntmps13
  go_wp2_with fail
  refine (ValidVerified_any _ xs fp _ hx).mono ?_
  rintro e w1 ⟨rfl, hb1⟩
  have hp1 := hp.below' hb1
  have hx1 := hx.below' hb1
  have hB1 := hB0.trans (hb1.mono hB0.size)
  clear hp hx hb1 hB0
  cases hv : versB xs
  · have HE := Lib.hid (addVerified_bad (x := x) (show addVerifiedC xs x = 1 by unfold addVerifiedC; rw [hv]; rfl) (by decide))
    go_wp2
    go_ret2
    exact ⟨_, by rw [HE.out.1]; rfl, by rw [HE.out.2]; exact New.nil hB1⟩
  have hlen2 := versB_len hv
  obtain ⟨c0, c1, c2⟩ := id hp1
  go_wp2_with fail
  refine (bsearchVerified_any _ xs fp x _ hx1 (ver_back hv x) (by omega)).mono ?_
  rintro e w2 ⟨rfl, hb2⟩
  have hp2 := hp1.below' hb2
  have hx2 := hx1.below' hb2
  have hB2 := hB1.trans (hb2.mono hB1.size)
  have hat : atVerified xs x ≤ xs.length := posF_le _ _
  clear hp1 hx1 hb2 c0 c1 c2
  obtain ⟨c0, c1, c2⟩ := id hp2
  go_wp2_with fail
  refine (validVerified_any x _ hok).mono ?_
  rintro e w3 ⟨rfl, hb3⟩
  have hp3 := hp2.below' hb3
  have hx3 := hx2.below' hb3
  have hB3 := hB2.trans (hb3.mono hB2.size)
  clear hp2 hx2 hb3 c0 c1 c2
  cases ho : verB x
  · have HE := Lib.hid (addVerified_bad (show addVerifiedC xs x = 2 by unfold addVerifiedC; rw [hv, ho]; rfl) (by decide))
    go_wp2
    go_ret2
    exact ⟨_, by rw [HE.out.1]; rfl, by rw [HE.out.2]; exact New.nil hB3⟩
  cases hh : hasVerified xs x
  rotate_left
  · have HE := Lib.hid (addVerified_bad (show addVerifiedC xs x = 4 by unfold addVerifiedC; rw [hv, ho, hh]; rfl) (by decide))
    go_wp2
    go_ret2
    exact ⟨_, by rw [HE.out.1]; rfl, by rw [HE.out.2]; exact New.nil hB3⟩
  by_cases hM : xs.length = 64
  · have HE := Lib.hid (addVerified_bad (show addVerifiedC xs x = 5 by unfold addVerifiedC; rw [hv, ho, hh, if_pos hM]; rfl) (by decide))
    have eM : ((xs.length : Int) == 64) = true := by rw [hM]; rfl
    clear hM
    go_wp2
    go_ret2
    exact ⟨_, by rw [HE.out.1]; rfl, by rw [HE.out.2]; exact New.nil hB3⟩
  have hC0 : addVerifiedC xs x = 0 := by unfold addVerifiedC; rw [hv, ho, hh, if_neg hM]; rfl
  have HC := Lib.hid hC0
  have HF : Hid (addVerifiedF xs x = xs.take (atVerified xs x) ++ x :: xs.drop (atVerified xs x)) := by show _ = _; unfold addVerifiedF; rw [if_pos hC0]
  have eM : ((xs.length : Int) == 64) = false := by rw [beq_eq_false_iff_ne]; omega
  have hoks := hx3.oks
  have HOK : Hid (∀ y ∈ xs.take (atVerified xs x) ++ x :: xs.drop (atVerified xs x), fVerified.ok y) := fun y hy => by
    rcases List.mem_append.1 hy with hy | hy
    · exact hoks y (List.mem_of_mem_take hy)
    · rcases List.mem_cons.1 hy with rfl | hy
      · exact hok
      · exact hoks y (List.mem_of_mem_drop hy)
  clear hC0 hM hv ho hh hoks hEC
  generalize atVerified xs x = at_ at *
  obtain ⟨c0, c1, c2⟩ := id hp3
  go_wp2
  have gc0 := cell_regrown c0
  have gc1 := cell_regrown c1
  have gc2 := cell_regrown c2
  refine wp_region_fork (C := fun w' => ∃ p : Regrown, w' = Go.Sort.grow (redrawn w3 p.d) p.os) [0, 2, 3] 1 [4, 5, 6, 7] [false, false, true, true] 4 [1, 5, 6, 7] [false, false, true, true] (by kernel_rfl) (by kernel_rfl) (by kernel_rfl) (fun _ _ d _ _ h => by cases d <;> exact h) (regrown_of_below (Below.drew (Below.refl _ _))) ?_
  simp only [List.map_cons, List.map_nil, List.getD_cons_zero, List.getD_cons_succ]
  have hS0 : Below (w3.heap.size) w3 w3.drew := Below.drew (Below.refl _ _)
  refine wpFork_pure (by kernel_rfl) (fun K hK => ?_)
  go_big_quiet_op
  refine hK _ ?_; clear hK K
  refine wpFork_pure (by kernel_rfl) (fun K hK => ?_)
  go_big_quiet_op
  refine hK _ ?_; clear hK K
  refine wpFork_pure (by kernel_rfl) (fun K hK => ?_)
  go_big_quiet_op
  refine hK _ ?_; clear hK K
  refine wpFork_split ?_ ?_
  · skip
    refine wpMix_act (by kernel_rfl) (fun K hK => ?_)
    go_big_op
    refine (cloneVerified_any _ xs fp w3.drew (hx3.below' (hS0)) (by omega)).mono ?_
    rintro e wr1 ⟨v3, rfl, hown, hbr1⟩
    have hbr1S : Below (w3.heap.size) w3 wr1 := hS0.trans (hbr1.mono hS0.size)
    refine hK _ _ (regrown_of_below hbr1S) ?_
    clear hK K
    refine wpMix_act (by kernel_rfl) (fun K hK => ?_)
    go_big_op
    refine hK _ _ (regrown_of_below (hbr1S.alloc hbr1S.size _)) ?_
    clear hK K
    refine mix_world (fun N => Below (w3.heap.size) w3 N ∧ (N.heap[wr1.heap.size]? = some (.cells #[.int .i64 x.day, .int .i64 x.told, .int .i64 x.seen] 34 (0, 0)) ∧ Below wr1.heap.size wr1 N ∧ wr1.heap.size < N.heap.size)) ⟨hbr1S.alloc hbr1S.size _, ⟨heap_alloc_new wr1 _, (Below.refl _ _).alloc (Nat.le_refl _) _, by simp⟩⟩ ?_
    rintro wr2 ⟨hbr2S, hbr2F⟩
    refine wpMix_act (by kernel_rfl) (fun K hK => ?_)
    go_big_op
    refine (insVerified_any v3 xs x at_ wr1.heap.size w3.drew.heap.size wr2 (hown.below hbr2F.2.1) hat hbr2F.1 (fun g hg => by have := (hown.lt g hg).2; omega) (by omega) (by have := hbr1S.size; have := hbr2F.2.2; have := (show w3.drew.heap.size = w3.heap.size from rfl); omega)).mono ?_
    rintro e wr3 ⟨v4, rfl, hown4, hbr3⟩
    have hbr3S : Below (w3.heap.size) w3 wr3 := hbr2S.trans (hbr3.mono (Nat.le_refl _))
    refine hK _ _ (regrown_of_below hbr3S) ?_
    clear hK K
    refine wpMix_pure (by kernel_rfl) (fun K hK => ?_); go_big_quiet_op; refine hK _ ?_; clear hK K
    refine wpMix_pure (by kernel_rfl) (fun K hK => ?_); go_big_quiet_op; refine hK _ ?_; clear hK K
    refine wpMix_nil ?_
    have hS9 : Below w3.heap.size w3 wr3 := hbr3S
    have hB9 := hB3.trans (hS9.mono hB3.size)
    have hownZ : Own fVerified wr3 w.heap.size 34 v4 (xs.take at_ ++ x :: xs.drop at_) := ownM_ hown4 (by have := hB3.size; first | exact this | (have h9 := hbr4S.size; omega) | (have h9 := hbr1S.size; omega))
    have hn := hownZ.new hB9 HOK.out
    clear hown4 hownZ
    go_wp2
    go_ret2
    exact ⟨_, by rw [HC.out]; rfl, by rw [HF.out]; exact hn⟩
  · skip
    refine wpMix_act (by kernel_rfl) (fun K hK => ?_)
    go_big_op
    refine hK _ _ (regrown_of_below (hS0.alloc hS0.size _)) ?_
    clear hK K
    refine mix_world (fun N => Below (w3.heap.size) w3 N ∧ (N.heap[w3.drew.heap.size]? = some (.cells #[.int .i64 x.day, .int .i64 x.told, .int .i64 x.seen] 34 (0, 0)) ∧ Below w3.drew.heap.size w3.drew N ∧ w3.drew.heap.size < N.heap.size)) ⟨hS0.alloc hS0.size _, ⟨heap_alloc_new w3.drew _, (Below.refl _ _).alloc (Nat.le_refl _) _, by simp⟩⟩ ?_
    rintro wr4 ⟨hbr4S, hbr4F⟩
    refine wpMix_act (by kernel_rfl) (fun K hK => ?_)
    go_big_op
    refine (cloneVerified_any _ xs fp wr4 (hx3.below' (hbr4S)) (by omega)).mono ?_
    rintro e wr5 ⟨v3, rfl, hown, hbr5⟩
    have hbr5S : Below (w3.heap.size) w3 wr5 := hbr4S.trans (hbr5.mono hbr4S.size)
    refine hK _ _ (regrown_of_below hbr5S) ?_
    clear hK K
    refine wpMix_act (by kernel_rfl) (fun K hK => ?_)
    go_big_op
    refine (insVerified_any v3 xs x at_ w3.drew.heap.size wr4.heap.size wr5 hown hat ((hbr5.block _ hbr4F.2.2).trans hbr4F.1) (fun g hg => by have := (hown.lt g hg).1; have := hbr4F.2.2; omega) (by omega) (hbr5.size)).mono ?_
    rintro e wr6 ⟨v4, rfl, hown4, hbr6⟩
    have hbr6S : Below (w3.heap.size) w3 wr6 := hbr5S.trans (hbr6.mono (Nat.le_of_lt hbr4F.2.2))
    refine hK _ _ (regrown_of_below hbr6S) ?_
    clear hK K
    refine wpMix_pure (by kernel_rfl) (fun K hK => ?_); go_big_quiet_op; refine hK _ ?_; clear hK K
    refine wpMix_pure (by kernel_rfl) (fun K hK => ?_); go_big_quiet_op; refine hK _ ?_; clear hK K
    refine wpMix_nil ?_
    have hS9 : Below w3.heap.size w3 wr6 := hbr6S
    have hB9 := hB3.trans (hS9.mono hB3.size)
    have hownZ : Own fVerified wr6 w.heap.size 34 v4 (xs.take at_ ++ x :: xs.drop at_) := ownM_ hown4 (by have := hB3.size; first | exact this | (have h9 := hbr4S.size; omega) | (have h9 := hbr1S.size; omega))
    have hn := hownZ.new hB9 HOK.out
    clear hown4 hownZ
    go_wp2
    go_ret2
    exact ⟨_, by rw [HC.out]; rfl, by rw [HF.out]; exact hn⟩

end Go.Proofs.YthabmofkjdiccaaGreatDoor

namespace Go.Proofs.YthabmofkjdiccaaGreatDoor
open Go.RowKit
set_option linter.unusedVariables false

set_option maxRecDepth 100000 in
set_option maxHeartbeats 8000000 in
theorem specAddVerified_any (v : Value) (xs : List DVerified) (fp : List Nat) (x : DVerified) (w : World) (hx : Sl fVerified.cod w v xs fp) (hok : fVerified.ok x) :
    Calls Tryz.prog 82 #[v, .agg #[.int .i64 x.day, .int .i64 x.told, .int .i64 x.seen]] w fun e w' => ∃ v', e = .returned (.tuple #[v', .int .i64 (addVerifiedC xs x)]) ∧ Own fVerified w' w.heap.size 34 v' (addVerifiedF xs x) ∧ Below w.heap.size w w' := by
  obtain ⟨A, cap, rfl, hlen, hcap⟩ := hx.form
  obtain ⟨i0, hi, hz0, hz1, hz2⟩ := info_parts infoVerifiedK
  have hfp := hx.lt
  have hB0 : Below w.heap.size w (w.alloc (.cells #[.int .i64 x.day, .int .i64 x.told, .int .i64 x.seen] 34)) := (Below.refl _ _).alloc (Nat.le_refl _) _
  have hp := PVerified.box w x 34
  replace hx := hx.below' hB0
  go_enter Tryz.func82, Tryz.ntmps82
  go_wp2_with fail
  refine (l20Ok_any _ xs fp _ hx).mono ?_
  rintro e w1 ⟨rfl, hb1⟩
  have hp1 := hp.below' hb1
  have hx1 := hx.below' hb1
  have hB1 := hB0.trans (hb1.mono hB0.size)
  clear hp hx hb1 hB0
  cases hv : versB xs
  · have HE := Lib.hid (addVerified_bad (x := x) (show addVerifiedC xs x = 1 by unfold addVerifiedC; rw [hv]; rfl) (by decide))
    go_wp2
    go_ret2
    exact ⟨_, by rw [HE.out.1]; rfl, by rw [HE.out.2]; exact Own.nil _ _ _ _, hB1⟩
  have hlen2 := versB_len hv
  go_wp2_with fail
  refine (l20One_any _ _ x _ hp1 hok).mono ?_
  rintro e w2 ⟨rfl, hb2⟩
  have hp2 := hp1.below' hb2
  have hx2 := hx1.below' hb2
  have hB2 := hB1.trans (hb2.mono hB1.size)
  have hgx := hp2.lt
  clear hp1 hx1 hb2
  cases ho : verB x
  · have HE := Lib.hid (addVerified_bad (show addVerifiedC xs x = 2 by unfold addVerifiedC; rw [hv, ho]; rfl) (by decide))
    go_wp2
    go_ret2
    exact ⟨_, by rw [HE.out.1]; rfl, by rw [HE.out.2]; exact Own.nil _ _ _ _, hB2⟩
  go_wp2
  go_loopw [6] (fun i wr => ∃ k : Nat, k ≤ xs.length ∧ i = .int .i64 k ∧ Hid (∀ m (h : m < xs.length), m < k → xs[m].day < x.day) ∧ Below w2.heap.size w2 wr) (fun i _ => xs.length - (intOf i).toNat)
  case atStart => exact ⟨0, Nat.zero_le _, rfl, fun m _ h => absurd h (Nat.not_lt_zero _), Below.refl _ _⟩
  case round =>
    obtain ⟨k, hk, rfl, HA, hb⟩ := hrel
    obtain ⟨d0, d1, d2⟩ := id (hp2.below' hb)
    by_cases hlt : k < xs.length
    · obtain ⟨b1, off, rfl, _, hok1, hpm⟩ := PVerified.elem (hx2.below' hb) hlt
      obtain ⟨c0, c1, c2⟩ := id hpm
      by_cases hq : xs[k].day < x.day
      · have HA2 : Hid (∀ m (h : m < xs.length), m < k + 1 → xs[m].day < x.day) := fun m h hm => by
          rcases Nat.lt_or_eq_of_le (Nat.le_of_lt_succ hm) with h1 | rfl
          · exact HA.out m h h1
          · exact hq
        clear HA
        go_wp2
        have gc0 := cell_regrown c0
        have gc1 := cell_regrown c1
        have gc2 := cell_regrown c2
        have gd0 := cell_regrown d0
        have gd1 := cell_regrown d1
        have gd2 := cell_regrown d2
        refine wp_region_mix (C := fun w' => ∃ p : Regrown, w' = Go.Sort.grow (redrawn wr p.d) p.os) [true, true, true, true, true, true, true, true, true, true, true, true, true, true] (by kernel_rfl) (by kernel_rfl) (by kernel_rfl) (fun _ _ d _ _ h => by cases d <;> exact h) (regrown_of_below (Below.drew (Below.refl _ _))) ?_
        have hS0 : Below (wr.heap.size) wr wr.drew := Below.drew (Below.refl _ _)
        refine wpMix_pure (by kernel_rfl) (fun K hK => ?_); go_big_quiet_op; refine hK _ ?_; clear hK K
        refine wpMix_pure (by kernel_rfl) (fun K hK => ?_); go_big_quiet_op; refine hK _ ?_; clear hK K
        refine wpMix_pure (by kernel_rfl) (fun K hK => ?_); go_big_quiet_op; refine hK _ ?_; clear hK K
        refine wpMix_pure (by kernel_rfl) (fun K hK => ?_); go_big_quiet_op; refine hK _ ?_; clear hK K
        refine wpMix_pure (by kernel_rfl) (fun K hK => ?_); go_big_quiet_op; refine hK _ ?_; clear hK K
        refine wpMix_pure (by kernel_rfl) (fun K hK => ?_); go_big_quiet_op; refine hK _ ?_; clear hK K
        refine wpMix_pure (by kernel_rfl) (fun K hK => ?_); go_big_quiet_op; refine hK _ ?_; clear hK K
        refine wpMix_pure (by kernel_rfl) (fun K hK => ?_); go_big_quiet_op; refine hK _ ?_; clear hK K
        refine wpMix_pure (by kernel_rfl) (fun K hK => ?_); go_big_quiet_op; refine hK _ ?_; clear hK K
        refine wpMix_pure (by kernel_rfl) (fun K hK => ?_); go_big_quiet_op; refine hK _ ?_; clear hK K
        refine wpMix_pure (by kernel_rfl) (fun K hK => ?_); go_big_quiet_op; refine hK _ ?_; clear hK K
        refine wpMix_pure (by kernel_rfl) (fun K hK => ?_); go_big_quiet_op; refine hK _ ?_; clear hK K
        refine wpMix_pure (by kernel_rfl) (fun K hK => ?_); go_big_quiet_op; refine hK _ ?_; clear hK K
        refine wpMix_pure (by kernel_rfl) (fun K hK => ?_); go_big_quiet_op; refine hK _ ?_; clear hK K
        refine wpMix_nil ?_
        go_wp2
        go_roundw
        case rel => exact ⟨k + 1, by omega, by go_num, HA2, hb.trans (hS0.mono hb.size)⟩
        case measure => simp [intOf]; omega
      · have HAT : Hid (atVerified xs x = k) := posF_is _ xs k hk (fun m h hm => decide_eq_true (cmI_lt.2 (HA.out m h hm))) (fun h => decide_eq_false (fun h2 => hq (cmI_lt.1 h2)))
        by_cases hqe : xs[k].day = x.day
        · have hh : hasVerified xs x = true := by
            unfold hasVerified
            rw [HAT.out, List.getElem?_eq_getElem hlt]
            show (cmI _ _ == 0) = true
            rw [beq_iff_eq]; exact cmI_zero.2 hqe
          have eq1 : (xs[k].day == x.day) = true := by rw [beq_iff_eq]; exact hqe
          clear hqe HA
          go_wp2
          have gc0 := cell_regrown c0
          have gc1 := cell_regrown c1
          have gc2 := cell_regrown c2
          have gd0 := cell_regrown d0
          have gd1 := cell_regrown d1
          have gd2 := cell_regrown d2
          refine wp_region_mix (C := fun w' => ∃ p : Regrown, w' = Go.Sort.grow (redrawn wr p.d) p.os) [true, true, true, true, true, true, true, true, true, true, true, true, true, true] (by kernel_rfl) (by kernel_rfl) (by kernel_rfl) (fun _ _ d _ _ h => by cases d <;> exact h) (regrown_of_below (Below.drew (Below.refl _ _))) ?_
          have hS0 : Below (wr.heap.size) wr wr.drew := Below.drew (Below.refl _ _)
          refine wpMix_pure (by kernel_rfl) (fun K hK => ?_); go_big_quiet_op; refine hK _ ?_; clear hK K
          refine wpMix_pure (by kernel_rfl) (fun K hK => ?_); go_big_quiet_op; refine hK _ ?_; clear hK K
          refine wpMix_pure (by kernel_rfl) (fun K hK => ?_); go_big_quiet_op; refine hK _ ?_; clear hK K
          refine wpMix_pure (by kernel_rfl) (fun K hK => ?_); go_big_quiet_op; refine hK _ ?_; clear hK K
          refine wpMix_pure (by kernel_rfl) (fun K hK => ?_); go_big_quiet_op; refine hK _ ?_; clear hK K
          refine wpMix_pure (by kernel_rfl) (fun K hK => ?_); go_big_quiet_op; refine hK _ ?_; clear hK K
          refine wpMix_pure (by kernel_rfl) (fun K hK => ?_); go_big_quiet_op; refine hK _ ?_; clear hK K
          refine wpMix_pure (by kernel_rfl) (fun K hK => ?_); go_big_quiet_op; refine hK _ ?_; clear hK K
          refine wpMix_pure (by kernel_rfl) (fun K hK => ?_); go_big_quiet_op; refine hK _ ?_; clear hK K
          refine wpMix_pure (by kernel_rfl) (fun K hK => ?_); go_big_quiet_op; refine hK _ ?_; clear hK K
          refine wpMix_pure (by kernel_rfl) (fun K hK => ?_); go_big_quiet_op; refine hK _ ?_; clear hK K
          refine wpMix_pure (by kernel_rfl) (fun K hK => ?_); go_big_quiet_op; refine hK _ ?_; clear hK K
          refine wpMix_pure (by kernel_rfl) (fun K hK => ?_); go_big_quiet_op; refine hK _ ?_; clear hK K
          refine wpMix_pure (by kernel_rfl) (fun K hK => ?_); go_big_quiet_op; refine hK _ ?_; clear hK K
          refine wpMix_nil ?_
          have hS7 := hS0
          have hb7 := hb.trans (hS7.mono hb.size)
          clear gc0 gc1 gc2 gd0 gd1 gd2 hS0 c0 c1 c2 d0 d1 d2
          have hpm7 := hpm.below' hS7
          generalize wr.drew = W7 at *
          obtain ⟨d0, d1, d2⟩ := id (hp2.below' hb7)
          obtain ⟨c0, c1, c2⟩ := id hpm7
          clear hpm7 hpm
          clear hS7 hb
          go_wp2
          have gc0 := cell_regrown c0
          have gc1 := cell_regrown c1
          have gc2 := cell_regrown c2
          have gd0 := cell_regrown d0
          have gd1 := cell_regrown d1
          have gd2 := cell_regrown d2
          refine wp_region_mix (C := fun w' => ∃ p : Regrown, w' = Go.Sort.grow (redrawn W7 p.d) p.os) [true, true, true, true, true, true, true, true, true, true, true, true, true, true] (by kernel_rfl) (by kernel_rfl) (by kernel_rfl) (fun _ _ d _ _ h => by cases d <;> exact h) (regrown_of_below (Below.drew (Below.refl _ _))) ?_
          have hS0 : Below (W7.heap.size) W7 W7.drew := Below.drew (Below.refl _ _)
          refine wpMix_pure (by kernel_rfl) (fun K hK => ?_); go_big_quiet_op; refine hK _ ?_; clear hK K
          refine wpMix_pure (by kernel_rfl) (fun K hK => ?_); go_big_quiet_op; refine hK _ ?_; clear hK K
          refine wpMix_pure (by kernel_rfl) (fun K hK => ?_); go_big_quiet_op; refine hK _ ?_; clear hK K
          refine wpMix_pure (by kernel_rfl) (fun K hK => ?_); go_big_quiet_op; refine hK _ ?_; clear hK K
          refine wpMix_pure (by kernel_rfl) (fun K hK => ?_); go_big_quiet_op; refine hK _ ?_; clear hK K
          refine wpMix_pure (by kernel_rfl) (fun K hK => ?_); go_big_quiet_op; refine hK _ ?_; clear hK K
          refine wpMix_pure (by kernel_rfl) (fun K hK => ?_); go_big_quiet_op; refine hK _ ?_; clear hK K
          refine wpMix_pure (by kernel_rfl) (fun K hK => ?_); go_big_quiet_op; refine hK _ ?_; clear hK K
          refine wpMix_pure (by kernel_rfl) (fun K hK => ?_); go_big_quiet_op; refine hK _ ?_; clear hK K
          refine wpMix_pure (by kernel_rfl) (fun K hK => ?_); go_big_quiet_op; refine hK _ ?_; clear hK K
          refine wpMix_pure (by kernel_rfl) (fun K hK => ?_); go_big_quiet_op; refine hK _ ?_; clear hK K
          refine wpMix_pure (by kernel_rfl) (fun K hK => ?_); go_big_quiet_op; refine hK _ ?_; clear hK K
          refine wpMix_pure (by kernel_rfl) (fun K hK => ?_); go_big_quiet_op; refine hK _ ?_; clear hK K
          refine wpMix_pure (by kernel_rfl) (fun K hK => ?_); go_big_quiet_op; refine hK _ ?_; clear hK K
          refine wpMix_nil ?_
          have hS9 := hS0
          have hb8 := hb7.trans (hS9.mono hb7.size)
          clear gc0 gc1 gc2 gd0 gd1 gd2 hS0 c0 c1 c2 d0 d1 d2
          generalize W7.drew = W8 at *
          have hB8 := hB2.trans (hb8.mono hB2.size)
          have hx8 := hx2.below' hb8
          have hp8 := hp2.below' hb8
          have HE := Lib.hid (addVerified_bad (show addVerifiedC xs x = 4 by unfold addVerifiedC; rw [hv, ho, hh]; rfl) (by decide))
          clear hh ho hv
          go_wp2
          go_ret2
          exact ⟨_, by rw [HE.out.1]; rfl, by rw [HE.out.2]; exact Own.nil _ _ _ _, hB8⟩
        · have hh : hasVerified xs x = false := by
            unfold hasVerified
            rw [HAT.out, List.getElem?_eq_getElem hlt]
            show (cmI _ _ == 0) = false
            rw [beq_eq_false_iff_ne]; exact fun h => hqe (cmI_zero.1 h)
          have eq1 : (xs[k].day == x.day) = false := by rw [beq_eq_false_iff_ne]; exact hqe
          clear hqe HA
          go_wp2
          have gc0 := cell_regrown c0
          have gc1 := cell_regrown c1
          have gc2 := cell_regrown c2
          have gd0 := cell_regrown d0
          have gd1 := cell_regrown d1
          have gd2 := cell_regrown d2
          refine wp_region_mix (C := fun w' => ∃ p : Regrown, w' = Go.Sort.grow (redrawn wr p.d) p.os) [true, true, true, true, true, true, true, true, true, true, true, true, true, true] (by kernel_rfl) (by kernel_rfl) (by kernel_rfl) (fun _ _ d _ _ h => by cases d <;> exact h) (regrown_of_below (Below.drew (Below.refl _ _))) ?_
          have hS0 : Below (wr.heap.size) wr wr.drew := Below.drew (Below.refl _ _)
          refine wpMix_pure (by kernel_rfl) (fun K hK => ?_); go_big_quiet_op; refine hK _ ?_; clear hK K
          refine wpMix_pure (by kernel_rfl) (fun K hK => ?_); go_big_quiet_op; refine hK _ ?_; clear hK K
          refine wpMix_pure (by kernel_rfl) (fun K hK => ?_); go_big_quiet_op; refine hK _ ?_; clear hK K
          refine wpMix_pure (by kernel_rfl) (fun K hK => ?_); go_big_quiet_op; refine hK _ ?_; clear hK K
          refine wpMix_pure (by kernel_rfl) (fun K hK => ?_); go_big_quiet_op; refine hK _ ?_; clear hK K
          refine wpMix_pure (by kernel_rfl) (fun K hK => ?_); go_big_quiet_op; refine hK _ ?_; clear hK K
          refine wpMix_pure (by kernel_rfl) (fun K hK => ?_); go_big_quiet_op; refine hK _ ?_; clear hK K
          refine wpMix_pure (by kernel_rfl) (fun K hK => ?_); go_big_quiet_op; refine hK _ ?_; clear hK K
          refine wpMix_pure (by kernel_rfl) (fun K hK => ?_); go_big_quiet_op; refine hK _ ?_; clear hK K
          refine wpMix_pure (by kernel_rfl) (fun K hK => ?_); go_big_quiet_op; refine hK _ ?_; clear hK K
          refine wpMix_pure (by kernel_rfl) (fun K hK => ?_); go_big_quiet_op; refine hK _ ?_; clear hK K
          refine wpMix_pure (by kernel_rfl) (fun K hK => ?_); go_big_quiet_op; refine hK _ ?_; clear hK K
          refine wpMix_pure (by kernel_rfl) (fun K hK => ?_); go_big_quiet_op; refine hK _ ?_; clear hK K
          refine wpMix_pure (by kernel_rfl) (fun K hK => ?_); go_big_quiet_op; refine hK _ ?_; clear hK K
          refine wpMix_nil ?_
          have hS7 := hS0
          have hb7 := hb.trans (hS7.mono hb.size)
          clear gc0 gc1 gc2 gd0 gd1 gd2 hS0 c0 c1 c2 d0 d1 d2
          have hpm7 := hpm.below' hS7
          generalize wr.drew = W7 at *
          obtain ⟨d0, d1, d2⟩ := id (hp2.below' hb7)
          obtain ⟨c0, c1, c2⟩ := id hpm7
          clear hpm7 hpm
          clear hS7 hb
          go_wp2
          have gc0 := cell_regrown c0
          have gc1 := cell_regrown c1
          have gc2 := cell_regrown c2
          have gd0 := cell_regrown d0
          have gd1 := cell_regrown d1
          have gd2 := cell_regrown d2
          refine wp_region_mix (C := fun w' => ∃ p : Regrown, w' = Go.Sort.grow (redrawn W7 p.d) p.os) [true, true, true, true, true, true, true, true, true, true, true, true, true, true] (by kernel_rfl) (by kernel_rfl) (by kernel_rfl) (fun _ _ d _ _ h => by cases d <;> exact h) (regrown_of_below (Below.drew (Below.refl _ _))) ?_
          have hS0 : Below (W7.heap.size) W7 W7.drew := Below.drew (Below.refl _ _)
          refine wpMix_pure (by kernel_rfl) (fun K hK => ?_); go_big_quiet_op; refine hK _ ?_; clear hK K
          refine wpMix_pure (by kernel_rfl) (fun K hK => ?_); go_big_quiet_op; refine hK _ ?_; clear hK K
          refine wpMix_pure (by kernel_rfl) (fun K hK => ?_); go_big_quiet_op; refine hK _ ?_; clear hK K
          refine wpMix_pure (by kernel_rfl) (fun K hK => ?_); go_big_quiet_op; refine hK _ ?_; clear hK K
          refine wpMix_pure (by kernel_rfl) (fun K hK => ?_); go_big_quiet_op; refine hK _ ?_; clear hK K
          refine wpMix_pure (by kernel_rfl) (fun K hK => ?_); go_big_quiet_op; refine hK _ ?_; clear hK K
          refine wpMix_pure (by kernel_rfl) (fun K hK => ?_); go_big_quiet_op; refine hK _ ?_; clear hK K
          refine wpMix_pure (by kernel_rfl) (fun K hK => ?_); go_big_quiet_op; refine hK _ ?_; clear hK K
          refine wpMix_pure (by kernel_rfl) (fun K hK => ?_); go_big_quiet_op; refine hK _ ?_; clear hK K
          refine wpMix_pure (by kernel_rfl) (fun K hK => ?_); go_big_quiet_op; refine hK _ ?_; clear hK K
          refine wpMix_pure (by kernel_rfl) (fun K hK => ?_); go_big_quiet_op; refine hK _ ?_; clear hK K
          refine wpMix_pure (by kernel_rfl) (fun K hK => ?_); go_big_quiet_op; refine hK _ ?_; clear hK K
          refine wpMix_pure (by kernel_rfl) (fun K hK => ?_); go_big_quiet_op; refine hK _ ?_; clear hK K
          refine wpMix_pure (by kernel_rfl) (fun K hK => ?_); go_big_quiet_op; refine hK _ ?_; clear hK K
          refine wpMix_nil ?_
          have hS9 := hS0
          have hb8 := hb7.trans (hS9.mono hb7.size)
          clear gc0 gc1 gc2 gd0 gd1 gd2 hS0 c0 c1 c2 d0 d1 d2
          generalize W7.drew = W8 at *
          have hB8 := hB2.trans (hb8.mono hB2.size)
          have hx8 := hx2.below' hb8
          have hp8 := hp2.below' hb8
          by_cases hM : xs.length = 64
          · have HE := Lib.hid (addVerified_bad (show addVerifiedC xs x = 5 by unfold addVerifiedC; rw [hv, ho, hh, if_pos hM]; rfl) (by decide))
            have eM : ((xs.length : Int) == 64) = true := by rw [hM]; rfl
            clear hM hh ho hv
            go_wp2
            go_ret2
            exact ⟨_, by rw [HE.out.1]; rfl, by rw [HE.out.2]; exact Own.nil _ _ _ _, hB8⟩
          have hC0 : addVerifiedC xs x = 0 := by unfold addVerifiedC; rw [hv, ho, hh, if_neg hM]; rfl
          have HC := Lib.hid hC0
          have HF : Hid (addVerifiedF xs x = xs.take k ++ x :: xs.drop k) := by show _ = _; unfold addVerifiedF; rw [if_pos hC0, HAT.out]
          have eM : ((xs.length : Int) == 64) = false := by rw [beq_eq_false_iff_ne]; omega
          clear hC0 hM hh ho hv HAT
          have hB10 : Below W8.heap.size W8 (W8.alloc (.cells #[] 34)) := (Below.refl _ _).alloc (Nat.le_refl _) _
          have hx9 := hx8.below' hB10
          have hp9 := hp8.below' hB10
          have hB11 := hB8.trans (hB10.mono hB8.size)
          have hsz8 : w.heap.size + 1 ≤ W8.heap.size := hp8.lt
          have hs11 : w.heap.size + 1 ≤ (W8.alloc (.cells #[] 34)).heap.size := by simp; omega
          have ho5 := Own.lit0m fVerified (w := W8) (base := w.heap.size + 1) hsz8 (e := 34)
          have hsrc := hx9.src_take (k := k) (c := cap) (by omega)
          go_wp2_with (at_builtin; refine wpList_append_src (E := fVerified) rfl _ _ 24 rfl (w.heap.size + 1) 34 i0 (.agg #[.int .i64 0, .int .i64 0, .int .i64 0]) 24 Tryz.underlying24 hi hz0 hz1 hz2 rfl (.slice (some ⟨W8.heap.size, 0, none⟩) 0 0) [] rfl ho5 _ (xs.take k) rfl hsrc (by simp <;> omega) (by decide) hs11 ?_)
          intro v' u hown hbu
          try rw [List.nil_append] at hown
          have hB12 := hB11.trans (hbu.mono (Nat.le_succ _))
          have hx10 := hx9.below hbu (fun b hb => by have := hfp b hb; omega)
          have hp10 := hp9.below hbu (Nat.lt_succ_self _)
          have hlk : (xs.take k).length = k := by rw [List.length_take]; omega
          have hown1 : u.ownsRow (w.heap.size + 1) 34 3 v' k ((xs.take k).flatMap fVerified.enc) := by
            have h : u.ownsRow (w.heap.size + 1) 34 3 v' (xs.take k).length ((xs.take k).flatMap fVerified.enc) := hown
            rw [hlk] at h; exact h
          have hs12 : w.heap.size + 1 ≤ u.heap.size := hp10.lt
          obtain ⟨d0, d1, d2⟩ := id hp10
          clear hown hx9 hp9 hx8 hp8 hsrc hbu
          go_wp2_with (at_builtin; refine wpList_append_one rfl _ _ 24 rfl (w.heap.size + 1) 34 i0 (.agg #[.int .i64 0, .int .i64 0, .int .i64 0]) 3 24 Tryz.underlying24 hi hz0 hz1 hz2 rfl (by decide) v' k _ rfl hown1 [.int .i64 x.day, .int .i64 x.told, .int .i64 x.seen] rfl (by intro u hu; simp only [List.mem_cons, List.not_mem_nil, or_false] at hu; rcases hu with rfl | rfl | rfl <;> rfl) rfl (by omega) (by decide) hs12 ?_)
          intro v2 u2 hown2 hbu2 _ _
          have hB13 := hB12.trans (hbu2.mono (Nat.le_succ _))
          have hx11 := hx10.below hbu2 (fun b hb => by have := hfp b hb; omega)
          have hp11 := hp10.below hbu2 (Nat.lt_succ_self _)
          have ho6 : Own fVerified u2 (w.heap.size + 1) 34 v2 (xs.take k ++ [x]) := Own.push x (by rw [hlk]) hown2
          have hs13 : w.heap.size + 1 ≤ u2.heap.size := hp11.lt
          clear hown2 hown1 hx10 hp10 hbu2 d0 d1 d2
          have hcl : k < cap := by omega
          have hsrc2 := hx11.src_drop (k := k) (c := cap - k) (by omega)
          go_wp2_with (at_builtin; refine wpList_append_src (E := fVerified) rfl _ _ 24 rfl (w.heap.size + 1) 34 i0 (.agg #[.int .i64 0, .int .i64 0, .int .i64 0]) 24 Tryz.underlying24 hi hz0 hz1 hz2 rfl v2 (xs.take k ++ [x]) rfl ho6 _ (xs.drop k) rfl hsrc2 (by simp <;> omega) (by decide) hs13 ?_)
          intro v3 u3 hown3 hbu3
          have hB14 := hB13.trans (hbu3.mono (Nat.le_succ _))
          have hEQ : xs.take k ++ [x] ++ xs.drop k = xs.take k ++ x :: xs.drop k := by simp
          have ho7 : Own fVerified u3 w.heap.size 34 v3 (addVerifiedF xs x) := by rw [HF.out]; first | exact ownM_ hown3 (Nat.le_succ _) | (rw [← hEQ]; exact ownM_ hown3 (Nat.le_succ _)) | (have h9 := hown3; simp only [List.append_nil, List.take_length, List.drop_length] at h9 ⊢; exact ownM_ h9 (Nat.le_succ _))
          clear hown3 ho6
          go_wp2
          go_ret2
          exact ⟨_, by rw [HC.out]; rfl, ho7, hB14⟩
    · have hkl : k = xs.length := by omega
      have HAT : Hid (atVerified xs x = k) := posF_is _ xs k hk (fun m h hm => decide_eq_true (cmI_lt.2 (HA.out m h hm))) (fun h => absurd h hlt)
      have hh : hasVerified xs x = false := by
        unfold hasVerified
        rw [HAT.out, List.getElem?_eq_none (by omega)]
      clear HA hkl
      go_wp2
      have gd0 := cell_regrown d0
      have gd1 := cell_regrown d1
      have gd2 := cell_regrown d2
      refine wp_region_mix (C := fun w' => ∃ p : Regrown, w' = Go.Sort.grow (redrawn wr p.d) p.os) [true, true, true, true, true, true, true, true, true, true, true, true, true, true] (by kernel_rfl) (by kernel_rfl) (by kernel_rfl) (fun _ _ d _ _ h => by cases d <;> exact h) (regrown_of_below (Below.drew (Below.refl _ _))) ?_
      have hS0 : Below (wr.heap.size) wr wr.drew := Below.drew (Below.refl _ _)
      refine wpMix_pure (by kernel_rfl) (fun K hK => ?_); go_big_quiet_op; refine hK _ ?_; clear hK K
      refine wpMix_pure (by kernel_rfl) (fun K hK => ?_); go_big_quiet_op; refine hK _ ?_; clear hK K
      refine wpMix_pure (by kernel_rfl) (fun K hK => ?_); go_big_quiet_op; refine hK _ ?_; clear hK K
      refine wpMix_pure (by kernel_rfl) (fun K hK => ?_); go_big_quiet_op; refine hK _ ?_; clear hK K
      refine wpMix_pure (by kernel_rfl) (fun K hK => ?_); go_big_quiet_op; refine hK _ ?_; clear hK K
      refine wpMix_skip (by kernel_rfl) (fun K hK => ?_)
      simp only [Act.put, List.setIfInBounds_toArray, List.set_cons_zero, List.set_cons_succ]
      refine hK _ ?_; clear hK K
      refine wpMix_skip (by kernel_rfl) (fun K hK => ?_)
      simp only [Act.put, List.setIfInBounds_toArray, List.set_cons_zero, List.set_cons_succ]
      refine hK _ ?_; clear hK K
      refine wpMix_skip (by kernel_rfl) (fun K hK => ?_)
      simp only [Act.put, List.setIfInBounds_toArray, List.set_cons_zero, List.set_cons_succ]
      refine hK _ ?_; clear hK K
      refine wpMix_skip (by kernel_rfl) (fun K hK => ?_)
      simp only [Act.put, List.setIfInBounds_toArray, List.set_cons_zero, List.set_cons_succ]
      refine hK _ ?_; clear hK K
      refine wpMix_skip (by kernel_rfl) (fun K hK => ?_)
      simp only [Act.put, List.setIfInBounds_toArray, List.set_cons_zero, List.set_cons_succ]
      refine hK _ ?_; clear hK K
      refine wpMix_skip (by kernel_rfl) (fun K hK => ?_)
      simp only [Act.put, List.setIfInBounds_toArray, List.set_cons_zero, List.set_cons_succ]
      refine hK _ ?_; clear hK K
      refine wpMix_skip (by kernel_rfl) (fun K hK => ?_)
      simp only [Act.put, List.setIfInBounds_toArray, List.set_cons_zero, List.set_cons_succ]
      refine hK _ ?_; clear hK K
      refine wpMix_skip (by kernel_rfl) (fun K hK => ?_)
      simp only [Act.put, List.setIfInBounds_toArray, List.set_cons_zero, List.set_cons_succ]
      refine hK _ ?_; clear hK K
      refine wpMix_pure (by kernel_rfl) (fun K hK => ?_); go_big_quiet_op; refine hK _ ?_; clear hK K
      refine wpMix_nil ?_
      have hS7 := hS0
      have hb7 := hb.trans (hS7.mono hb.size)
      clear gd0 gd1 gd2 hS0 d0 d1 d2
      generalize wr.drew = W7 at *
      obtain ⟨d0, d1, d2⟩ := id (hp2.below' hb7)
      clear hS7 hb
      go_wp2
      have gd0 := cell_regrown d0
      have gd1 := cell_regrown d1
      have gd2 := cell_regrown d2
      refine wp_region_mix (C := fun w' => ∃ p : Regrown, w' = Go.Sort.grow (redrawn W7 p.d) p.os) [true, true, true, true, true, true, true, true, true, true, true, true, true, true] (by kernel_rfl) (by kernel_rfl) (by kernel_rfl) (fun _ _ d _ _ h => by cases d <;> exact h) (regrown_of_below (Below.drew (Below.refl _ _))) ?_
      have hS0 : Below (W7.heap.size) W7 W7.drew := Below.drew (Below.refl _ _)
      refine wpMix_pure (by kernel_rfl) (fun K hK => ?_); go_big_quiet_op; refine hK _ ?_; clear hK K
      refine wpMix_pure (by kernel_rfl) (fun K hK => ?_); go_big_quiet_op; refine hK _ ?_; clear hK K
      refine wpMix_pure (by kernel_rfl) (fun K hK => ?_); go_big_quiet_op; refine hK _ ?_; clear hK K
      refine wpMix_pure (by kernel_rfl) (fun K hK => ?_); go_big_quiet_op; refine hK _ ?_; clear hK K
      refine wpMix_pure (by kernel_rfl) (fun K hK => ?_); go_big_quiet_op; refine hK _ ?_; clear hK K
      refine wpMix_skip (by kernel_rfl) (fun K hK => ?_)
      simp only [Act.put, List.setIfInBounds_toArray, List.set_cons_zero, List.set_cons_succ]
      refine hK _ ?_; clear hK K
      refine wpMix_skip (by kernel_rfl) (fun K hK => ?_)
      simp only [Act.put, List.setIfInBounds_toArray, List.set_cons_zero, List.set_cons_succ]
      refine hK _ ?_; clear hK K
      refine wpMix_skip (by kernel_rfl) (fun K hK => ?_)
      simp only [Act.put, List.setIfInBounds_toArray, List.set_cons_zero, List.set_cons_succ]
      refine hK _ ?_; clear hK K
      refine wpMix_skip (by kernel_rfl) (fun K hK => ?_)
      simp only [Act.put, List.setIfInBounds_toArray, List.set_cons_zero, List.set_cons_succ]
      refine hK _ ?_; clear hK K
      refine wpMix_skip (by kernel_rfl) (fun K hK => ?_)
      simp only [Act.put, List.setIfInBounds_toArray, List.set_cons_zero, List.set_cons_succ]
      refine hK _ ?_; clear hK K
      refine wpMix_skip (by kernel_rfl) (fun K hK => ?_)
      simp only [Act.put, List.setIfInBounds_toArray, List.set_cons_zero, List.set_cons_succ]
      refine hK _ ?_; clear hK K
      refine wpMix_skip (by kernel_rfl) (fun K hK => ?_)
      simp only [Act.put, List.setIfInBounds_toArray, List.set_cons_zero, List.set_cons_succ]
      refine hK _ ?_; clear hK K
      refine wpMix_skip (by kernel_rfl) (fun K hK => ?_)
      simp only [Act.put, List.setIfInBounds_toArray, List.set_cons_zero, List.set_cons_succ]
      refine hK _ ?_; clear hK K
      refine wpMix_pure (by kernel_rfl) (fun K hK => ?_); go_big_quiet_op; refine hK _ ?_; clear hK K
      refine wpMix_nil ?_
      have hS9 := hS0
      have hb8 := hb7.trans (hS9.mono hb7.size)
      clear gd0 gd1 gd2 hS0 d0 d1 d2
      generalize W7.drew = W8 at *
      have hB8 := hB2.trans (hb8.mono hB2.size)
      have hx8 := hx2.below' hb8
      have hp8 := hp2.below' hb8
      by_cases hM : xs.length = 64
      · have HE := Lib.hid (addVerified_bad (show addVerifiedC xs x = 5 by unfold addVerifiedC; rw [hv, ho, hh, if_pos hM]; rfl) (by decide))
        have eM : ((xs.length : Int) == 64) = true := by rw [hM]; rfl
        clear hM hh ho hv
        go_wp2
        go_ret2
        exact ⟨_, by rw [HE.out.1]; rfl, by rw [HE.out.2]; exact Own.nil _ _ _ _, hB8⟩
      have hC0 : addVerifiedC xs x = 0 := by unfold addVerifiedC; rw [hv, ho, hh, if_neg hM]; rfl
      have HC := Lib.hid hC0
      have HF : Hid (addVerifiedF xs x = xs.take k ++ x :: xs.drop k) := by show _ = _; unfold addVerifiedF; rw [if_pos hC0, HAT.out]
      have eM : ((xs.length : Int) == 64) = false := by rw [beq_eq_false_iff_ne]; omega
      clear hC0 hM hh ho hv HAT
      have hB10 : Below W8.heap.size W8 (W8.alloc (.cells #[] 34)) := (Below.refl _ _).alloc (Nat.le_refl _) _
      have hx9 := hx8.below' hB10
      have hp9 := hp8.below' hB10
      have hB11 := hB8.trans (hB10.mono hB8.size)
      have hsz8 : w.heap.size + 1 ≤ W8.heap.size := hp8.lt
      have hs11 : w.heap.size + 1 ≤ (W8.alloc (.cells #[] 34)).heap.size := by simp; omega
      have ho5 := Own.lit0m fVerified (w := W8) (base := w.heap.size + 1) hsz8 (e := 34)
      have hsrc := hx9.src_take (k := k) (c := cap) (by omega)
      go_wp2_with (at_builtin; refine wpList_append_src (E := fVerified) rfl _ _ 24 rfl (w.heap.size + 1) 34 i0 (.agg #[.int .i64 0, .int .i64 0, .int .i64 0]) 24 Tryz.underlying24 hi hz0 hz1 hz2 rfl (.slice (some ⟨W8.heap.size, 0, none⟩) 0 0) [] rfl ho5 _ (xs.take k) rfl hsrc (by simp <;> omega) (by decide) hs11 ?_)
      intro v' u hown hbu
      try rw [List.nil_append] at hown
      have hB12 := hB11.trans (hbu.mono (Nat.le_succ _))
      have hx10 := hx9.below hbu (fun b hb => by have := hfp b hb; omega)
      have hp10 := hp9.below hbu (Nat.lt_succ_self _)
      have hlk : (xs.take k).length = k := by rw [List.length_take]; omega
      have hown1 : u.ownsRow (w.heap.size + 1) 34 3 v' k ((xs.take k).flatMap fVerified.enc) := by
        have h : u.ownsRow (w.heap.size + 1) 34 3 v' (xs.take k).length ((xs.take k).flatMap fVerified.enc) := hown
        rw [hlk] at h; exact h
      have hs12 : w.heap.size + 1 ≤ u.heap.size := hp10.lt
      obtain ⟨d0, d1, d2⟩ := id hp10
      clear hown hx9 hp9 hx8 hp8 hsrc hbu
      go_wp2_with (at_builtin; refine wpList_append_one rfl _ _ 24 rfl (w.heap.size + 1) 34 i0 (.agg #[.int .i64 0, .int .i64 0, .int .i64 0]) 3 24 Tryz.underlying24 hi hz0 hz1 hz2 rfl (by decide) v' k _ rfl hown1 [.int .i64 x.day, .int .i64 x.told, .int .i64 x.seen] rfl (by intro u hu; simp only [List.mem_cons, List.not_mem_nil, or_false] at hu; rcases hu with rfl | rfl | rfl <;> rfl) rfl (by omega) (by decide) hs12 ?_)
      intro v2 u2 hown2 hbu2 _ _
      have hB13 := hB12.trans (hbu2.mono (Nat.le_succ _))
      have hx11 := hx10.below hbu2 (fun b hb => by have := hfp b hb; omega)
      have hp11 := hp10.below hbu2 (Nat.lt_succ_self _)
      have ho6 : Own fVerified u2 (w.heap.size + 1) 34 v2 (xs.take k ++ [x]) := Own.push x (by rw [hlk]) hown2
      have hs13 : w.heap.size + 1 ≤ u2.heap.size := hp11.lt
      clear hown2 hown1 hx10 hp10 hbu2 d0 d1 d2
      obtain rfl : k = xs.length := by omega
      have hD0 : xs.drop xs.length = [] := List.drop_length
      rcases Nat.eq_or_lt_of_le hlen with hce | hcl
      · subst hce
        have hsrc2 : ∀ A, Src fVerified u2 (.slice A 0 0) ([] : List DVerified) := fun A => Src.empty
        cases A
        all_goals
          go_wp2_with (at_builtin; refine wpList_append_src (E := fVerified) rfl _ _ 24 rfl (w.heap.size + 1) 34 i0 (.agg #[.int .i64 0, .int .i64 0, .int .i64 0]) 24 Tryz.underlying24 hi hz0 hz1 hz2 rfl v2 (xs.take xs.length ++ [x]) rfl ho6 _ [] rfl (hsrc2 _) (by simp <;> omega) (by decide) hs13 ?_)
          intro v3 u3 hown3 hbu3
          have hB14 := hB13.trans (hbu3.mono (Nat.le_succ _))
          have hEQ : xs.take xs.length ++ [x] ++ xs.drop xs.length = xs.take xs.length ++ x :: xs.drop xs.length := by simp
          have ho7 : Own fVerified u3 w.heap.size 34 v3 (addVerifiedF xs x) := by rw [HF.out]; first | exact ownM_ hown3 (Nat.le_succ _) | (rw [← hEQ]; exact ownM_ hown3 (Nat.le_succ _)) | (have h9 := hown3; simp only [List.append_nil, List.take_length, List.drop_length] at h9 ⊢; exact ownM_ h9 (Nat.le_succ _))
          clear hown3 ho6
          go_wp2
          go_ret2
          exact ⟨_, by rw [HC.out]; rfl, ho7, hB14⟩
      · have hsrc2 : ∀ A c, Src fVerified u2 (.slice A 0 c) ([] : List DVerified) := fun A c => Src.empty
        cases A
        all_goals
          go_wp2_with (at_builtin; refine wpList_append_src (E := fVerified) rfl _ _ 24 rfl (w.heap.size + 1) 34 i0 (.agg #[.int .i64 0, .int .i64 0, .int .i64 0]) 24 Tryz.underlying24 hi hz0 hz1 hz2 rfl v2 (xs.take xs.length ++ [x]) rfl ho6 _ [] rfl (hsrc2 _ _) (by simp <;> omega) (by decide) hs13 ?_)
          intro v3 u3 hown3 hbu3
          have hB14 := hB13.trans (hbu3.mono (Nat.le_succ _))
          have hEQ : xs.take xs.length ++ [x] ++ xs.drop xs.length = xs.take xs.length ++ x :: xs.drop xs.length := by simp
          have ho7 : Own fVerified u3 w.heap.size 34 v3 (addVerifiedF xs x) := by rw [HF.out]; first | exact ownM_ hown3 (Nat.le_succ _) | (rw [← hEQ]; exact ownM_ hown3 (Nat.le_succ _)) | (have h9 := hown3; simp only [List.append_nil, List.take_length, List.drop_length] at h9 ⊢; exact ownM_ h9 (Nat.le_succ _))
          clear hown3 ho6
          go_wp2
          go_ret2
          exact ⟨_, by rw [HC.out]; rfl, ho7, hB14⟩

end Go.Proofs.YthabmofkjdiccaaGreatDoor

namespace Go.Proofs.YthabmofkjdiccaaGreatDoor
open Go.RowKit
set_option linter.unusedVariables false

theorem flat_set {α : Type} {E : Flat α} : ∀ (L : List α) (k j : Nat) (y : α) (u : Value) (hk : k < L.length), j < E.n → E.enc y = (E.enc L[k]).set j u → (L.flatMap E.enc).set (k * E.n + j) u = (L.set k y).flatMap E.enc
  | [], k, j, y, u, hk, _, _ => absurd hk (Nat.not_lt_zero _)
  | x :: L, 0, j, y, u, hk, hj, hu => by
    have hl := E.len x
    rw [List.getElem_cons_zero] at hu
    rw [Nat.zero_mul, Nat.zero_add, List.flatMap_cons, List.set_cons_zero, List.flatMap_cons, List.set_append_left _ _ (by omega), hu]
  | x :: L, k + 1, j, y, u, hk, hj, hu => by
    have hl := E.len x
    have ih := flat_set L k j y u (by simpa using hk) hj (by simpa using hu)
    have e : (k + 1) * E.n + j - (E.enc x).length = k * E.n + j := by rw [hl, Nat.succ_mul]; omega
    have h2 : (E.enc x).length ≤ (k + 1) * E.n + j := by rw [hl, Nat.succ_mul]; omega
    rw [List.flatMap_cons, List.set_cons_succ, List.flatMap_cons, List.set_append_right _ _ h2, e, ih]
theorem Own.len_eq {α : Type} {E : Flat α} {w : World} {base : Nat} {e : TypeId} {A : Option Addr} {n cap : Nat} {L : List α} (h : Own E w base e (.slice A n cap) L) (hL : L ≠ []) : n = L.length := by
  rcases h.2 with ⟨hv, h0⟩ | ⟨g', cap', cur, hv, _⟩
  · injection hv with _ h1 _
    first | omega | exact absurd (List.length_eq_zero_iff.1 (by first | exact h0.1 | exact h0 | omega)) hL
  · injection hv
theorem Own.setF {α : Type} {E : Flat α} {w : World} {base : Nat} {e : TypeId} {g n cap : Nat} {L : List α} (h : Own E w base e (.slice (some ⟨g, 0, none⟩) n cap) L) {k : Nat} (hk : k < L.length) (j : Nat) (hj : j < E.n) (y : α) (u : Value) (hu : E.enc y = (E.enc L[k]).set j u) :
    Own E (w.setCell ⟨g, k * E.n + j, none⟩ u) base e (.slice (some ⟨g, 0, none⟩) n cap) (L.set k y) := by
  have hn : n = L.length := by
    rcases h.2 with ⟨hv, _⟩ | ⟨g', cap', cur, hv, _⟩
    · cases hv
    · injection hv
  have h' : w.ownsRow base e E.n (.slice (some ⟨g, 0, none⟩) L.length cap) L.length (L.flatMap E.enc) := by rw [hn] at h; exact h
  have h2 := (h'.stored (k * E.n + j) u).1
  rw [flat_set L k j y u hk hj hu] at h2
  show World.ownsRow _ base e E.n _ (L.set k y).length _
  rw [List.length_set, hn]
  exact h2
theorem Own.cellF {α : Type} {E : Flat α} {w : World} {base : Nat} {e : TypeId} {g n cap : Nat} {L : List α} (h : Own E w base e (.slice (some ⟨g, 0, none⟩) n cap) L) {k : Nat} (hk : k < L.length) {j : Nat} (hj : j < E.n) {u : Value} (hu : (E.enc L[k])[j]? = some u) : w.cell? ⟨g, k * E.n + j, none⟩ = some u := by
  have hn : n = L.length := by
    rcases h.2 with ⟨hv, _⟩ | ⟨g', cap', cur, hv, _⟩
    · cases hv
    · injection hv
  have h' : w.ownsRow base e E.n (.slice (some ⟨g, 0, none⟩) L.length cap) L.length (L.flatMap E.enc) := by rw [hn] at h; exact h
  have hlt : k * E.n + j < L.length * E.n := by
    calc k * E.n + j < k * E.n + E.n := by omega
      _ = (k + 1) * E.n := by rw [Nat.succ_mul]
      _ ≤ L.length * E.n := Nat.mul_le_mul_right _ hk
  rw [h'.cellAt (k * E.n + j) hlt]
  have := flat_get E.enc E.n L (fun x _ => E.len x) k hk j hj
  rw [this]; exact hu
theorem Own.frozenF {α : Type} {E : Flat α} {w : World} {base : Nat} {e : TypeId} {g n cap : Nat} {L : List α} (h : Own E w base e (.slice (some ⟨g, 0, none⟩) n cap) L) (k : Nat) : w.frozen? ⟨g, k, none⟩ = false := by
  have hn : n = L.length := by
    rcases h.2 with ⟨hv, _⟩ | ⟨g', cap', cur, hv, _⟩
    · cases hv
    · injection hv
  have h' : w.ownsRow base e E.n (.slice (some ⟨g, 0, none⟩) L.length cap) L.length (L.flatMap E.enc) := by rw [hn] at h; exact h
  exact h'.frozenAt k
end Go.Proofs.YthabmofkjdiccaaGreatDoor

namespace Go.Proofs.YthabmofkjdiccaaGreatDoor
open Go.RowKit
set_option linter.unusedVariables false

theorem addVerified_mem {xs : List DVerified} {x y : DVerified} (h : y ∈ addVerifiedF xs x) : y ∈ xs ∨ y = x := by
  unfold addVerifiedF at h
  split at h
  · rcases List.mem_append.1 h with h | h
    · exact .inl (List.mem_of_mem_take h)
    · rcases List.mem_cons.1 h with h | h
      · exact .inr h
      · exact .inl (List.mem_of_mem_drop h)
  · cases h
theorem addVerified_length {xs : List DVerified} {x : DVerified} : (addVerifiedF xs x).length ≤ xs.length + 1 := by
  unfold addVerifiedF
  split
  · simp; omega
  · simp
theorem manyVerified (k : Nat) (h : k ≤ 100) : SmVerified ⟨k, 1 + (k : Int) % 5, 1 + (k : Int) % 3⟩ := by
  unfold SmVerified; simp only; omega
set_option maxRecDepth 100000 in
set_option maxHeartbeats 8000000 in
theorem l20DrawO_any (n g : Nat) (w : World) (hs : SrcD n g w) (hn : n ≤ 999999970000) :
    Calls Tryz.prog 32 #[.pointer (some ⟨g, 0, none⟩)] w fun e w' => ∃ (v : Value) (xs : List DVerified), e = .returned v ∧ Own fVerified w' w.heap.size 34 v xs ∧ (∀ x ∈ xs, SmVerified x) ∧ xs.length ≤ 70 ∧ SrcD (n + 2000) g w' ∧ Only [g] w w' := by
  have hg := hs.lt
  obtain ⟨i0, hi, hz0, hz1, hz2⟩ := info_parts infoVerifiedK
  have hB0 : Below w.heap.size w (w.alloc (.cells #[] 34)) := (Below.refl _ _).alloc (Nat.le_refl _) _
  go_enter Tryz.func32, Tryz.ntmps32
  go_wp2_with fail
  refine (pick_any _ g 12 _ (hs.below hB0) (by omega) (by omega)).mono ?_
  rintro e w2 ⟨q, rfl, ⟨q0, q1, _⟩, hs2, ho2⟩
  replace q1 := q1 (by omega)
  obtain ⟨j0, rfl⟩ : ∃ j : Nat, q = j := ⟨q.toNat, by omega⟩
  have hown : Own fVerified w2 w.heap.size 34 (.slice (some ⟨w.heap.size, 0, none⟩) 0 0) [] := (Own.lit0 fVerified w _).only ho2 (fun b hb => by simp at hb; subst hb; exact hg)
  have hO1 : Only [g] w w2 := Only.later hB0 ho2
  clear hB0 ho2 hs
  go_wp2
  go_loopw [3, 4] (fun v kv wr => ∃ (j : Nat) (L : List DVerified), kv = .int .i64 j ∧ j + L.length ≤ 11 ∧ j ≤ 11 ∧ Own fVerified wr w.heap.size 34 v L ∧ (∀ x ∈ L, SmVerified x) ∧ SrcD (n + 4 + 30 * (11 - j)) g wr ∧ Only [g] w wr) (fun _ kv _ => (intOf kv).toNat)
  case atStart => exact ⟨j0, [], rfl, by rw [List.length_nil]; omega, by omega, hown, by simp, hs2.mono (by omega), hO1⟩
  case round =>
    clear hown hs2 hO1 q0 q1
    obtain ⟨j, L, rfl, hj, hj2, ho, hsm, hsr, hor⟩ := hrel
    cases j with
    | zero =>
      go_wp2_with fail
      refine (pick_any _ g 20 _ hsr (by omega) (by omega)).mono ?_
      rintro e w3 ⟨q, rfl, ⟨q0, q1, _⟩, hs3, ho3⟩
      replace q1 := q1 (by omega)
      replace hor := hor.trans ho3
      replace ho := ho.only ho3 (fun b hb => by simp at hb; subst hb; exact hg)
      clear ho3 hsr
      by_cases hq0 : q = 0
      · subst hq0
        go_wp2_with fail
        refine (l20DrawOne_any _ g _ hs3 (by omega)).mono ?_
        rintro e w4 ⟨x0, rfl, hx0, hs4, ho4⟩
        go_wp2_with fail
        refine (l20Bend_any _ g x0 _ hs4 (by omega) hx0).mono ?_
        rintro e w5 ⟨x, rfl, hx, hs5, ho5⟩
        have hor2 := hor.trans (ho4.trans ho5)
        have hsz2 := hor2.size
        have hoW : w5.ownsRow w.heap.size 34 3 u3 L.length (L.flatMap fVerified.enc) := (ho.only ho4 (fun b hb => by simp at hb; subst hb; exact hg)).only ho5 (fun b hb => by simp at hb; subst hb; exact hg)
        clear ho hor ho4 ho5 hs4
        unfold agVerified
        go_wp2_with (at_builtin; refine wpList_append_one rfl _ _ 24 rfl w.heap.size 34 i0 (.agg #[.int .i64 0, .int .i64 0, .int .i64 0]) 3 24 Tryz.underlying24 hi hz0 hz1 hz2 rfl (by decide) u3 L.length _ rfl hoW [.int .i64 x.day, .int .i64 x.told, .int .i64 x.seen] rfl (by intro u hu; simp only [List.mem_cons, List.not_mem_nil, or_false] at hu; rcases hu with rfl | rfl | rfl <;> rfl) rfl (by omega) (by decide) hsz2 ?_)
        intro v' u hown hbu _ _
        have hoD : Own fVerified u w.heap.size 34 v' (L ++ [x]) := Own.push _ (by omega) hown
        clear hown
        go_wp2
        go_ret
        obtain ⟨fp, hsl, hlo, hnd⟩ := Sl.of_own (n := (L ++ [x]).length) rfl hoD (fun y hy => by
          rcases List.mem_append.1 hy with hy | hy
          · exact (hsm y hy).ok
          · rw [List.mem_singleton] at hy; subst hy; exact hx.ok)
        exact ⟨_, _, rfl, hoD, fun y hy => by
          rcases List.mem_append.1 hy with hy | hy
          · exact hsm y hy
          · rw [List.mem_singleton] at hy; subst hy; exact hx, by rw [List.length_append, List.length_singleton]; omega, (hs5.belowB hbu hg).mono (by omega), hor2.then hbu⟩
      · have e0 : (q == 0) = false := by rw [beq_eq_false_iff_ne]; exact hq0
        by_cases hq1 : q = 1
        · subst hq1
          have hBL : Below w3.heap.size w3 (w3.alloc (.cells #[.int .i64 64, .int .i64 65] 2)) := (Below.refl _ _).alloc (Nat.le_refl _) _
          have hgl := hs3.lt
          go_wp2_with fail
          refine (among_any _ g _ [64, 65] [w3.heap.size] _ (hs3.below hBL) (by omega) (slLitI w3 2 [64, 65] _ rfl (by decide) (by decide) (by decide) _ _ rfl rfl) (by simp; omega) (by decide) (by decide)).mono ?_
          rintro e w4 ⟨t, ht, rfl, hs4, ho4⟩
          have hor2 := hor.trans (Only.later hBL ho4)
          have hsz2 := hor2.size
          clear hBL hgl hor ho hs3 ho4
          obtain ⟨M, rfl⟩ : ∃ M : Nat, t = M := ⟨t.toNat, by simp at ht; omega⟩
          have hM : M ≤ 65 := by simp at ht; omega
          have hown : Own fVerified (w4.alloc (.cells #[] 34)) w.heap.size 34 (.slice (some ⟨w4.heap.size, 0, none⟩) 0 0) [] := Own.lit0m fVerified hsz2
          have hB4 : Below w4.heap.size w4 (w4.alloc (.cells #[] 34)) := (Below.refl _ _).alloc (Nat.le_refl _) _
          replace hor2 := hor2.then (hB4.mono hsz2)
          replace hs4 := hs4.below hB4
          clear hB4 ht hsm hsz2
          go_wp2
          rename World => wo
          go_loopw [3, 8] (fun v kv wr => ∃ (k : Nat) (X : List DVerified), kv = .int .i64 k ∧ k ≤ M ∧ X.length = k ∧ Own fVerified wr w.heap.size 34 v X ∧ (∀ x ∈ X, SmVerified x) ∧ SrcD (n + 600) g wr ∧ Only [g] w wr) (fun _ kv _ => M - (intOf kv).toNat)
          case atStart => exact ⟨0, [], rfl, Nat.zero_le _, rfl, hown, by simp, hs4.mono (by omega), hor2⟩
          case round =>
            clear hown hs4 hor2
            obtain ⟨k, X, rfl, hk, hX, ho, hsm, hsr, hor⟩ := hrel
            by_cases hlt : k < M
            · have hsz2 := hor.size
              have hsmk := Lib.hid (manyVerified k (by omega))
              have hk100 : k ≤ 100 := by omega
              have hoW : wr.ownsRow w.heap.size 34 3 u3 X.length (X.flatMap fVerified.enc) := ho
              clear ho
              go_wp2_with (at_builtin; refine wpList_append_one rfl _ _ 24 rfl w.heap.size 34 i0 (.agg #[.int .i64 0, .int .i64 0, .int .i64 0]) 3 24 Tryz.underlying24 hi hz0 hz1 hz2 rfl (by decide) u3 X.length _ rfl hoW [.int .i64 k, .int .i64 (1 + (k : Int) % 5), .int .i64 (1 + (k : Int) % 3)] rfl (by intro u hu; simp only [List.mem_cons, List.not_mem_nil, or_false] at hu; rcases hu with rfl | rfl | rfl <;> rfl) rfl (by omega) (by decide) hsz2 ?_)
              intro v' u hown hbu _ _
              have hoD : Own fVerified u w.heap.size 34 v' (X ++ [⟨k, 1 + (k : Int) % 5, 1 + (k : Int) % 3⟩]) := Own.push _ (by omega) hown
              clear hown
              have hs5 := hsr.belowB hbu hg
              have hor5 := hor.then hbu
              go_wp2
              go_roundw
              case rel => exact ⟨k + 1, _, by go_num, by omega, by rw [List.length_append, hX, List.length_singleton], hoD, fun y hy => by
                rcases List.mem_append.1 hy with hy | hy
                · exact hsm y hy
                · rw [List.mem_singleton] at hy; subst hy; exact hsmk.out, hs5, hor5⟩
              case measure => simp [intOf]; omega
            · obtain ⟨fp, hsl, hlo, hnd⟩ := Sl.of_own (n := X.length) rfl ho (fun y hy => (hsm y hy).ok)
              go_wp2
              go_ret
              exact ⟨_, _, rfl, ho, hsm, by omega, hsr.mono (by omega), hor⟩
        · have e1 : (q == 1) = false := by rw [beq_eq_false_iff_ne]; exact hq1
          by_cases hq2 : q = 2
          · subst hq2
            obtain ⟨fp0, hsl0, _, _⟩ := Sl.of_own (n := L.length) rfl ho (fun y hy => (hsm y hy).ok)
            obtain ⟨A3, c3, rfl, _, _⟩ := hsl0.form
            clear hsl0 e0 e1 hq0 hq1
            go_wp2
            go_loopw [9] (fun i wr => ∃ (k : Nat) (X : List DVerified), i = .int .i64 k ∧ k ≤ L.length ∧ X.length = L.length ∧ Own fVerified wr w.heap.size 34 (.slice A3 L.length c3) X ∧ (∀ x ∈ X, SmVerified x) ∧ SrcD (n + 600) g wr ∧ Only [g] w wr) (fun i _ => L.length - (intOf i).toNat)
            case atStart => exact ⟨0, L, rfl, Nat.zero_le _, rfl, ho, hsm, hs3.mono (by omega), hor⟩
            case round =>
              clear ho hsm hs3 hor
              obtain ⟨k, X, rfl, hk, hX, ho, hsm, hsr, hor⟩ := hrel
              by_cases hlt : k < L.length
              · have hX2 : k < X.length := by omega
                obtain ⟨g', rfl, hg'⟩ : ∃ g', A3 = some ⟨g', 0, none⟩ ∧ w.heap.size ≤ g' := by
                  have ho2 := ho.2
                  rcases ho2 with ⟨hv, h0⟩ | ⟨g1, cap1, cur, hv, hg1, _⟩
                  · injection hv with _ h1 _
                    omega
                  · injection hv with h1 _ _
                    exact ⟨g1, h1, by first | exact hg1 | exact hg1.1 | omega⟩
                have c1 : wr.cell? ⟨g', k * 3 + 1, none⟩ = some (.int .i64 X[k].told) := ho.cellF (j := 1) hX2 (by decide) rfl
                have c2 : wr.cell? ⟨g', k * 3 + 2, none⟩ = some (.int .i64 X[k].seen) := ho.cellF (j := 2) hX2 (by decide) rfl
                have f1 : wr.frozen? ⟨g', k * 3 + 1, none⟩ = false := ho.frozenF _
                have f2 : wr.frozen? ⟨g', k * 3 + 2, none⟩ = false := ho.frozenF _
                have HO1 : Own fVerified (wr.setCell ⟨g', k * 3 + 1, none⟩ (.int .i64 2)) w.heap.size 34 (.slice (some ⟨g', 0, none⟩) L.length c3) (X.set k ⟨X[k].day, 2, X[k].seen⟩) := ho.setF hX2 1 (by decide) _ _ rfl
                have HO2 : Own fVerified ((wr.setCell ⟨g', k * 3 + 1, none⟩ (.int .i64 2)).setCell ⟨g', k * 3 + 2, none⟩ (.int .i64 2)) w.heap.size 34 (.slice (some ⟨g', 0, none⟩) L.length c3) (X.set k ⟨X[k].day, 2, 2⟩) := by
                  have h := HO1.setF (k := k) (by rw [List.length_set]; exact hX2) 2 (by decide) ⟨X[k].day, 2, 2⟩ (.int .i64 2) (by rw [List.getElem_set_self]; rfl)
                  rw [List.set_set] at h; exact h
                have hbb : Below w.heap.size wr ((wr.setCell ⟨g', k * 3 + 1, none⟩ (.int .i64 2)).setCell ⟨g', k * 3 + 2, none⟩ (.int .i64 2)) := ((Below.refl _ _).setCell (p := ⟨g', _, none⟩) hg' _).setCell (p := ⟨g', _, none⟩) hg' _
                have hs5 := hsr.belowB hbb hg
                have hor5 := hor.then hbb
                have hsm5 : ∀ y ∈ X.set k ⟨X[k].day, 2, 2⟩, SmVerified y := fun y hy => by
                  rcases List.mem_or_eq_of_mem_set hy with h | rfl
                  · exact hsm y h
                  · have h := hsm X[k] (List.getElem_mem _)
                    unfold SmVerified at h ⊢; simp only; omega
                clear HO1 hbb ho hsm
                go_wp2
                go_roundw
                case rel => exact ⟨k + 1, _, by go_num, by omega, by rw [List.length_set]; exact hX, HO2, hsm5, hs5, hor5⟩
                case measure => simp [intOf]; omega
              · obtain ⟨fp, hsl, hlo, hnd⟩ := Sl.of_own (n := X.length) rfl ho (fun y hy => (hsm y hy).ok)
                go_wp2
                go_ret
                exact ⟨_, _, rfl, ho, hsm, by omega, hsr.mono (by omega), hor⟩
          · have e2 : (q == 2) = false := by rw [beq_eq_false_iff_ne]; exact hq2
            obtain ⟨fp, hsl, hlo, hnd⟩ := Sl.of_own (n := L.length) rfl ho (fun y hy => (hsm y hy).ok)
            go_wp2
            go_ret
            exact ⟨_, _, rfl, ho, hsm, by omega, hs3.mono (by omega), hor⟩
    | succ j =>
      go_wp2_with fail
      refine (l20DrawOne_any _ g _ hsr (by omega)).mono ?_
      rintro e w3 ⟨x, rfl, hx, hs3, ho3⟩
      have hor3 := hor.trans ho3
      have ho3' := ho.only ho3 (fun b hb => by simp at hb; subst hb; exact hg)
      have hoks : ∀ y ∈ L, fVerified.ok y := fun y hy => (hsm y hy).ok
      obtain ⟨fp, hsl, hlo, hnd⟩ := Sl.of_own (n := L.length) rfl ho3' hoks
      clear ho hor ho3 hsr hoks
      unfold agVerified
      go_wp2_with fail
      refine (specAddVerified_any _ L fp x _ hsl hx.ok).mono ?_
      rintro e w4 ⟨v4, rfl, hown4, hb4⟩
      have hsz3 := hor3.size
      have hor4 := hor3.then (hb4.mono hsz3)
      have hs4 := hs3.below hb4
      have ho4 := ho3'.below hb4
      replace hown4 : Own fVerified w4 w.heap.size 34 v4 (addVerifiedF L x) := ownM_ hown4 hsz3
      clear hsl hlo hnd ho3' hs3 hor3 hb4
      by_cases hc : addVerifiedC L x = 0
      · have hlen := addVerified_length (xs := L) (x := x)
        have hsm4 : ∀ y ∈ addVerifiedF L x, SmVerified y := fun y hy => by
          rcases addVerified_mem hy with hy | rfl
          · exact hsm y hy
          · exact hx
        rw [hc]
        generalize addVerifiedF L x = L4 at *
        clear hc ho4 hsm
        go_wp2
        go_roundw
        case rel => exact ⟨j, L4, by go_num, by omega, by omega, hown4, hsm4, hs4.mono (by omega), hor4⟩
        case measure => simp [intOf]
      · have e1 : (addVerifiedC L x == 0) = false := by rw [beq_eq_false_iff_ne]; exact hc
        generalize addVerifiedC L x = cc at *
        clear hc hown4
        go_wp2
        go_roundw
        case rel => exact ⟨j, L, by go_num, by omega, by omega, ho4, hsm, hs4.mono (by omega), hor4⟩
        case measure => simp [intOf]
theorem l20Draw_any (n g : Nat) (w : World) (hs : SrcD n g w) (hn : n ≤ 999999970000) :
    Calls Tryz.prog 32 #[.pointer (some ⟨g, 0, none⟩)] w fun e w' => ∃ (v : Value) (xs : List DVerified) (fp : List Nat), e = .returned v ∧ Sl fVerified.cod w' v xs fp ∧ (∀ b ∈ fp, w.heap.size ≤ b) ∧ fp.Nodup ∧ (∀ x ∈ xs, SmVerified x) ∧ xs.length ≤ 70 ∧ SrcD (n + 2000) g w' ∧ Only [g] w w' := by
  refine (l20DrawO_any n g w hs hn).mono ?_
  rintro e w' ⟨v, xs, rfl, ho, hsm, hl, hs1, ho1⟩
  obtain ⟨fp, hsl, hlo, hnd⟩ := Sl.of_own (n := xs.length) rfl ho (fun y hy => (hsm y hy).ok)
  exact ⟨v, xs, fp, rfl, hsl, hlo, hnd, hsm, hl, hs1, ho1⟩

end Go.Proofs.YthabmofkjdiccaaGreatDoor

namespace Go.Proofs.YthabmofkjdiccaaGreatDoor
open Go.RowKit
set_option linter.unusedVariables false

theorem Sl.far_cell {α : Type} {E : Cod α} {w : World} {v : Value} {xs : List α} {fp : List Nat} {g j : Nat} {u : Value} (h : Sl E w v xs fp) (hp : ∀ b ∈ fp, b ≠ g) : Sl E (w.setCell ⟨g, j, none⟩ u) v xs fp :=
  h.only ((Only.refl [g] w).set j u) (fun b hb => by simpa using hp b hb)
set_option maxRecDepth 100000 in
set_option maxHeartbeats 4000000 in
theorem DrawAddVerified_any (v : Value) (xs : List UInt8) (fp : List Nat) (w : World) (hx : Sl fByte.cod w v xs fp) :
    Calls Tryz.prog 12 #[v] w fun e w' => ∃ (y : Value) (ys : List DVerified) (x : DVerified) (fq : List Nat), e = .returned (.tuple #[y, agVerified x]) ∧ Sl fVerified.cod w' y ys fq ∧ (∀ z ∈ ys, SmVerified z) ∧ ys.length ≤ 70 ∧ SmVerified x ∧ Below w.heap.size w w' := by
  have hB0 : Below w.heap.size w (w.alloc (.cells #[.int .i64 0, .int .i64 0, .int .i64 0] 34)) := (Below.refl _ _).alloc (Nat.le_refl _) _
  go_enter Tryz.func12, Tryz.ntmps12
  go_wp2_with fail
  refine (l00From_any v xs fp _ (hx.below' hB0)).mono ?_
  rintro e w1 ⟨rfl, hs, hb1⟩
  have hbx := (BxVerified.new w 34).belowB hb1 (by simp)
  have hB1 := hB0.trans (hb1.mono (by simp))
  have hgw : w.heap.size < (w.alloc (.cells #[.int .i64 0, .int .i64 0, .int .i64 0] 34)).heap.size := by simp
  generalize (w.alloc (.cells #[.int .i64 0, .int .i64 0, .int .i64 0] 34)).heap.size = g at *
  have hof : ∀ b ∈ [g], w.heap.size ≤ b := by simp; omega
  have hg1 := hs.lt
  clear hB0 hb1 hx
  go_wp2_with fail
  refine (l20Draw_any _ g _ hs (by omega)).mono ?_
  rintro e w2 ⟨y, ys, fq, rfl, hsl, hlo, hnd, hsm, hl, hs2, ho2⟩
  have hgq : ∀ b ∈ fq, b ∉ [g] := fun b hb => by have := hlo b hb; simp; omega
  obtain ⟨A, cap, rfl, _, _⟩ := hsl.form
  replace hbx := hbx.keep (ho2.block w.heap.size hbx.lt (by simp; omega))
  go_wp2_with fail
  refine (l20DrawOne_any _ g _ hs2 (by omega)).mono ?_
  rintro e w3 ⟨x0, rfl, hx0, hs3, ho3⟩
  replace hbx := hbx.keep (ho3.block w.heap.size hbx.lt (by simp; omega))
  go_wp2_with fail
  refine (l20Bend_any _ g x0 _ hs3 (by omega) hx0).mono ?_
  rintro e w4 ⟨x, rfl, hx4, hs4, ho4⟩
  replace hbx := hbx.keep (ho4.block w.heap.size hbx.lt (by simp; omega))
  have hsl4 := hsl.only (ho3.trans ho4) hgq
  have hB4 := hB1.trans ((ho2.trans (ho3.trans ho4)).below hB1.size hof)
  have hne : ∀ b ∈ fq, b ≠ w.heap.size := fun b hb => by have := hlo b hb; have := hB1.size; have := hg1; omega
  clear hsl hlo ho2 ho3 ho4 hB1 hs hs2 hs3 hs4
  obtain ⟨d0, d1, d2, z0, z1, z2⟩ := hbx
  have hrr := Nat.le_refl w.heap.size
  unfold agVerified
  go_wp2
  refine bodyPost_ret (v := .tuple #[.slice A ys.length cap, agVerified x]) (by simp [agVerified, results, hit_cellX, d0, d1, d2, Tryz.results12, go_sem]) rfl ⟨_, ys, x, fq, rfl, ?_, hsm, hl, hx4, by (repeat (refine Below.setCell ?_ hrr _)); exact hB4⟩
  repeat (refine Sl.far_cell ?_ hne)
  exact hsl4

end Go.Proofs.YthabmofkjdiccaaGreatDoor

namespace Go.Proofs.YthabmofkjdiccaaGreatDoor
open Go.RowKit
set_option linter.unusedVariables false

def absF (n : Int) : Int := max n (-n)
def drF (a b : Int) : Int := if absF b - absF (Int.tmod a b) ≤ absF (Int.tmod a b) then (if a < 0 ↔ b < 0 then Int.tdiv a b + 1 else Int.tdiv a b - 1) else Int.tdiv a b
theorem absF_le {n m : Int} : absF n ≤ m ↔ -m ≤ n ∧ n ≤ m := by unfold absF; omega
theorem tmod_parts {a b : Int} (hb : 0 < b) : ∃ q r, Int.tdiv a b = q ∧ Int.tmod a b = r ∧ a = q * b + r ∧ -b < r ∧ r < b ∧ (0 ≤ a → 0 ≤ r) ∧ (a < 0 → r ≤ 0) := by
  refine ⟨_, _, rfl, rfl, ?_, ?_, Int.tmod_lt_of_pos _ hb, fun h => Int.tmod_nonneg _ h, fun h => ?_⟩
  · have := Int.mul_tdiv_add_tmod a b
    rw [Int.mul_comm]; omega
  · rcases Int.lt_or_le a 0 with h | h
    · have h1 := Int.tmod_lt_of_pos (-a) hb
      rw [Int.neg_tmod] at h1; omega
    · have := Int.tmod_nonneg b h; omega
  · have h1 := Int.tmod_nonneg b (show (0 : Int) ≤ -a by omega)
    rw [Int.neg_tmod] at h1; omega
/-- The quotient is as near as can be. -/
theorem drF_near {a b : Int} (hb : 0 < b) : -b ≤ 2 * (drF a b * b - a) ∧ 2 * (drF a b * b - a) ≤ b := by
  obtain ⟨q, r, hq, hr, ha, h1, h2, h3, h4⟩ := tmod_parts (a := a) hb
  unfold drF
  rw [hq, hr]
  have e : absF b = b := by unfold absF; omega
  have hb2 : ¬ b < 0 := by omega
  rw [e]
  rcases Int.lt_or_le a 0 with hn | hn
  · have hr2 := h4 hn
    have e2 : absF r = -r := by unfold absF; omega
    rw [e2]
    split
    · rw [if_neg (fun h => hb2 (h.1 hn)), Int.sub_mul]; omega
    · omega
  · have hr2 := h3 hn
    have e2 : absF r = r := by unfold absF; omega
    rw [e2]
    split
    · rw [if_pos ⟨fun h => absurd h (by omega), fun h => absurd h hb2⟩, Int.add_mul]; omega
    · omega
theorem mul_lt_cancel {x y n : Int} (hn : 0 < n) (h : x * n < y * n) : x < y := Int.lt_of_mul_lt_mul_right h (by omega)
/-- A quotient of a sum that lies between lo * b and hi * b lies between lo and hi. -/
theorem drF_between {a b lo hi : Int} (hb : 0 < b) (h1 : lo * b ≤ a) (h2 : a ≤ hi * b) : lo ≤ drF a b ∧ drF a b ≤ hi := by
  obtain ⟨h3, h4⟩ := drF_near (a := a) hb
  constructor
  · refine Int.le_of_lt_add_one (mul_lt_cancel hb ?_)
    rw [Int.add_mul]; omega
  · refine Int.le_of_lt_add_one (mul_lt_cancel hb ?_)
    rw [Int.add_mul]; omega
theorem quo_bounds {a b q r : Int} (hb : 0 < b) (hab : a = q * b + r) (h1 : -b < r) (h2 : r < b) (h3 : 0 ≤ a → 0 ≤ r) (h4 : a < 0 → r ≤ 0) (ha : -1000000000000000000 ≤ a ∧ a ≤ 1000000000000000000) : -1000000000000000000 ≤ q ∧ q ≤ 1000000000000000000 := by
  constructor
  · refine Int.not_lt.1 (fun h => ?_)
    have : q * b ≤ (-1000000000000000001) * 1 := by
      have h5 : q * b ≤ q * 1 := Int.mul_le_mul_of_nonpos_left (by omega) (by omega)
      omega
    rcases Int.lt_or_le a 0 with h0 | h0
    · have := h4 h0
      have h6 : q * b + 0 ≤ q * b + 0 := Int.le_refl _
      omega
    · have h5 : q * b ≤ (-1) * b := Int.mul_le_mul_of_nonneg_right (by omega) (by omega)
      omega
  · refine Int.not_lt.1 (fun h => ?_)
    have h5 : q * 1 ≤ q * b := Int.mul_le_mul_of_nonneg_left (by omega) (by omega)
    rcases Int.lt_or_le a 0 with h0 | h0
    · have h6 : 1 * b ≤ q * b := Int.mul_le_mul_of_nonneg_right (by omega) (by omega)
      omega
    · have := h3 h0
      omega
set_option maxRecDepth 100000 in
set_option maxHeartbeats 1000000 in
theorem abs_any (n : Int) (w : World) (hn : -1000000000000000000 ≤ n ∧ n ≤ 1000000000000000000) :
    Calls Tryz.prog 44 #[.int .i64 n] w fun e w' => e = .returned (.int .i64 (absF n)) ∧ w = w' := by
  by_cases h : n < 0
  · have e1 : absF n = -n := by unfold absF; omega
    rw [e1]
    go_enter Tryz.func44, Tryz.ntmps44
    go_wp2
    go_ret
    first | exact ⟨rfl, rfl⟩ | exact ⟨ret_int (by omega), rfl⟩
  · have e1 : absF n = n := by unfold absF; omega
    rw [e1]
    go_enter Tryz.func44, Tryz.ntmps44
    go_wp2
    go_ret
    first | exact ⟨rfl, rfl⟩ | exact ⟨ret_int (by omega), rfl⟩
set_option maxRecDepth 100000 in
set_option maxHeartbeats 4000000 in
theorem divRound_any (a b : Int) (w : World) (ha : -1000000000000000000 ≤ a ∧ a ≤ 1000000000000000000) (hb : 0 < b ∧ b ≤ 1000000000000000000) :
    Calls Tryz.prog 43 #[.int .i64 a, .int .i64 b] w fun e w' => e = .returned (.int .i64 (drF a b)) ∧ Below w.heap.size w w' := by
  obtain ⟨q, r, hq, hr, hab, h1, h2, h3, h4⟩ := tmod_parts (a := a) hb.1
  have hqb : -1000000000000000000 ≤ q ∧ q ≤ 1000000000000000000 := quo_bounds hb.1 hab h1 h2 h3 h4 ha
  have eb : absF b = b := by unfold absF; omega
  have HF : Hid (drF a b = if b - absF r ≤ absF r then (if a < 0 ↔ b < 0 then q + 1 else q - 1) else q) := by show _ = _; unfold drF; rw [hq, hr, eb]
  have hab2 : 0 ≤ absF r ∧ absF r ≤ 1000000000000000000 := by unfold absF; omega
  have hrb : -1000000000000000000 ≤ r ∧ r ≤ 1000000000000000000 := by omega
  generalize drF a b = R at *
  have w1 : wrap64 q = q := by unfold wrap64; omega
  have w2 : wrap64 r = r := by unfold wrap64; omega
  clear hab h1 h2 h3 h4
  go_enter Tryz.func43, Tryz.ntmps43
  go_wp2
  refine wp_region_mix (C := fun w' => ∃ p : Regrown, w' = Go.Sort.grow (redrawn w p.d) p.os) [true, true, true, true, true, true, false, true, true] (by kernel_rfl) (by kernel_rfl) (by kernel_rfl) (fun _ _ d _ _ h => by cases d <;> exact h) (regrown_of_below (Below.drew (Below.refl _ _))) ?_
  have hS0 : Below (w.heap.size) w w.drew := Below.drew (Below.refl _ _)
  refine wpMix_pure (by kernel_rfl) (fun K hK => ?_); go_big_quiet_op; refine hK _ ?_; clear hK K
  refine wpMix_pure (by kernel_rfl) (fun K hK => ?_); go_big_quiet_op; refine hK _ ?_; clear hK K
  refine wpMix_pure (by kernel_rfl) (fun K hK => ?_); go_big_quiet_op; refine hK _ ?_; clear hK K
  refine wpMix_pure (by kernel_rfl) (fun K hK => ?_); go_big_quiet_op; refine hK _ ?_; clear hK K
  refine wpMix_pure (by kernel_rfl) (fun K hK => ?_); go_big_quiet_op; refine hK _ ?_; clear hK K
  refine wpMix_pure (by kernel_rfl) (fun K hK => ?_); go_big_quiet_op; refine hK _ ?_; clear hK K
  refine wpMix_act (by kernel_rfl) (fun K hK => ?_)
  go_big_op
  refine (abs_any _ _ (by omega)).mono ?_
  rintro e w' ⟨rfl, rfl⟩
  refine hK _ _ (regrown_of_below hS0) ?_
  clear hK K
  refine wpMix_pure (by kernel_rfl) (fun K hK => ?_); go_big_quiet_op; refine hK _ ?_; clear hK K
  refine wpMix_pure (by kernel_rfl) (fun K hK => ?_); go_big_quiet_op; refine hK _ ?_; clear hK K
  refine wpMix_nil ?_
  have hB := hS0
  go_wp2_with fail
  refine (abs_any _ _ (by omega)).mono ?_
  rintro e w' ⟨rfl, rfl⟩
  rw [eb]
  by_cases hc : b - absF r ≤ absF r
  · have HG := Lib.hid (HF.out.trans (if_pos hc))
    by_cases hn : a < 0
    · have e1 : (decide (a < 0) == decide (b < 0)) = false := by rw [decide_eq_true hn, decide_eq_false (show ¬ b < 0 by omega)]; rfl
      have e2 : (true == decide (b < 0)) = false := by rw [decide_eq_false (show ¬ b < 0 by omega)]; rfl
      have HX := Lib.hid (HG.out.trans (if_neg (fun h => by have := h.1 hn; omega)))
      go_wp2
      go_ret
      exact ⟨by rw [HX.out]; rfl, hB⟩
    · have HX := Lib.hid (HG.out.trans (if_pos ⟨fun h => absurd h hn, fun h => absurd h (by omega)⟩))
      have e1 : (decide (a < 0) == decide (b < 0)) = true := by rw [decide_eq_false hn, decide_eq_false (show ¬ b < 0 by omega)]; rfl
      go_wp2
      go_ret
      exact ⟨by rw [HX.out]; rfl, hB⟩
  · have HX := Lib.hid (HF.out.trans (if_neg hc))
    go_wp2
    go_ret
    exact ⟨by rw [HX.out]; rfl, hB⟩
set_option maxRecDepth 100000 in
set_option maxHeartbeats 1000000 in
theorem b10Abs_any (n : Int) (w : World) (hn : -1000000000000000000 ≤ n ∧ n ≤ 1000000000000000000) :
    Calls Tryz.prog 10 #[.int .i64 n] w fun e w' => e = .returned (.int .i64 (absF n)) ∧ w = w' := by
  by_cases h : n < 0
  · have e1 : absF n = -n := by unfold absF; omega
    rw [e1]
    go_enter Tryz.func10, Tryz.ntmps10
    go_wp2
    go_ret
    exact ⟨rfl, rfl⟩
  · have e1 : absF n = n := by unfold absF; omega
    rw [e1]
    go_enter Tryz.func10, Tryz.ntmps10
    go_wp2
    go_ret
    exact ⟨rfl, rfl⟩
set_option maxRecDepth 100000 in
set_option maxHeartbeats 1000000 in
theorem minS_any (a b : Int) (w : World) : Calls Tryz.prog 36 #[.int .i64 a, .int .i64 b] w fun e w' => e = .returned (.int .i64 (min a b)) ∧ w = w' := by
  by_cases h : a < b
  · have e : min a b = a := by omega
    rw [e]
    go_enter Tryz.func36, Tryz.ntmps36
    go_wp2
    go_ret
    exact ⟨rfl, rfl⟩
  · have e : min a b = b := by omega
    rw [e]
    go_enter Tryz.func36, Tryz.ntmps36
    go_wp2
    go_ret
    exact ⟨rfl, rfl⟩
set_option maxRecDepth 100000 in
set_option maxHeartbeats 1000000 in
theorem maxS_any (a b : Int) (w : World) : Calls Tryz.prog 35 #[.int .i64 a, .int .i64 b] w fun e w' => e = .returned (.int .i64 (max a b)) ∧ w = w' := by
  by_cases h : b < a
  · have e : max a b = a := by omega
    rw [e]
    go_enter Tryz.func35, Tryz.ntmps35
    go_wp2
    go_ret
    exact ⟨rfl, rfl⟩
  · have e : max a b = b := by omega
    rw [e]
    go_enter Tryz.func35, Tryz.ntmps35
    go_wp2
    go_ret
    exact ⟨rfl, rfl⟩
end Go.Proofs.YthabmofkjdiccaaGreatDoor

namespace Go.Proofs.YthabmofkjdiccaaGreatDoor
open Go.RowKit
set_option linter.unusedVariables false

set_option maxRecDepth 100000 in
set_option maxHeartbeats 8000000 in
theorem DrawBestShift_any (v : Value) (xs : List UInt8) (fp : List Nat) (w : World) (hx : Sl fByte.cod w v xs fp) :
    Calls Tryz.prog 6 #[v] w fun e w' => ∃ (y : Value) (ys : List DVerified) (fq : List Nat), e = .returned y ∧ Sl fVerified.cod w' y ys fq ∧ (∀ z ∈ ys, SmVerified z) ∧ ys.length ≤ 70 ∧ Below w.heap.size w w' := by
  go_enter Tryz.func6, Tryz.ntmps6
  go_wp2_with fail
  refine (l00From_any v xs fp _ hx).mono ?_
  rintro e w1 ⟨rfl, hs, hb1⟩
  have hgw := Nat.le_refl w.heap.size
  generalize hg0 : w.heap.size = g at hs hgw ⊢
  have hge : w.heap.size ≤ g := by omega
  clear hg0 hgw
  have hg1 := hs.lt
  clear hx
  go_wp2_with fail
  refine (l20DrawO_any _ g _ hs (by omega)).mono ?_
  rintro e w2 ⟨y, ys, rfl, ho, hsm, hl, hs2, ho2⟩
  have hB2 : Below w.heap.size w w2 := hb1.trans (ho2.below hb1.size (by intro b hb; simp at hb; subst hb; exact hge))
  clear hs hb1
  have hsz2 := ho2.size
  clear ho2
  go_wp2_with fail
  refine (one_any _ g 2 _ hs2 (by omega) (by omega)).mono ?_
  rintro e w3 ⟨t, rfl, hs3, ho3⟩
  have hg2 := hs2.lt
  replace ho := ho.only ho3 (fun b hb => by simp at hb; subst hb; exact hg1)
  have hB3 := hB2.trans (ho3.below hB2.size (by intro b hb; simp at hb; subst hb; exact hge))
  clear hs2 ho3 hB2 hsz2 hg2
  obtain ⟨A3, c3, rfl⟩ := ho.form
  cases t
  · obtain ⟨fq, hsl, _, _⟩ := Sl.of_own (n := ys.length) rfl ho (fun y hy => (hsm y hy).ok)
    go_wp2
    go_ret
    exact ⟨_, _, _, rfl, hsl, hsm, hl, hB3⟩
  go_wp2_with fail
  refine (pick_any _ g 5 _ hs3 (by omega) (by omega)).mono ?_
  rintro e w4 ⟨q, rfl, ⟨q0, q1, _⟩, hs4, ho4⟩
  replace q1 := q1 (by omega)
  replace ho := ho.only ho4 (fun b hb => by simp at hb; subst hb; exact hg1)
  have hB4 := hB3.trans (ho4.below hB3.size (by intro b hb; simp at hb; subst hb; exact hge))
  have hsw1 : w.heap.size ≤ w1.heap.size := by omega
  clear hs3 ho4 hB3 hs4
  go_wp2
  go_loopw [6] (fun i wr => ∃ (k : Nat) (X : List DVerified), i = .int .i64 k ∧ k ≤ ys.length ∧ X.length = ys.length ∧ Own fVerified wr w1.heap.size 34 (.slice A3 ys.length c3) X ∧ (∀ x ∈ X, SmVerified x) ∧ Below w.heap.size w wr) (fun i _ => ys.length - (intOf i).toNat)
  case atStart => exact ⟨0, ys, rfl, Nat.zero_le _, rfl, ho, hsm, hB4⟩
  case round =>
    clear ho hsm hB4
    obtain ⟨k, X, rfl, hk, hX, ho, hsm, hb⟩ := hrel
    by_cases hlt : k < ys.length
    · have hX2 : k < X.length := by omega
      obtain ⟨g', rfl, hg'⟩ : ∃ g', A3 = some ⟨g', 0, none⟩ ∧ w1.heap.size ≤ g' := by
        have ho2 := ho.2
        rcases ho2 with ⟨hv, h0⟩ | ⟨g1, cap1, cur, hv, hg1, _⟩
        · injection hv with _ h1 _
          omega
        · injection hv with h1 _ _
          exact ⟨g1, h1, by first | exact hg1 | exact hg1.1 | omega⟩
      have c1 : wr.cell? ⟨g', k * 3 + 1, none⟩ = some (.int .i64 X[k].told) := ho.cellF (j := 1) hX2 (by decide) rfl
      have c2 : wr.cell? ⟨g', k * 3 + 2, none⟩ = some (.int .i64 X[k].seen) := ho.cellF (j := 2) hX2 (by decide) rfl
      have f2 : wr.frozen? ⟨g', k * 3 + 2, none⟩ = false := ho.frozenF _
      have hsk := hsm X[k] (List.getElem_mem hX2)
      have hbt : -1000000000 ≤ X[k].told ∧ X[k].told ≤ 1000000000 := by unfold SmVerified at hsk; omega
      go_wp2_with fail
      refine (minS_any _ _ _).mono ?_
      rintro e w' ⟨rfl, rfl⟩
      go_wp2_with fail
      refine (maxS_any _ _ _).mono ?_
      rintro e w' ⟨rfl, rfl⟩
      have hu : 1 ≤ max 1 (min 5 (X[k].told + (q - 2))) ∧ max 1 (min 5 (X[k].told + (q - 2))) ≤ 5 := by omega
      generalize max 1 (min 5 (X[k].told + (q - 2))) = u at *
      have HO1 : Own fVerified (wr.setCell ⟨g', k * 3 + 2, none⟩ (.int .i64 u)) w1.heap.size 34 (.slice (some ⟨g', 0, none⟩) ys.length c3) (X.set k ⟨X[k].day, X[k].told, u⟩) := ho.setF hX2 2 (by decide) _ _ rfl
      have hbb := hb.setCell (p := ⟨g', k * 3 + 2, none⟩) (by show w.heap.size ≤ g'; omega) (.int .i64 u)
      have hsm5 : ∀ y ∈ X.set k ⟨X[k].day, X[k].told, u⟩, SmVerified y := fun y hy => by
        rcases List.mem_or_eq_of_mem_set hy with h | rfl
        · exact hsm y h
        · unfold SmVerified at hsk ⊢; simp only; omega
      clear ho hsm hsk
      go_wp2
      go_roundw
      case rel => exact ⟨k + 1, _, by go_num, by omega, by rw [List.length_set]; exact hX, HO1, hsm5, hbb⟩
      case measure => simp [intOf]; omega
    · obtain ⟨fq, hsl, _, _⟩ := Sl.of_own (n := ys.length) hX (by have h := ho; unfold Own at h; rw [hX] at h; exact h) (fun y hy => (hsm y hy).ok)
      go_wp2
      go_ret
      exact ⟨_, _, _, rfl, by first | exact hsl | (rw [← hX]; exact hsl) | (have h := hsl; rw [hX] at h; exact h), hsm, by omega, hb⟩

end Go.Proofs.YthabmofkjdiccaaGreatDoor

namespace Go.Proofs.YthabmofkjdiccaaGreatDoor
set_option linter.unusedVariables false

theorem ordered_lt {α : Type} {bef : α → α → Prop} (htr : ∀ a b c, bef a b → bef b c → bef a c) {xs : List α} (h : ∀ i (hi : i + 1 < xs.length), bef xs[i] xs[i + 1]) : ∀ (j i : Nat) (hj : j < xs.length) (hi : i < j), bef (xs[i]'(by omega)) xs[j] := by
  intro j
  induction j with
  | zero => intro i _ hi; omega
  | succ j ih =>
    intro i hj hi
    rcases Nat.lt_or_eq_of_le (Nat.le_of_lt_succ hi) with h1 | rfl
    · exact htr _ _ _ (ih i (by omega) h1) (h j hj)
    · exact h i hj
theorem put_ordered {α : Type} {bef : α → α → Prop} (htr : ∀ a b c, bef a b → bef b c → bef a c) {xs : List α} {x : α} {k : Nat} (h : ∀ i (hi : i + 1 < xs.length), bef xs[i] xs[i + 1]) (hle : k ≤ xs.length)
    (hb : ∀ m (hm : m < xs.length), m < k → bef xs[m] x) (ha : ∀ m (hm : m < xs.length), k ≤ m → bef x xs[m]) :
    (xs.take k ++ x :: xs.drop k).length = xs.length + 1 ∧ (∀ y ∈ xs.take k ++ x :: xs.drop k, y ∈ xs ∨ y = x) ∧ (∀ i (hi : i + 1 < (xs.take k ++ x :: xs.drop k).length), bef (xs.take k ++ x :: xs.drop k)[i] (xs.take k ++ x :: xs.drop k)[i + 1]) ∧ ∃ hk : k < (xs.take k ++ x :: xs.drop k).length, (xs.take k ++ x :: xs.drop k)[k] = x := by
  have hlt : (xs.take k).length = k := by rw [List.length_take]; omega
  have hlen : (xs.take k ++ x :: xs.drop k).length = xs.length + 1 := by rw [List.length_append, List.length_cons, List.length_drop, hlt]; omega
  have hat : ∀ i (hi : i < (xs.take k ++ x :: xs.drop k).length), (i < k → ∃ h : i < xs.length, (xs.take k ++ x :: xs.drop k)[i] = xs[i]) ∧ (i = k → (xs.take k ++ x :: xs.drop k)[i] = x) ∧ (k < i → ∃ h : i - 1 < xs.length, (xs.take k ++ x :: xs.drop k)[i] = xs[i - 1]) := fun i hi => by
    refine ⟨fun h => ⟨by omega, ?_⟩, fun h => ?_, fun h => ⟨by omega, ?_⟩⟩
    · rw [List.getElem_append_left (by omega), List.getElem_take]
    · subst h
      rw [List.getElem_append_right (by omega)]
      simp [hlt]
    · rw [List.getElem_append_right (by omega)]
      obtain ⟨j, rfl⟩ : ∃ j, i = k + 1 + j := ⟨i - (k + 1), by omega⟩
      simp only [hlt, show k + 1 + j - k = j + 1 by omega, List.getElem_cons_succ, List.getElem_drop]
      congr 1
      omega
  have hlt2 := ordered_lt htr h
  refine ⟨hlen, fun y hy => ?_, fun i hi => ?_, by omega, (hat k (by omega)).2.1 rfl⟩
  · rcases List.mem_append.1 hy with hy | hy
    · exact .inl (List.mem_of_mem_take hy)
    · rcases List.mem_cons.1 hy with rfl | hy
      · exact .inr rfl
      · exact .inl (List.mem_of_mem_drop hy)
  · rcases Nat.lt_trichotomy i k with h1 | h1 | h1
    · obtain ⟨h2, e2⟩ := (hat i (by omega)).1 h1
      rw [e2]
      rcases Nat.lt_or_ge (i + 1) k with h3 | h3
      · obtain ⟨h4, e4⟩ := (hat (i + 1) hi).1 h3
        rw [e4]; exact hlt2 (i + 1) i h4 (by omega)
      · rw [(hat (i + 1) hi).2.1 (by omega)]; exact hb i h2 h1
    · rw [(hat i (by omega)).2.1 h1]
      obtain ⟨h4, e4⟩ := (hat (i + 1) hi).2.2 (by omega)
      rw [e4]; exact ha _ h4 (by omega)
    · obtain ⟨h2, e2⟩ := (hat i (by omega)).2.2 h1
      obtain ⟨h4, e4⟩ := (hat (i + 1) hi).2.2 (by omega)
      rw [e2, e4]; exact hlt2 _ _ h4 (by omega)
theorem posF_specP {α : Type} (p : α → Bool) (xs : List α) : (∀ m (h : m < xs.length), m < posF p xs → p xs[m] = true) ∧ (∀ h : posF p xs < xs.length, p xs[posF p xs] = false) := by
  unfold posF
  induction xs with
  | nil => exact ⟨fun m h => absurd h (Nat.not_lt_zero _), fun h => absurd h (Nat.not_lt_zero _)⟩
  | cons x xs ih =>
    cases hp : p x with
    | false =>
      have e : (x :: xs).takeWhile p = [] := by rw [List.takeWhile_cons, hp]; rfl
      rw [e]
      exact ⟨fun m h hm => absurd hm (Nat.not_lt_zero _), fun h => hp⟩
    | true =>
      have e : (x :: xs).takeWhile p = x :: xs.takeWhile p := by rw [List.takeWhile_cons, hp]; rfl
      simp only [e, List.length_cons]
      refine ⟨fun m h hm => ?_, fun h => ?_⟩
      · cases m with
        | zero => exact hp
        | succ m => exact ih.1 m (by simpa using h) (by omega)
      · have := ih.2 (by omega)
        simpa using this
end Go.Proofs.YthabmofkjdiccaaGreatDoor

namespace Go.Proofs.YthabmofkjdiccaaGreatDoor
open Go.RowKit
set_option linter.unusedVariables false

/-! ### strings in a list -/
def memS (s : ByteArray) (xs : List ByteArray) : Bool := xs.any fun x => decide (x = s)
def NotS (xs : List ByteArray) (s : ByteArray) (k : Nat) : Prop := ∀ j (hj : j < k) (h : j < xs.length), xs[j] ≠ s
theorem NotS.zero {xs : List ByteArray} {s : ByteArray} : NotS xs s 0 := fun j hj => absurd hj (Nat.not_lt_zero _)
theorem NotS.step {xs : List ByteArray} {s : ByteArray} {k : Nat} (h : k < xs.length) (he : xs[k] ≠ s) (h0 : NotS xs s k) : NotS xs s (k + 1) := by
  intro j hj hl
  by_cases e : j = k
  · subst e; exact he
  · exact h0 j (by omega) hl
theorem NotS.none {xs : List ByteArray} {s : ByteArray} {k : Nat} (h : xs.length ≤ k) (h0 : NotS xs s k) : memS s xs = false := by
  unfold memS
  rw [List.any_eq_false]
  intro x hm
  obtain ⟨j, hj, e⟩ := List.getElem_of_mem hm
  have := h0 j (by omega) hj
  rw [e] at this
  simpa using this
theorem inS {xs : List ByteArray} {s : ByteArray} {k : Nat} (h : k < xs.length) (he : xs[k] = s) : memS s xs = true := by
  unfold memS
  rw [List.any_eq_true]
  exact ⟨xs[k], List.getElem_mem h, by simpa using he⟩
theorem memS_true {xs : List ByteArray} {s : ByteArray} : memS s xs = true ↔ s ∈ xs := by
  unfold memS; rw [List.any_eq_true]
  constructor
  · rintro ⟨x, hx, he⟩
    have he := of_decide_eq_true he
    subst he; exact hx
  · intro h; exact ⟨s, h, decide_eq_true rfl⟩
def memI (n : Int) (xs : List Int) : Bool := xs.any fun x => decide (x = n)
def NotI (xs : List Int) (n : Int) (k : Nat) : Prop := ∀ j (hj : j < k) (h : j < xs.length), xs[j] ≠ n
theorem NotI.zero {xs : List Int} {n : Int} : NotI xs n 0 := fun j hj => absurd hj (Nat.not_lt_zero _)
theorem NotI.step {xs : List Int} {n : Int} {k : Nat} (h : k < xs.length) (he : xs[k] ≠ n) (h0 : NotI xs n k) : NotI xs n (k + 1) := by
  intro j hj hl
  by_cases e : j = k
  · subst e; exact he
  · exact h0 j (by omega) hl
theorem NotI.none {xs : List Int} {n : Int} {k : Nat} (h : xs.length ≤ k) (h0 : NotI xs n k) : memI n xs = false := by
  unfold memI
  rw [List.any_eq_false]
  intro x hm
  obtain ⟨j, hj, e⟩ := List.getElem_of_mem hm
  have := h0 j (by omega) hj
  rw [e] at this
  simpa using this
theorem inI {xs : List Int} {n : Int} {k : Nat} (h : k < xs.length) (he : xs[k] = n) : memI n xs = true := by
  unfold memI
  rw [List.any_eq_true]
  exact ⟨xs[k], List.getElem_mem h, by simpa using he⟩
theorem memI_true {xs : List Int} {n : Int} : memI n xs = true ↔ n ∈ xs := by
  unfold memI; rw [List.any_eq_true]
  constructor
  · rintro ⟨x, hx, he⟩
    have he := of_decide_eq_true he
    subst he; exact hx
  · intro h; exact ⟨n, h, decide_eq_true rfl⟩
set_option maxRecDepth 100000 in
set_option maxHeartbeats 2000000 in
theorem b10Has_any (v : Value) (xs : List Int) (fp : List Nat) (n : Int) (w : World) (hx : Sl fInt.cod w v xs fp) :
    Calls Tryz.prog 11 #[v, .int .i64 n] w fun e w' => e = .returned (.bool (memI n xs)) ∧ w = w' := by
  obtain ⟨A, cap, rfl, hlen, hcap⟩ := hx.form
  go_enter Tryz.func11, Tryz.ntmps11
  go_wp2
  go_loop [5] (fun i => ∃ k : Nat, k ≤ xs.length ∧ i = .int .i64 k ∧ Hid (NotI xs n k)) (fun i => xs.length - (intOf i).toNat)
  case atStart => exact ⟨0, Nat.zero_le _, rfl, NotI.zero⟩
  case round =>
    obtain ⟨k, hk, rfl, H0⟩ := hrel
    by_cases hlt : k < xs.length
    · obtain ⟨b, off, rfl, _, hok, hc, _⟩ := hx.cell1 rfl hlt rfl
      by_cases he : xs[k] = n
      · have HF := Lib.hid (inI hlt he)
        have e6 : (xs[k] == n) = true := by rw [beq_iff_eq]; exact he
        clear he
        go_wp2
        go_ret
        exact ⟨ret_bool HF.out.symm, rfl⟩
      · have HS := Lib.hid (NotI.step hlt he H0.out)
        have e6 : (xs[k] == n) = false := by rw [beq_eq_false_iff_ne]; exact he
        clear he
        go_wp2
        go_round
        case rel => exact ⟨k + 1, by omega, by go_num, HS⟩
        case measure => simp [intOf]; omega
    · have HF := Lib.hid (NotI.none (by omega) H0.out)
      go_wp2
      go_ret
      exact ⟨ret_bool HF.out.symm, rfl⟩
end Go.Proofs.YthabmofkjdiccaaGreatDoor
