/- Parts of the proof: Rf. -/
import Derived.Test.YtgnbhcgagdfaiaaGreatDoorG04
import Derived.Test.YtgnbhcgagdfaiaaGreatDoorG01
namespace Go.Proofs.YtgnbhcgagdfaiaaGreatDoor
open Go.RowKit
set_option linter.unusedVariables false

/-- The first place of a region with a name, or -1. -/
def FindR (xs : List DRegion) (s : ByteArray) (r : Int) : Prop :=
  (r = -1 ∧ ∀ j (h : j < xs.length), xs[j].id ≠ s) ∨ (∃ k : Nat, r = k ∧ ∃ h : k < xs.length, xs[k].id = s ∧ ∀ j (hj : j < k), (xs[j]'(by omega)).id ≠ s)
def NotB (xs : List DRegion) (s : ByteArray) (k : Nat) : Prop := ∀ j (hj : j < k) (h : j < xs.length), xs[j].id ≠ s
theorem NotB.zero {xs : List DRegion} {s : ByteArray} : NotB xs s 0 := fun j hj => absurd hj (Nat.not_lt_zero _)
theorem NotB.step {xs : List DRegion} {s : ByteArray} {k : Nat} (h : k < xs.length) (he : xs[k].id ≠ s) (h0 : NotB xs s k) : NotB xs s (k + 1) := by
  intro j hj hl
  by_cases e : j = k
  · subst e; exact he
  · exact h0 j (by omega) hl
theorem findR_at {xs : List DRegion} {s : ByteArray} {k : Nat} (h : k < xs.length) (he : xs[k].id = s) (h0 : NotB xs s k) : FindR xs s (k : Int) :=
  .inr ⟨k, rfl, h, he, fun j hj => h0 j hj (by omega)⟩
theorem findR_none {xs : List DRegion} {s : ByteArray} {k : Nat} (h : xs.length ≤ k) (h0 : NotB xs s k) : FindR xs s (-1) :=
  .inl ⟨rfl, fun j hj => h0 j (by omega) hj⟩
def FindW (xs : List DRegion) (s : ByteArray) (w : World) (e : Ending) (w' : World) : Prop := ∃ r : Int, e = .returned (.int .i64 r) ∧ FindR xs s r ∧ Below w.heap.size w w'
set_option maxRecDepth 100000 in
set_option maxHeartbeats 2000000 in
theorem l18Find_any (v : Value) (xs : List DRegion) (fp : List Nat) (s : ByteArray) (w : World) (hx : Sl cRegion w v xs fp) :
    Calls Tryz.prog 61 #[v, .string s] w fun e w' => FindW xs s w e w' := by
  obtain ⟨A, cap, rfl, hlen, hcap⟩ := hx.form
  go_enter Tryz.func61, Tryz.ntmps61
  go_wp2
  go_loop [5] (fun i => ∃ k : Nat, k ≤ xs.length ∧ i = .int .i64 k ∧ Hid (NotB xs s k)) (fun i => xs.length - (intOf i).toNat)
  case atStart => exact ⟨0, Nat.zero_le _, rfl, NotB.zero⟩
  case round =>
    obtain ⟨k, hk, rfl, H0⟩ := hrel
    by_cases hlt : k < xs.length
    · obtain ⟨b, off, vk, fk, rfl, c0, _⟩ := hx.reg hlt
      by_cases he : xs[k].id = s
      · have HF := Lib.hid (findR_at hlt he H0.out)
        have e6 : (xs[k].id.toList == s.toList) = true := eqS_true.2 he
        clear he
        go_wp2
        go_ret
        exact ⟨_, rfl, HF.out, Below.refl _ _⟩
      · have HS := Lib.hid (NotB.step hlt he H0.out)
        have e6 : (xs[k].id.toList == s.toList) = false := bytes_beq_false he
        clear he
        go_wp2
        go_round
        case rel => exact ⟨k + 1, by omega, by go_num, HS⟩
        case measure => simp [intOf]; omega
    · have HF := Lib.hid (findR_none (by omega) H0.out)
      go_wp2
      go_ret
      exact ⟨_, rfl, HF.out, Below.refl _ _⟩
set_option maxRecDepth 100000 in
set_option maxHeartbeats 2000000 in
theorem regionAt1_any (x : DRegion) (v : Value) (s : ByteArray) (a : Addr) (w : World) (h : w.cell? a = some (.string s)) (hv : ∃ A n c, v = .slice A n c) :
    Calls Tryz.prog 105 #[.agg #[.string x.id, .int .i64 x.level, v], .pointer (some a)] w fun e w' => e = .returned (.bool (x.id.toList == s.toList)) ∧ Below w.heap.size w w' := by
  obtain ⟨A, n, c, rfl⟩ := hv
  have h' := ((Below.refl w.heap.size w).alloc (Nat.le_refl _) (.cells #[.string x.id, .int .i64 x.level, .slice A n c] 63)).cell (p := a) (block_lt_of_cell h) |>.trans h
  go_enter Tryz.func105, Tryz.ntmps105
  go_wp2
  go_ret
  exact ⟨rfl, (Below.refl _ _).alloc (Nat.le_refl _) _⟩
set_option maxRecDepth 100000 in
set_option maxHeartbeats 2000000 in
theorem indexR_any (v : Value) (xs : List DRegion) (fp : List Nat) (s : ByteArray) (a : Addr) (w : World) (hx : Sl cRegion w v xs fp) (h : w.cell? a = some (.string s)) :
    Calls Tryz.prog 104 #[v, .func (.func 105) #[] #[.pointer (some a)]] w fun e w' => FindW xs s w e w' := by
  obtain ⟨A, cap, rfl, hlen, hcap⟩ := hx.form
  go_enter Tryz.func104, Tryz.ntmps104
  go_wp2
  go_loopw [8] (fun i wr => ∃ k : Nat, k ≤ xs.length ∧ i = .int .i64 k ∧ Hid (NotB xs s k) ∧ Below w.heap.size w wr) (fun i _ => xs.length - (intOf i).toNat)
  case atStart => exact ⟨0, Nat.zero_le _, rfl, NotB.zero, Below.refl _ _⟩
  case round =>
    obtain ⟨k, hk, rfl, H0, hb⟩ := hrel
    by_cases hlt : k < xs.length
    · obtain ⟨b, off, vk, fk, rfl, c0, c1, c2, hs0, _⟩ := (hx.below' hb).reg hlt
      obtain ⟨A1, cap1, rfl, _, _⟩ := hs0.form
      go_wp2_with fail
      refine (regionAt1_any xs[k] _ s a _ ((hb.cell (block_lt_of_cell h)).trans h) ⟨_, _, _, rfl⟩).mono ?_
      rintro e w1 ⟨rfl, hb1⟩
      have hb2 := hb.trans (hb1.mono hb.size)
      by_cases he : xs[k].id = s
      · have HF := Lib.hid (findR_at hlt he H0.out)
        have e6 : (xs[k].id.toList == s.toList) = true := eqS_true.2 he
        clear he
        go_wp2
        go_ret
        exact ⟨_, rfl, HF.out, hb2⟩
      · have HS := Lib.hid (NotB.step hlt he H0.out)
        have e6 : (xs[k].id.toList == s.toList) = false := bytes_beq_false he
        clear he
        go_wp2
        go_roundw
        case rel => exact ⟨k + 1, by omega, by go_num, HS, hb2⟩
        case measure => simp [intOf]; omega
    · have HF := Lib.hid (findR_none (by omega) H0.out)
      go_wp2
      go_ret
      exact ⟨_, rfl, HF.out, hb⟩
set_option maxRecDepth 100000 in
set_option maxHeartbeats 2000000 in
theorem regionAt_any (v : Value) (xs : List DRegion) (fp : List Nat) (s : ByteArray) (w : World) (hx : Sl cRegion w v xs fp) :
    Calls Tryz.prog 69 #[v, .string s] w fun e w' => FindW xs s w e w' := by
  have hmf : ∀ (fn : Fn) (first cap : Array Value) (W : World), (Instr.makeFunc fn first cap).run Tryz.prog W = .ok (.func fn first cap) W := fun _ _ _ _ => rfl
  have hB : Below w.heap.size w (w.alloc (.cells #[.string s] 9)) := (Below.refl _ _).alloc (Nat.le_refl _) _
  have hx2 := hx.below' hB
  go_enter Tryz.func69, Tryz.ntmps69
  go_wp2_with fail
  refine (indexR_any v xs fp s _ _ hx2 (by simp)).mono ?_
  rintro e w1 ⟨r, rfl, hr, hb⟩
  go_wp2
  go_ret
  exact ⟨r, rfl, hr, hB.trans (hb.mono hB.size)⟩
set_option maxRecDepth 100000 in
set_option maxHeartbeats 2000000 in
theorem l18Near_any (pb po : Nat) (v : Value) (xs : List ByteArray) (fp : List Nat) (s : ByteArray) (w : World) (c2 : w.cell? ⟨pb, po + 2, none⟩ = some v) (hx : Sl fStr.cod w v xs fp) :
    Calls Tryz.prog 62 #[.pointer (some ⟨pb, po, none⟩), .string s] w fun e w' => e = .returned (.bool (memS s xs)) ∧ w = w' := by
  obtain ⟨A, cap, rfl, hlen, hcap⟩ := hx.form
  go_enter Tryz.func62, Tryz.ntmps62
  go_wp2
  go_loop [5] (fun i => ∃ k : Nat, k ≤ xs.length ∧ i = .int .i64 k ∧ Hid (NotS xs s k)) (fun i => xs.length - (intOf i).toNat)
  case atStart => exact ⟨0, Nat.zero_le _, rfl, NotS.zero⟩
  case round =>
    obtain ⟨k, hk, rfl, H0⟩ := hrel
    by_cases hlt : k < xs.length
    · obtain ⟨b, off, rfl, _, hok, hc, _⟩ := hx.cell1 rfl hlt rfl
      by_cases he : xs[k] = s
      · have HF := Lib.hid (inS hlt he)
        have e6 : (xs[k].toList == s.toList) = true := eqS_true.2 he
        clear he
        go_wp2
        go_ret
        exact ⟨ret_bool HF.out.symm, rfl⟩
      · have HS := Lib.hid (NotS.step hlt he H0.out)
        have e6 : (xs[k].toList == s.toList) = false := bytes_beq_false he
        clear he
        go_wp2
        go_round
        case rel => exact ⟨k + 1, by omega, by go_num, HS⟩
        case measure => simp [intOf]; omega
    · have HF := Lib.hid (NotS.none (by omega) H0.out)
      go_wp2
      go_ret
      exact ⟨ret_bool HF.out.symm, rfl⟩
def isNearB (xs : List DRegion) (s t : ByteArray) : Bool := match xs.find? (fun x => decide (x.id = s)) with | some x => memS t x.near | none => false
theorem isNearB_none {xs : List DRegion} {s t : ByteArray} (h : ∀ j (h : j < xs.length), xs[j].id ≠ s) : isNearB xs s t = false := by
  unfold isNearB
  have : xs.find? (fun x => decide (x.id = s)) = none := by
    rw [List.find?_eq_none]
    intro x hx
    obtain ⟨j, hj, e⟩ := List.getElem_of_mem hx
    have := h j hj
    rw [e] at this
    simpa using this
  rw [this]
theorem isNearB_at {xs : List DRegion} {s t : ByteArray} {k : Nat} (h : k < xs.length) (he : xs[k].id = s) (h0 : ∀ j (hj : j < k), (xs[j]'(by omega)).id ≠ s) : isNearB xs s t = memS t xs[k].near := by
  unfold isNearB
  have : xs.find? (fun x => decide (x.id = s)) = some xs[k] := by
    rw [List.find?_eq_some_iff_getElem]
    exact ⟨by simpa using he, k, h, rfl, fun j hj => by have := h0 j hj; simpa using this⟩
  rw [this]
set_option maxRecDepth 100000 in
set_option maxHeartbeats 2000000 in
theorem isNear_any (v : Value) (xs : List DRegion) (fp : List Nat) (s t : ByteArray) (w : World) (hx : Sl cRegion w v xs fp) :
    Calls Tryz.prog 67 #[v, .string s, .string t] w fun e w' => e = .returned (.bool (isNearB xs s t)) ∧ Below w.heap.size w w' := by
  obtain ⟨A, cap, rfl, hlen, hcap⟩ := hx.form
  go_enter Tryz.func67, Tryz.ntmps67
  go_wp2_with fail
  refine (regionAt_any _ xs fp s w hx).mono ?_
  rintro e w1 ⟨r, rfl, hr, hb⟩
  rcases hr with ⟨rfl, hn⟩ | ⟨k, rfl, hlt, he, h0⟩
  · have HX := Lib.hid (isNearB_none (t := t) hn)
    clear hn
    go_wp2
    go_ret
    exact ⟨ret_bool HX.out.symm, hb⟩
  · have HX := Lib.hid (isNearB_at (t := t) hlt he h0)
    clear he h0
    obtain ⟨b, off, vk, fk, rfl, c0, c1, c2, hs0, _⟩ := (hx.below' hb).reg hlt
    go_wp2_with fail
    refine (containsS_any _ _ _ t _ hs0).mono ?_
    rintro e w2 ⟨rfl, rfl⟩
    go_wp2
    go_ret
    exact ⟨ret_bool HX.out.symm, hb⟩
end Go.Proofs.YtgnbhcgagdfaiaaGreatDoor
