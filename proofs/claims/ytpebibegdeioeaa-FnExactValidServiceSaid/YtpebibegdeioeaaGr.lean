
/- Contracts of the functions on one group of people, the program's and the reference's. Written by wip/gen/gr.py. -/
import Derived.Test.YtpebibegdeioeaaPGroup
import Derived.Test.YtpebibegdeioeaaSeg
import Derived.Test.YtpebibegdeioeaaNm
namespace Go.Proofs.Ytpebibegdeioeaa
open Go.RowKit
set_option linter.unusedVariables false

def groupB (x : DGroup) : Bool := nameB x.id && inB x.people 1 30 && inB x.guides 0 x.people && inB x.beacons 0 30 && inB x.shovels 0 30 && inB x.probes 0 30 && inB x.skill 1 5
def levelB (n : Int) : Bool := inB n 1 5
set_option maxRecDepth 100000 in
set_option maxHeartbeats 400000 in
theorem l17Is_any (a : Int) (w : World) : Calls Try.prog 64 #[.int .i64 a] w fun e w' => e = .returned (.bool (levelB a)) ∧ w = w' := by
  go_enter Try.func64, Try.ntmps64
  go_wp2_with (go_at_call 58; refine (l00InB_any _ _ _ _).mono ?_; rintro e w' ⟨rfl, rfl⟩)
  go_ret
  exact ⟨rfl, rfl⟩
set_option maxRecDepth 100000 in
set_option maxHeartbeats 400000 in
theorem levelOk_any (a : Int) (w : World) : Calls Try.prog 74 #[.int .i64 a] w fun e w' => e = .returned (.bool (levelB a)) ∧ w = w' := by
  go_enter Try.func74, Try.ntmps74
  go_wp2_with (go_at_call 27; refine (withinB_any _ _ _ _).mono ?_; rintro e w' ⟨rfl, rfl⟩)
  go_ret
  exact ⟨rfl, rfl⟩

def allIn (xs : List Int) (lo hi : Int) : Bool := xs.all fun x => inB x lo hi
set_option maxRecDepth 100000 in
set_option maxHeartbeats 1000000 in
theorem allWithin1_any (x lo hi : Int) (a1 a2 : Addr) (w : World) (h1 : w.cell? a1 = some (.int .i64 lo)) (h2 : w.cell? a2 = some (.int .i64 hi)) :
    Calls Try.prog 79 #[.int .i64 x, .pointer (some a1), .pointer (some a2)] w fun e w' => e = .returned (.bool (!(inB x lo hi))) ∧ w = w' := by
  go_enter Try.func79, Try.ntmps79
  go_wp2_with (go_at_call 27; refine (withinB_any _ _ _ _).mono ?_; rintro e w' ⟨rfl, rfl⟩)
  go_ret
  exact ⟨rfl, rfl⟩

/-- Where the first element outside stands, or -1. -/
def IdxR (xs : List Int) (lo hi : Int) (w : World) (e : Ending) (w' : World) : Prop := ∃ r : Int, e = .returned (.int .i64 r) ∧ (allIn xs lo hi = true → r = -1) ∧ (allIn xs lo hi = false → 0 ≤ r) ∧ w = w'
set_option maxRecDepth 100000 in
set_option maxHeartbeats 1000000 in
theorem indexWithin_any (v : Value) (xs : List Int) (fp : List Nat) (lo hi : Int) (a1 a2 : Addr) (w : World) (hx : Sl fInt.cod w v xs fp) (h1 : w.cell? a1 = some (.int .i64 lo)) (h2 : w.cell? a2 = some (.int .i64 hi)) :
    Calls Try.prog 85 #[v, .func (.func 79) #[] #[.pointer (some a1), .pointer (some a2)]] w fun e w' => IdxR xs lo hi w e w' := by
  obtain ⟨A, cap, rfl, hlen, hcap⟩ := hx.form
  go_enter Try.func85, Try.ntmps85
  go_wp2
  go_loop [8] (fun i => ∃ k : Nat, k ≤ xs.length ∧ i = .int .i64 k ∧ Hid (allIn (xs.take k) lo hi = true)) (fun i => xs.length - (intOf i).toNat)
  case atStart => exact ⟨0, Nat.zero_le _, rfl, rfl⟩
  case round =>
    obtain ⟨k, hk, rfl, HE⟩ := hrel
    by_cases hlt : k < xs.length
    · obtain ⟨b, off, rfl, _, hok, hc, _⟩ := hx.cell1 rfl hlt rfl
      cases hb : inB xs[k] lo hi
      · have HA : Hid (allIn xs lo hi = false) := by
          show allIn xs lo hi = false
          unfold allIn
          rw [List.all_eq_false]
          exact ⟨xs[k], List.getElem_mem hlt, by rw [hb]; simp⟩
        go_wp2_with (go_at_call 79; refine (allWithin1_any _ _ _ _ _ _ h1 h2).mono ?_; rintro e w' ⟨rfl, rfl⟩)
        go_ret
        exact ⟨k, rfl, fun h => by (rw [HA.out] at h; cases h), fun _ => by omega, rfl⟩
      · have HA : Hid (allIn (xs.take (k + 1)) lo hi = true) := by
          show allIn _ lo hi = true
          have h0 := HE.out
          unfold allIn at *
          rw [List.take_succ_eq_append_getElem hlt, List.all_append, h0]
          simp [hb]
        go_wp2_with (go_at_call 79; refine (allWithin1_any _ _ _ _ _ _ h1 h2).mono ?_; rintro e w' ⟨rfl, rfl⟩)
        go_round
        case rel => exact ⟨k + 1, by omega, by go_num, HA⟩
        case measure => simp [intOf]; omega
    · have HA : Hid (allIn xs lo hi = true) := by have := HE.out; rw [List.take_of_length_le (by omega)] at this; exact this
      go_wp2
      go_ret
      exact ⟨-1, rfl, fun _ => rfl, fun h => by (rw [HA.out] at h; cases h), rfl⟩

set_option maxRecDepth 100000 in
set_option maxHeartbeats 1000000 in
theorem containsWithin_any (v : Value) (xs : List Int) (fp : List Nat) (lo hi : Int) (a1 a2 : Addr) (w : World) (hx : Sl fInt.cod w v xs fp) (h1 : w.cell? a1 = some (.int .i64 lo)) (h2 : w.cell? a2 = some (.int .i64 hi)) :
    Calls Try.prog 78 #[v, .func (.func 79) #[] #[.pointer (some a1), .pointer (some a2)]] w fun e w' => e = .returned (.bool (!(allIn xs lo hi))) ∧ w = w' := by
  go_enter Try.func78, Try.ntmps78
  go_wp2_with fail
  refine (indexWithin_any v xs fp lo hi a1 a2 w hx h1 h2).mono ?_
  rintro e w' ⟨r, rfl, hr1, hr2, rfl⟩
  cases hb : allIn xs lo hi
  · have h3 := hr2 hb
    clear hr1 hr2
    go_wp2
    go_ret
    exact ⟨ret_bool (by simp [hb]), rfl⟩
  · have h3 := hr1 hb
    clear hr1 hr2
    subst h3
    go_wp2
    go_ret
    exact ⟨ret_bool (by simp [hb]), rfl⟩

set_option maxRecDepth 100000 in
set_option maxHeartbeats 1000000 in
theorem allWithin_any (v : Value) (xs : List Int) (fp : List Nat) (lo hi : Int) (w : World) (hx : Sl fInt.cod w v xs fp) :
    Calls Try.prog 68 #[v, .int .i64 lo, .int .i64 hi] w fun e w' => e = .returned (.bool (allIn xs lo hi)) ∧ Below w.heap.size w w' := by
  have hmf : ∀ (fn : Fn) (first cap : Array Value) (W : World), (Instr.makeFunc fn first cap).run Try.prog W = .ok (.func fn first cap) W := fun _ _ _ _ => rfl
  have hx2 := (hx.below' ((Below.refl _ _).alloc (Nat.le_refl _) (.cells #[.int .i64 lo] 2))).below' ((Below.refl _ _).alloc (Nat.le_refl _) (.cells #[.int .i64 hi] 2))
  go_enter Try.func68, Try.ntmps68
  go_wp2_with fail
  refine (containsWithin_any v xs fp lo hi _ _ _ hx2 (by simp) (by simp)).mono ?_
  rintro e w' ⟨rfl, rfl⟩
  cases hb : allIn xs lo hi
  all_goals
    go_wp2
    go_ret
    exact ⟨ret_bool (by simp [hb]), (by repeat (first | exact Below.refl _ _ | assumption | refine Below.alloc ?_ (by first | omega | (simp <;> omega)) _ | refine Below.setCell ?_ (by first | (show _ ≤ _; omega) | (simp <;> omega)) _ | refine Below.drew ?_ | refine below_drewN ?_ _))⟩

end Go.Proofs.Ytpebibegdeioeaa
