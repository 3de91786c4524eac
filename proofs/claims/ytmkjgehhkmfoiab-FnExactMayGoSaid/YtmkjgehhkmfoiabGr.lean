/- Contracts of the functions on one group of people, the program's and the reference's. Written by wip/gen/gr.py. -/
import Derived.Test.YtmkjgehhkmfoiabTGroup
import Derived.Test.YtmkjgehhkmfoiabNm
namespace Go.Proofs.Ytmkjgehhkmfoiab
open Go.RowKit
set_option linter.unusedVariables false

/-- A pointer to a group that lies somewhere. -/
structure PGroup (w : World) (pb po : Nat) (x : DGroup) : Prop where
  c0 : w.cell? ⟨pb, po, none⟩ = some (.string x.id)
  c1 : w.cell? ⟨pb, po + 1, none⟩ = some (.int .i64 x.people)
  c2 : w.cell? ⟨pb, po + 2, none⟩ = some (.int .i64 x.guides)
  c3 : w.cell? ⟨pb, po + 3, none⟩ = some (.int .i64 x.beacons)
  c4 : w.cell? ⟨pb, po + 4, none⟩ = some (.int .i64 x.shovels)
  c5 : w.cell? ⟨pb, po + 5, none⟩ = some (.int .i64 x.probes)
  c6 : w.cell? ⟨pb, po + 6, none⟩ = some (.int .i64 x.skill)
theorem PGroup.below {w w' : World} {pb po : Nat} {x : DGroup} {B : Nat} (h : PGroup w pb po x) (hb : Below B w w') (hB : pb < B) : PGroup w' pb po x :=
  ⟨(hb.cell (p := ⟨pb, _, none⟩) hB).trans h.c0, (hb.cell (p := ⟨pb, _, none⟩) hB).trans h.c1, (hb.cell (p := ⟨pb, _, none⟩) hB).trans h.c2, (hb.cell (p := ⟨pb, _, none⟩) hB).trans h.c3, (hb.cell (p := ⟨pb, _, none⟩) hB).trans h.c4, (hb.cell (p := ⟨pb, _, none⟩) hB).trans h.c5, (hb.cell (p := ⟨pb, _, none⟩) hB).trans h.c6⟩
theorem PGroup.lt {w : World} {pb po : Nat} {x : DGroup} (h : PGroup w pb po x) : pb < w.heap.size := block_lt_of_cell h.c0
theorem PGroup.box (w : World) (x : DGroup) (T : TypeId) : PGroup (w.alloc (.cells #[.string x.id, .int .i64 x.people, .int .i64 x.guides, .int .i64 x.beacons, .int .i64 x.shovels, .int .i64 x.probes, .int .i64 x.skill] T)) w.heap.size 0 x := by
  constructor <;> simp
theorem PGroup.elem {w : World} {A : Option Addr} {len cap : Nat} {xs : List DGroup} {fp : List Nat} (h : Sl fGroup.cod w (.slice A len cap) xs fp) {k : Nat} (hk : k < xs.length) :
    ∃ b off, A = some ⟨b, off, none⟩ ∧ fGroup.ok xs[k] ∧ PGroup w b (off + k * 7) xs[k] := by
  obtain ⟨b, off, hA, _, hok, hc, _⟩ := h.at_ hk
  exact ⟨b, off, hA, hok, ⟨hc 0 (by decide), hc 1 (by decide), hc 2 (by decide), hc 3 (by decide), hc 4 (by decide), hc 5 (by decide), hc 6 (by decide)⟩⟩

def groupB (x : DGroup) : Bool := nameB x.id && inB x.people 1 30 && inB x.guides 0 x.people && inB x.beacons 0 30 && inB x.shovels 0 30 && inB x.probes 0 30 && inB x.skill 1 5
def levelB (n : Int) : Bool := inB n 1 5
set_option maxHeartbeats 400000 in
theorem l17Is_any (a : Int) (w : World) : Calls Try.prog 9 #[.int .i64 a] w fun e w' => e = .returned (.bool (levelB a)) ∧ w = w' := by
  go_enter Try.func9, Try.ntmps9
  go_wp2_with (go_at_call 15; refine (l00InB_any _ _ _ _).mono ?_; rintro e w' ⟨rfl, rfl⟩)
  go_ret
  exact ⟨rfl, rfl⟩
set_option maxHeartbeats 400000 in
theorem levelOk_any (a : Int) (w : World) : Calls Try.prog 12 #[.int .i64 a] w fun e w' => e = .returned (.bool (levelB a)) ∧ w = w' := by
  go_enter Try.func12, Try.ntmps12
  go_wp2_with (go_at_call 19; refine (withinB_any _ _ _ _).mono ?_; rintro e w' ⟨rfl, rfl⟩)
  go_ret
  exact ⟨rfl, rfl⟩
set_option maxHeartbeats 4000000 in
theorem l24One_any (pb po : Nat) (x : DGroup) (w : World) (hp : PGroup w pb po x) (hok : x.id.size ≤ 9223372036854775807) :
    Calls Try.prog 8 #[.pointer (some ⟨pb, po, none⟩)] w fun e w' => e = .returned (.bool (groupB x)) ∧ Below w.heap.size w w' := by
  obtain ⟨c0, c1, c2, c3, c4, c5, c6⟩ := hp
  go_enter Try.func8, Try.ntmps8
  go_wp2
  refine wp_region_quiet_lit (by kernel_rfl) (by kernel_rfl) ?_
  repeat go_big_quiet_step ((go_at_call 14; exact quiet_left (l01Name_any _ _ hok)))
  cases h0 : nameB x.id
  · repeat go_big_quiet_step (fail)
    refine wpQuiet_nil ?_
    intro _ hw'
    obtain ⟨nq, hw''⟩ := hw'
    subst hw''
    go_wp2
    go_ret
    exact ⟨ret_bool (by simp [groupB, *]), (by repeat (first | exact Below.refl _ _ | assumption | refine Below.alloc ?_ (by first | omega | (simp <;> omega)) _ | refine Below.setCell ?_ (by first | (show _ ≤ _; omega) | (simp <;> omega)) _ | refine Below.drew ?_ | refine below_drewN ?_ _))⟩
  · skip
    repeat go_big_quiet_step ((go_at_call 15; exact quiet_left (l00InB_any _ _ _ _)))
    cases h1 : inB x.people 1 30
    · repeat go_big_quiet_step (fail)
      refine wpQuiet_nil ?_
      intro _ hw'
      obtain ⟨nq, hw''⟩ := hw'
      subst hw''
      go_wp2
      go_ret
      exact ⟨ret_bool (by simp [groupB, *]), (by repeat (first | exact Below.refl _ _ | assumption | refine Below.alloc ?_ (by first | omega | (simp <;> omega)) _ | refine Below.setCell ?_ (by first | (show _ ≤ _; omega) | (simp <;> omega)) _ | refine Below.drew ?_ | refine below_drewN ?_ _))⟩
    · skip
      repeat go_big_quiet_step ((go_at_call 15; exact quiet_left (l00InB_any _ _ _ _)))
      cases h2 : inB x.guides 0 x.people
      · repeat go_big_quiet_step (fail)
        refine wpQuiet_nil ?_
        intro _ hw'
        obtain ⟨nq, hw''⟩ := hw'
        subst hw''
        go_wp2
        go_ret
        exact ⟨ret_bool (by simp [groupB, *]), (by repeat (first | exact Below.refl _ _ | assumption | refine Below.alloc ?_ (by first | omega | (simp <;> omega)) _ | refine Below.setCell ?_ (by first | (show _ ≤ _; omega) | (simp <;> omega)) _ | refine Below.drew ?_ | refine below_drewN ?_ _))⟩
      · skip
        repeat go_big_quiet_step ((go_at_call 15; exact quiet_left (l00InB_any _ _ _ _)))
        cases h3 : inB x.beacons 0 30
        · repeat go_big_quiet_step (fail)
          refine wpQuiet_nil ?_
          intro _ hw'
          obtain ⟨nq, hw''⟩ := hw'
          subst hw''
          go_wp2
          go_ret
          exact ⟨ret_bool (by simp [groupB, *]), (by repeat (first | exact Below.refl _ _ | assumption | refine Below.alloc ?_ (by first | omega | (simp <;> omega)) _ | refine Below.setCell ?_ (by first | (show _ ≤ _; omega) | (simp <;> omega)) _ | refine Below.drew ?_ | refine below_drewN ?_ _))⟩
        · skip
          repeat go_big_quiet_step ((go_at_call 15; exact quiet_left (l00InB_any _ _ _ _)))
          cases h4 : inB x.shovels 0 30
          · repeat go_big_quiet_step (fail)
            refine wpQuiet_nil ?_
            intro _ hw'
            obtain ⟨nq, hw''⟩ := hw'
            subst hw''
            go_wp2
            go_ret
            exact ⟨ret_bool (by simp [groupB, *]), (by repeat (first | exact Below.refl _ _ | assumption | refine Below.alloc ?_ (by first | omega | (simp <;> omega)) _ | refine Below.setCell ?_ (by first | (show _ ≤ _; omega) | (simp <;> omega)) _ | refine Below.drew ?_ | refine below_drewN ?_ _))⟩
          · skip
            repeat go_big_quiet_step ((go_at_call 15; exact quiet_left (l00InB_any _ _ _ _)))
            cases h5 : inB x.probes 0 30
            · repeat go_big_quiet_step (fail)
              refine wpQuiet_nil ?_
              intro _ hw'
              obtain ⟨nq, hw''⟩ := hw'
              subst hw''
              go_wp2
              go_ret
              exact ⟨ret_bool (by simp [groupB, *]), (by repeat (first | exact Below.refl _ _ | assumption | refine Below.alloc ?_ (by first | omega | (simp <;> omega)) _ | refine Below.setCell ?_ (by first | (show _ ≤ _; omega) | (simp <;> omega)) _ | refine Below.drew ?_ | refine below_drewN ?_ _))⟩
            · skip
              repeat go_big_quiet_step ((go_at_call 15; exact quiet_left (l00InB_any _ _ _ _)))
              cases h6 : inB x.skill 1 5
              · repeat go_big_quiet_step (fail)
                refine wpQuiet_nil ?_
                intro _ hw'
                obtain ⟨nq, hw''⟩ := hw'
                subst hw''
                go_wp2
                go_ret
                exact ⟨ret_bool (by simp [groupB, *]), (by repeat (first | exact Below.refl _ _ | assumption | refine Below.alloc ?_ (by first | omega | (simp <;> omega)) _ | refine Below.setCell ?_ (by first | (show _ ≤ _; omega) | (simp <;> omega)) _ | refine Below.drew ?_ | refine below_drewN ?_ _))⟩
              · skip
                repeat go_big_quiet_step (fail)
                refine wpQuiet_nil ?_
                intro _ hw'
                obtain ⟨nq, hw''⟩ := hw'
                subst hw''
                go_wp2
                go_ret
                exact ⟨ret_bool (by simp [groupB, *]), (by repeat (first | exact Below.refl _ _ | assumption | refine Below.alloc ?_ (by first | omega | (simp <;> omega)) _ | refine Below.setCell ?_ (by first | (show _ ≤ _; omega) | (simp <;> omega)) _ | refine Below.drew ?_ | refine below_drewN ?_ _))⟩

def allIn (xs : List Int) (lo hi : Int) : Bool := xs.all fun x => inB x lo hi
set_option maxHeartbeats 1000000 in
theorem allWithin1_any (x lo hi : Int) (a1 a2 : Addr) (w : World) (h1 : w.cell? a1 = some (.int .i64 lo)) (h2 : w.cell? a2 = some (.int .i64 hi)) :
    Calls Try.prog 27 #[.int .i64 x, .pointer (some a1), .pointer (some a2)] w fun e w' => e = .returned (.bool (!(inB x lo hi))) ∧ w = w' := by
  go_enter Try.func27, Try.ntmps27
  go_wp2_with (go_at_call 19; refine (withinB_any _ _ _ _).mono ?_; rintro e w' ⟨rfl, rfl⟩)
  go_ret
  exact ⟨rfl, rfl⟩

/-- Where the first element outside stands, or -1. -/
def IdxR (xs : List Int) (lo hi : Int) (w : World) (e : Ending) (w' : World) : Prop := ∃ r : Int, e = .returned (.int .i64 r) ∧ (allIn xs lo hi = true → r = -1) ∧ (allIn xs lo hi = false → 0 ≤ r) ∧ w = w'
set_option maxHeartbeats 1000000 in
theorem indexWithin_any (v : Value) (xs : List Int) (fp : List Nat) (lo hi : Int) (a1 a2 : Addr) (w : World) (hx : Sl fInt.cod w v xs fp) (h1 : w.cell? a1 = some (.int .i64 lo)) (h2 : w.cell? a2 = some (.int .i64 hi)) :
    Calls Try.prog 30 #[v, .func (.func 27) #[] #[.pointer (some a1), .pointer (some a2)]] w fun e w' => IdxR xs lo hi w e w' := by
  obtain ⟨A, cap, rfl, hlen, hcap⟩ := hx.form
  go_enter Try.func30, Try.ntmps30
  go_wp2
  go_loop [8] (fun i => ∃ k : Nat, k ≤ xs.length ∧ i = .int .i64 k ∧ Hid (allIn (xs.take k) lo hi = true)) (fun i => xs.length - (intOf i).toNat)
  case atStart => exact ⟨0, Nat.zero_le _, rfl, rfl⟩
  case round =>
    obtain ⟨k, hk, rfl, HE⟩ := hrel
    by_cases hlt : k < xs.length
    · obtain ⟨b, off, rfl, _, hok, hc, _⟩ := hx.cell1 rfl hlt rfl
      cases hb : inB xs[k] lo hi
      · have HA : Hid (allIn xs lo hi = false) := by
          show allIn xs lo hi = false
          unfold allIn
          rw [List.all_eq_false]
          exact ⟨xs[k], List.getElem_mem hlt, by rw [hb]; simp⟩
        go_wp2_with (go_at_call 27; refine (allWithin1_any _ _ _ _ _ _ h1 h2).mono ?_; rintro e w' ⟨rfl, rfl⟩)
        go_ret
        exact ⟨k, rfl, fun h => by (rw [HA.out] at h; cases h), fun _ => by omega, rfl⟩
      · have HA : Hid (allIn (xs.take (k + 1)) lo hi = true) := by
          show allIn _ lo hi = true
          have h0 := HE.out
          unfold allIn at *
          rw [List.take_succ_eq_append_getElem hlt, List.all_append, h0]
          simp [hb]
        go_wp2_with (go_at_call 27; refine (allWithin1_any _ _ _ _ _ _ h1 h2).mono ?_; rintro e w' ⟨rfl, rfl⟩)
        go_round
        case rel => exact ⟨k + 1, by omega, by go_num, HA⟩
        case measure => simp [intOf]; omega
    · have HA : Hid (allIn xs lo hi = true) := by have := HE.out; rw [List.take_of_length_le (by omega)] at this; exact this
      go_wp2
      go_ret
      exact ⟨-1, rfl, fun _ => rfl, fun h => by (rw [HA.out] at h; cases h), rfl⟩

set_option maxHeartbeats 1000000 in
theorem containsWithin_any (v : Value) (xs : List Int) (fp : List Nat) (lo hi : Int) (a1 a2 : Addr) (w : World) (hx : Sl fInt.cod w v xs fp) (h1 : w.cell? a1 = some (.int .i64 lo)) (h2 : w.cell? a2 = some (.int .i64 hi)) :
    Calls Try.prog 26 #[v, .func (.func 27) #[] #[.pointer (some a1), .pointer (some a2)]] w fun e w' => e = .returned (.bool (!(allIn xs lo hi))) ∧ w = w' := by
  go_enter Try.func26, Try.ntmps26
  go_wp2_with fail
  refine (indexWithin_any v xs fp lo hi a1 a2 w hx h1 h2).mono ?_
  rintro e w' ⟨r, rfl, hr1, hr2, rfl⟩
  cases hb : allIn xs lo hi
  · have h3 := hr2 hb
    clear hr1 hr2
    go_wp2
    go_ret
    exact ⟨ret_bool (by simp [hb]), rfl⟩
  · have h3 := hr1 hb
    clear hr1 hr2
    subst h3
    go_wp2
    go_ret
    exact ⟨ret_bool (by simp [hb]), rfl⟩

set_option maxHeartbeats 1000000 in
theorem allWithin_any (v : Value) (xs : List Int) (fp : List Nat) (lo hi : Int) (w : World) (hx : Sl fInt.cod w v xs fp) :
    Calls Try.prog 20 #[v, .int .i64 lo, .int .i64 hi] w fun e w' => e = .returned (.bool (allIn xs lo hi)) ∧ Below w.heap.size w w' := by
  have hmf : ∀ (fn : Fn) (first cap : Array Value) (W : World), (Instr.makeFunc fn first cap).run Try.prog W = .ok (.func fn first cap) W := fun _ _ _ _ => rfl
  have hx2 := (hx.below' ((Below.refl _ _).alloc (Nat.le_refl _) (.cells #[.int .i64 lo] 2))).below' ((Below.refl _ _).alloc (Nat.le_refl _) (.cells #[.int .i64 hi] 2))
  go_enter Try.func20, Try.ntmps20
  go_wp2_with fail
  refine (containsWithin_any v xs fp lo hi _ _ _ hx2 (by simp) (by simp)).mono ?_
  rintro e w' ⟨rfl, rfl⟩
  cases hb : allIn xs lo hi
  all_goals
    go_wp2
    go_ret
    exact ⟨ret_bool (by simp [hb]), (by repeat (first | exact Below.refl _ _ | assumption | refine Below.alloc ?_ (by first | omega | (simp <;> omega)) _ | refine Below.setCell ?_ (by first | (show _ ≤ _; omega) | (simp <;> omega)) _ | refine Below.drew ?_ | refine below_drewN ?_ _))⟩

end Go.Proofs.Ytmkjgehhkmfoiab
