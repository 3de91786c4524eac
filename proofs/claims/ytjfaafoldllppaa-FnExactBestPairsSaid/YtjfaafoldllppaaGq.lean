
/- Contracts of the functions on one group of people, second part. Written by wip/gen/gq.py. -/
import Derived.Test.YtjfaafoldllppaaGr
import Derived.Test.YtjfaafoldllppaaMark
namespace Go.Proofs.Ytjfaafoldllppaa
open Go.RowKit
set_option linter.unusedVariables false

theorem Sl.lit {α : Type} {E : Flat α} (w : World) (xs : List α) (T : TypeId) (cs : Array Value) (hcs : cs = (xs.flatMap E.enc).toArray) (hok : ∀ x ∈ xs, E.ok x) (hne : 0 < xs.length) (hm : xs.length ≤ 9223372036854775807) :
    Sl E.cod (w.alloc (.cells cs T)) (.slice (some ⟨w.heap.size, 0, none⟩) xs.length xs.length) xs [w.heap.size] := by
  subst hcs
  refine Sl.of_cells (Nat.le_refl _) hm (by simp) (fun j hj => ⟨?_, ?_⟩) hok hne
  · rw [World.cell?_alloc_at _ _ _ _ rfl]; simp
  · rw [World.frozen?_alloc_at _ _ _ _ rfl]


set_option maxRecDepth 100000 in
set_option maxHeartbeats 4000000 in
theorem implValid_any (x : DGroup) (w : World) (hok : fGroup.ok x) :
    Calls Try.prog 43 #[.agg #[.string x.id, .int .i64 x.people, .int .i64 x.guides, .int .i64 x.beacons, .int .i64 x.shovels, .int .i64 x.probes, .int .i64 x.skill]] w fun e w' => e = .returned (.bool (groupB x)) ∧ Below w.heap.size w w' := by
  have hok0 : x.id.size ≤ 9223372036854775807 := hok.1
  cases h0 : nameB x.id
  · skip
    go_enter Try.func43, Try.ntmps43
    go_wp2_with (first | (go_at_call 66; refine (implIsName_any _ _ hok0).mono ?_; rintro e w' ⟨rfl, rfl⟩) | (go_at_call 44; refine (withinB_any _ _ _ _).mono ?_; rintro e w' ⟨rfl, rfl⟩))
    go_ret
    exact ⟨ret_bool (by simp [groupB, *]), (by repeat (first | exact Below.refl _ _ | assumption | refine Below.alloc ?_ (by first | omega | (simp <;> omega)) _ | refine Below.setCell ?_ (by first | (show _ ≤ _; omega) | (simp <;> omega)) _ | refine Below.drew ?_ | refine below_drewN ?_ _))⟩
  · cases h1 : inB x.people 1 30
    · skip
      go_enter Try.func43, Try.ntmps43
      go_wp2_with (first | (go_at_call 66; refine (implIsName_any _ _ hok0).mono ?_; rintro e w' ⟨rfl, rfl⟩) | (go_at_call 44; refine (withinB_any _ _ _ _).mono ?_; rintro e w' ⟨rfl, rfl⟩))
      go_ret
      exact ⟨ret_bool (by simp [groupB, *]), (by repeat (first | exact Below.refl _ _ | assumption | refine Below.alloc ?_ (by first | omega | (simp <;> omega)) _ | refine Below.setCell ?_ (by first | (show _ ≤ _; omega) | (simp <;> omega)) _ | refine Below.drew ?_ | refine below_drewN ?_ _))⟩
    · cases h2 : inB x.guides 0 x.people
      · skip
        go_enter Try.func43, Try.ntmps43
        go_wp2_with (first | (go_at_call 66; refine (implIsName_any _ _ hok0).mono ?_; rintro e w' ⟨rfl, rfl⟩) | (go_at_call 44; refine (withinB_any _ _ _ _).mono ?_; rintro e w' ⟨rfl, rfl⟩))
        go_ret
        exact ⟨ret_bool (by simp [groupB, *]), (by repeat (first | exact Below.refl _ _ | assumption | refine Below.alloc ?_ (by first | omega | (simp <;> omega)) _ | refine Below.setCell ?_ (by first | (show _ ≤ _; omega) | (simp <;> omega)) _ | refine Below.drew ?_ | refine below_drewN ?_ _))⟩
      · have hg : groupB x = (allIn [x.beacons, x.shovels, x.probes] 0 30 && inB x.skill 1 5) := by
          simp [groupB, h0, h1, h2, allIn, Bool.and_assoc]
        have HG := Lib.hid hg
        clear hg
        have hb0 : Below w.heap.size w ((w.alloc (.cells #[.string x.id, .int .i64 x.people, .int .i64 x.guides, .int .i64 x.beacons, .int .i64 x.shovels, .int .i64 x.probes, .int .i64 x.skill] 43)).alloc (.cells #[.int .i64 x.beacons, .int .i64 x.shovels, .int .i64 x.probes] 2)) := (by repeat (first | exact Below.refl _ _ | assumption | refine Below.alloc ?_ (by first | omega | (simp <;> omega)) _ | refine Below.setCell ?_ (by first | (show _ ≤ _; omega) | (simp <;> omega)) _ | refine Below.drew ?_ | refine below_drewN ?_ _))
        have hsl_ := Sl.lit (E := fInt) (w.alloc (.cells #[.string x.id, .int .i64 x.people, .int .i64 x.guides, .int .i64 x.beacons, .int .i64 x.shovels, .int .i64 x.probes, .int .i64 x.skill] 43)) [x.beacons, x.shovels, x.probes] 2 #[.int .i64 x.beacons, .int .i64 x.shovels, .int .i64 x.probes] rfl (by intro y hy; simp at hy; rcases hy with rfl | rfl | rfl; exact hok.2.2.2.1; exact hok.2.2.2.2.1; exact hok.2.2.2.2.2.1) (by simp) (by simp)
        have hsz : (w.alloc (.cells #[.string x.id, .int .i64 x.people, .int .i64 x.guides, .int .i64 x.beacons, .int .i64 x.shovels, .int .i64 x.probes, .int .i64 x.skill] 43)).heap.size = w.heap.size + 1 := by simp
        rw [hsz] at hsl_
        have hsl : Sl fInt.cod ((w.alloc (.cells #[.string x.id, .int .i64 x.people, .int .i64 x.guides, .int .i64 x.beacons, .int .i64 x.shovels, .int .i64 x.probes, .int .i64 x.skill] 43)).alloc (.cells #[.int .i64 x.beacons, .int .i64 x.shovels, .int .i64 x.probes] 2)) (.slice (some ⟨w.heap.size + 1, 0, none⟩) 3 3) [x.beacons, x.shovels, x.probes] [w.heap.size + 1] := hsl_
        clear hsl_ hsz
        go_enter Try.func43, Try.ntmps43
        go_wp2_with (first | (go_at_call 66; refine (implIsName_any _ _ hok0).mono ?_; rintro e w' ⟨rfl, rfl⟩) | (go_at_call 44; refine (withinB_any _ _ _ _).mono ?_; rintro e w' ⟨rfl, rfl⟩))
        refine (allWithin_any _ [x.beacons, x.shovels, x.probes] _ 0 30 _ hsl).mono ?_
        rintro e w1 ⟨rfl, hb⟩
        have hc6 : w1.cell? ⟨w.heap.size, 6, none⟩ = some (.int .i64 x.skill) := by rw [hb.cell (by simp <;> omega)]; simp
        have hb1 : Below w.heap.size w w1 := hb0.trans (hb.mono (by simp <;> omega))
        clear hsl hb hb0
        cases h3 : allIn [x.beacons, x.shovels, x.probes] 0 30
        · go_wp2_with (go_at_call 44; refine (withinB_any _ _ _ _).mono ?_; rintro e w' ⟨rfl, rfl⟩)
          go_ret
          exact ⟨ret_bool (by rw [HG.out, h3]; rfl), hb1⟩
        · go_wp2_with (go_at_call 44; refine (withinB_any _ _ _ _).mono ?_; rintro e w' ⟨rfl, rfl⟩)
          go_ret
          exact ⟨ret_bool (by rw [HG.out, h3]; rfl), hb1⟩

def guidesF (p l : Int) : Int := if l = 1 then 0 else if l = 2 then (p + 11) / 12 else if l = 3 then (p + 7) / 8 else if l = 4 then (p + 3) / 4 else p
set_option maxRecDepth 100000 in
set_option maxHeartbeats 1000000 in
theorem l24Guides_any (p l : Int) (w : World) (hp : 1 ≤ p ∧ p ≤ 1000) :
    Calls Try.prog 74 #[.int .i64 p, .int .i64 l] w fun e w' => e = .returned (.int .i64 (guidesF p l)) ∧ w = w' := by
  obtain ⟨hp0, hp1⟩ := hp
  by_cases h1 : l = 1
  · subst h1
    go_enter Try.func74, Try.ntmps74
    go_wp2
    go_ret
    exact ⟨rfl, rfl⟩
  · by_cases h2 : l = 2
    · subst h2
      go_enter Try.func74, Try.ntmps74
      go_wp2
      go_ret
      exact ⟨ret_int (show _ = (p + 11) / 12 from by first | rfl | (rw [show p + 12 - 1 = p + 11 from by omega])), rfl⟩
    · by_cases h3 : l = 3
      · subst h3
        go_enter Try.func74, Try.ntmps74
        go_wp2
        go_ret
        exact ⟨ret_int (show _ = (p + 7) / 8 from by first | rfl | (rw [show p + 8 - 1 = p + 7 from by omega])), rfl⟩
      · by_cases h4 : l = 4
        · subst h4
          go_enter Try.func74, Try.ntmps74
          go_wp2
          go_ret
          exact ⟨ret_int (show _ = (p + 3) / 4 from by first | rfl | (rw [show p + 4 - 1 = p + 3 from by omega])), rfl⟩
        · have e1 : (l == 1) = false := by simpa using h1
          have e2 : (l == 2) = false := by simpa using h2
          have e3 : (l == 3) = false := by simpa using h3
          have e4 : (l == 4) = false := by simpa using h4
          have hg : guidesF p l = p := by unfold guidesF; rw [if_neg h1, if_neg h2, if_neg h3, if_neg h4]
          rw [hg]
          clear h1 h2 h3 h4 hg
          go_enter Try.func74, Try.ntmps74
          go_wp2
          go_ret
          exact ⟨rfl, rfl⟩
set_option maxRecDepth 100000 in
set_option maxHeartbeats 1000000 in
theorem divUp_any (a b : Int) (w : World) (ha : 0 ≤ a) (hb : 1 ≤ b) (h : a + b ≤ 1000000) :
    Calls Try.prog 68 #[.int .i64 a, .int .i64 b] w fun e w' => e = .returned (.int .i64 ((a + b - 1) / b)) ∧ w = w' := by
  have h0 : (b == 0) = false := by rw [beq_eq_false_iff_ne]; omega
  have h1 : 0 ≤ a + b - 1 := by omega
  have h2 : a + b - 1 ≤ 1000000 := by omega
  have h3 : (a + b - 1) / b ≤ a + b - 1 := Int.ediv_le_self _ h1
  have h4 : 0 ≤ (a + b - 1) / b := Int.ediv_nonneg h1 (by omega)
  go_enter Try.func68, Try.ntmps68
  go_wp2
  go_ret
  exact ⟨rfl, rfl⟩
set_option maxRecDepth 100000 in
set_option maxHeartbeats 1000000 in
theorem neededGuides_any (p l : Int) (w : World) (hp : 1 ≤ p ∧ p ≤ 1000) :
    Calls Try.prog 45 #[.int .i64 p, .int .i64 l] w fun e w' => e = .returned (.int .i64 (guidesF p l)) ∧ w = w' := by
  obtain ⟨hp0, hp1⟩ := hp
  by_cases h1 : l = 1
  · subst h1
    go_enter Try.func45, Try.ntmps45
    go_wp2
    go_ret
    exact ⟨rfl, rfl⟩
  · by_cases h2 : l = 2
    · subst h2
      go_enter Try.func45, Try.ntmps45
      go_wp2_with (go_at_call 68; refine (divUp_any _ _ _ (by omega) (by omega) (by omega)).mono ?_; rintro e w' ⟨rfl, rfl⟩)
      go_ret
      exact ⟨ret_int (show _ = (p + 11) / 12 from by first | rfl | (rw [show p + 12 - 1 = p + 11 from by omega])), rfl⟩
    · by_cases h3 : l = 3
      · subst h3
        go_enter Try.func45, Try.ntmps45
        go_wp2_with (go_at_call 68; refine (divUp_any _ _ _ (by omega) (by omega) (by omega)).mono ?_; rintro e w' ⟨rfl, rfl⟩)
        go_ret
        exact ⟨ret_int (show _ = (p + 7) / 8 from by first | rfl | (rw [show p + 8 - 1 = p + 7 from by omega])), rfl⟩
      · by_cases h4 : l = 4
        · subst h4
          go_enter Try.func45, Try.ntmps45
          go_wp2_with (go_at_call 68; refine (divUp_any _ _ _ (by omega) (by omega) (by omega)).mono ?_; rintro e w' ⟨rfl, rfl⟩)
          go_ret
          exact ⟨ret_int (show _ = (p + 3) / 4 from by first | rfl | (rw [show p + 4 - 1 = p + 3 from by omega])), rfl⟩
        · have e1 : (l == 1) = false := by simpa using h1
          have e2 : (l == 2) = false := by simpa using h2
          have e3 : (l == 3) = false := by simpa using h3
          have e4 : (l == 4) = false := by simpa using h4
          have hg : guidesF p l = p := by unfold guidesF; rw [if_neg h1, if_neg h2, if_neg h3, if_neg h4]
          rw [hg]
          clear h1 h2 h3 h4 hg
          go_enter Try.func45, Try.ntmps45
          go_wp2
          go_ret
          exact ⟨rfl, rfl⟩

end Go.Proofs.Ytjfaafoldllppaa
